/-
  A row of tokens that a call rearranges: its elements, what is loaded, what a store of a whole token does. Plain lemmas. No condition.
-/
import Derived.Test.YtcoiagfeoonpbaaMj22
import Derived.Sort.LotA
import Derived.Sort.Lot0
import Derived.Laws.IdiomCopy
import Derived.Test.YtcoiagfeoonpbaaMj6
import Derived.Test.YtcoiagfeoonpbaaMj19
import Derived.Test.YtcoiagfeoonpbaaMj4
namespace Go.Proofs.Ytcoiagfeoonpbaa
open Go.RowKit
instance : Inhabited Tok := ⟨⟨0, .empty, 0, 0, 0⟩⟩
def WrP (w : World) (q o : Nat) : Prop := ∀ j, j < 5 → (w.cell? ⟨q, o + j, none⟩).isSome = true ∧ w.frozen? ⟨q, o + j, none⟩ = false
theorem tokR_len (t : Tok) : (tokR t).length = 5 := rfl
def TRow (w : World) (q : Nat) (d : Array Tok) : Prop := ∀ i, i < d.size → ∀ j (hj : j < 5), w.cell? ⟨q, i * 5 + j, none⟩ = some ((tokR d[i]!)[j]'(by rw [tokR_len]; exact hj)) ∧ w.frozen? ⟨q, i * 5 + j, none⟩ = false
section
variable {w w' : World} {q : Nat} {d : Array Tok}
theorem TRow.wr (h : TRow w q d) {i : Nat} (hi : i < d.size) : WrP w q (i * 5) := fun j hj => by
  obtain ⟨h1, h2⟩ := h i hi j hj
  exact ⟨by rw [h1]; rfl, h2⟩
theorem TRow.c5 (h : TRow w q d) {i : Nat} (hi : i < d.size) {e : Tok} (he : d[i]! = e) : w.cell? ⟨q, i * 5, none⟩ = some (.int .i64 e.k) ∧ w.cell? ⟨q, i * 5 + 1, none⟩ = some (.string e.s) ∧ w.cell? ⟨q, i * 5 + 2, none⟩ = some (.int .i64 e.n) ∧ w.cell? ⟨q, i * 5 + 3, none⟩ = some (.int .i64 e.l) ∧ w.cell? ⟨q, i * 5 + 4, none⟩ = some (.int .i64 e.c) := by
  subst he
  exact ⟨(h i hi 0 (by decide)).1, (h i hi 1 (by decide)).1, (h i hi 2 (by decide)).1, (h i hi 3 (by decide)).1, (h i hi 4 (by decide)).1⟩
theorem TRow.keep (h : TRow w q d) (hq : q < w.heap.size) (hb : Below w.heap.size w w') : TRow w' q d := fun i hi j hj => by
  obtain ⟨h1, h2⟩ := h i hi j hj
  exact ⟨(hb.cell (p := ⟨q, i * 5 + j, none⟩) hq).trans h1, by rw [World.frozen?, hb.block q hq]; exact h2⟩
theorem TRow.set (h : TRow w q d) {i : Nat} (hi : i < d.size) (e : Tok) : TRow (w.setCells q (i * 5) (tokR e)) q (d.setIfInBounds i e) := fun k hk j hj => by
  rw [Array.size_setIfInBounds] at hk
  refine ⟨?_, by rw [World.frozen?_setCells]; exact (h k hk j hj).2⟩
  by_cases hki : k = i
  · subst hki
    have e1 : (d.setIfInBounds k e)[k]! = e := by simp [hk]
    rw [World.cell?_setCells_in q (tokR e) (k * 5) w (fun j hj => (h.wr hk j hj).1) j hj]
    simp only [e1]; rfl
  · have e1 : (d.setIfInBounds i e)[k]! = d[k]! := by simp [hk, Ne.symm hki]
    rw [World.cell?_setCells_out q _ _ _ _ (fun _ _ => by show k * 5 + j < _ ∨ _ ≤ k * 5 + j; rw [tokR_len]; omega), (h k hk j hj).1]
    simp [e1]
theorem grownBy_setCells5 (w : World) (g : Nat) (cs : List Value) : ∀ p, w.grownBy (w.setCells g p cs) (some g) := by
  induction cs generalizing w with
  | nil => intro p; exact grownBy_refl _ _
  | cons c cs ih => intro p; rw [World.setCells]; exact grownBy_trans (grownBy_setCell w g p c) (ih _ _)
structure DS (w0 : World) (q : Nat) (d : Array Tok) (w : World) : Prop where
  hq : q < w0.heap.size
  gr : w0.grownBy w (some q)
  row : TRow w q d
variable {w0 : World}
theorem DS.lt (h : DS w0 q d w) : q < w.heap.size := Nat.lt_of_lt_of_le h.hq h.gr.size
theorem DS.keep (h : DS w0 q d w) (hb : Below w.heap.size w w') : DS w0 q d w' :=
  ⟨h.hq, grownBy_trans h.gr ⟨hb.os, hb.tape, hb.output, hb.size, fun k hk _ => hb.block k hk⟩, h.row.keep h.lt hb⟩
theorem DS.alloc (h : DS w0 q d w) (o : Obj) : DS w0 q d (w.alloc o) := h.keep (below_new w o)
theorem DS.put (h : DS w0 q d w) {i : Nat} (hi : i < d.size) (e : Tok) : DS w0 q (d.setIfInBounds i e) (w.setCells q (i * 5) (tokR e)) :=
  ⟨h.hq, grownBy_trans h.gr (grownBy_setCells5 w q _ _), h.row.set hi e⟩
end
def stFp : Value → Nat | .pointer (some a) => a.off | _ => 0
def stBp : Value → Nat | .pointer (some a) => a.block | _ => 0
def stCp : Value → List Value | .agg cs => cs.toList | _ => []
theorem stFp_eq (a : Addr) : stFp (.pointer (some a)) = a.off := rfl
theorem stBp_eq (a : Addr) : stBp (.pointer (some a)) = a.block := rfl
theorem stCp_eq (cs : Array Value) : stCp (.agg cs) = cs.toList := rfl
def StP (w : World) (x y : Value) : Prop := ∃ g p cs, x = .pointer (some ⟨g, p, none⟩) ∧ y = .agg cs ∧ cs.size = 5 ∧ cs.all (·.oneCell') = true ∧ WrP w g p
theorem stP_eq {w : World} {g p : Nat} {k n l c : Int} {s : ByteArray} : StP w (.pointer (some ⟨g, p, none⟩)) (.agg #[.int .i64 k, .string s, .int .i64 n, .int .i64 l, .int .i64 c]) = WrP w g p := by
  refine propext ⟨?_, fun hw => ⟨g, p, _, rfl, rfl, rfl, by simp [Value.oneCell'], hw⟩⟩
  rintro ⟨g', p', cs', e1, e2, _, _, hw⟩
  cases e1; exact hw
theorem wp_store_P {dst : Option Nat} {ty : TypeId} {pos : String} {after : Array Edge} {guard : Option (Nat × Bool)} {x y : Operand} {a : Act} {w : World} {K : Act → World → Prop} {Q : Exit → Act → World → Prop} (h : StP w (a.eval x) (a.eval y)) :
    Oper.wp Try.prog { dst := dst, op := .store 71 x y, type := ty, pos := pos, after := after, guard := guard } a w K Q = K (a.put dst undef) (w.setCells (stBp (a.eval x)) (stFp (a.eval x)) (stCp (a.eval y))) := by
  obtain ⟨g, p, cs, hx, hy, hn, h1, hw⟩ := h
  have hl : cs.toList.length = 5 := by rw [Array.length_toList]; exact hn
  have hs := run_storeCells_cells (P := Try.prog) g p cs.toList 0 w (fun j hj => (hw j (by omega)).1) (fun j hj => (hw j (by omega)).2) (fun v hv => (Array.all_eq_true_iff_forall_mem.1 h1) v (by simpa using hv))
  have hi : (Try.prog.info? 71).map (·.size) = some 5 := by kernel_rfl
  have hst : (storeVar 71 ⟨g, p, none⟩ (.agg cs)).run Try.prog w = .ok () (w.setCells g p cs.toList) := by
    cases hq : Try.prog.info? 71 with
    | none => simp [hq] at hi
    | some i =>
      have hs4 : cs.size = i.size := by simp [hq] at hi; omega
      simp [storeVar, sizeOf, typeInfo, hq, Value.cells, hs4]
      simpa using hs
  unfold Oper.wp execOp
  simp only [hx, hy, Instr.storeAt, Instr.sureAddr, Sem.run_bind, Sem.run_pure, Result.andThen_ok, hst]
  rfl
end Go.Proofs.Ytcoiagfeoonpbaa

/-
  slices.DeleteFunc of the tokens that begin an item. No condition but how they lie.
-/
namespace Go.Proofs.Ytcoiagfeoonpbaa
open Go.RowKit
attribute [local go_sem ↓] wp_store_P
attribute [local go_sem] stP_eq stBp_eq stCp_eq stFp_eq
def keepT (t : Tok) : Bool := !decide (t.k = 1)
end Go.Proofs.Ytcoiagfeoonpbaa

/-
  The expression of a text, in plain words; the tokens that it is read from, and that the last one is the end's. Plain law. No condition.
-/
namespace Go.Proofs.Ytcoiagfeoonpbaa
open Go.RowKit
def tkOf (t : Tok) : Tk := ⟨t.k, t.s, t.n, t.l, t.c⟩
inductive Pr1 where
  | ok (x : Ex)
  | bad (k l c : Int)
theorem OwnT.ds {base : Nat} {w : World} {a : Option Addr} {n cap : Nat} {ts : List Tok} (h : OwnT base w (.slice a n cap) ts) (hn : ts ≠ []) : ∃ q, a = some ⟨q, 0, none⟩ ∧ base ≤ q ∧ n = ts.length ∧ n ≤ cap ∧ cap ≤ 9223372036854775807 ∧ DS w q ts.toArray w := by
  rcases h.2 with ⟨e, hz⟩ | ⟨g, cap', cur, e, hb, hgg, hncap, hcap, hsz, htake⟩
  · exact absurd (List.eq_nil_of_length_eq_zero hz) hn
  · cases e
    refine ⟨g, rfl, hb, rfl, hncap, by simpa [maxLen] using hcap, ⟨(Array.getElem?_eq_some_iff.1 hgg).1, grownBy_refl _ _, fun i hi j hj => ?_⟩⟩
    have hi' : i < ts.length := by simpa using hi
    refine ⟨?_, frozen_of_row w g _ cur _ hgg⟩
    have hc := World.ownsRow.cellAt h (i * 5 + j) (by omega)
    rw [hc]
    have e1 : ∀ (l : List Tok) (i : Nat) (hi : i < l.length), (tokVs l)[i * 5 + j]? = some ((tokR l[i])[j]'(by rw [tokR_len]; exact hj)) := by
      intro l
      induction l with
      | nil => intro i hi; simp at hi
      | cons t l ih =>
        intro i hi
        have ec : tokVs (t :: l) = tokR t ++ tokVs l := by simp [tokVs]
        rw [ec]
        cases i with
        | zero =>
          rw [Nat.zero_mul, Nat.zero_add, List.getElem?_append_left (by rw [tokR_len]; exact hj), List.getElem?_eq_getElem (by rw [tokR_len]; exact hj)]
          rfl
        | succ i =>
          rw [List.getElem?_append_right (by rw [tokR_len]; omega), tokR_len, show (i + 1) * 5 + j - 5 = i * 5 + j by omega, ih i (by simpa using hi)]
          simp
    rw [e1 ts i hi']
    congr 2
    simp [hi']
end Go.Proofs.Ytcoiagfeoonpbaa

/-
  A text in brackets: its tokens, and what is parsed: the same, or forty open. Plain law. No condition.
-/
namespace Go.Proofs.Ytcoiagfeoonpbaa
def isD (x : UInt8) : Bool := x == 40 || (x == 105 || x == 108)
theorem skipG_col (com : Bool) (r : List UInt8) (l c c' : Nat) : (skipG com r l c).1 = (skipG com r l c').1 ∧ (skipG com r l c).2.1 = (skipG com r l c').2.1 := by
  induction r generalizing com l c c' with
  | nil => cases com <;> exact ⟨rfl, rfl⟩
  | cons x r ih =>
    cases com <;> simp only [skipG] <;> (repeat' split) <;> first | exact ih .. | exact ⟨rfl, rfl⟩
theorem skipG_cnt (p : UInt8 → Bool) (com : Bool) (r : List UInt8) (l c : Nat) : (skipG com r l c).1.countP p ≤ r.countP p := by
  induction r generalizing com l c with
  | nil => cases com <;> exact Nat.le_refl _
  | cons x r ih =>
    have h2 : r.countP p ≤ (x :: r).countP p := by rw [List.countP_cons]; omega
    cases com <;> simp only [skipG] <;> (repeat' split) <;> first | exact Nat.le_trans (ih ..) h2 | exact Nat.le_refl _
def TokS (t u : Tok) : Prop := t.k = u.k ∧ t.s = u.s ∧ t.n = u.n
theorem pre_gone (l c : Nat) (t : Tok) (ht : 1 < t.k) (ts : List Tok) : (((if c = 1 then [(⟨1, str [], 0, l, c⟩ : Tok)] else []) ++ [t]) ++ ts).filter keepT = t :: ts.filter keepT := by
  have h1 : keepT t = true := by unfold keepT; simp; omega
  have h2 : keepT (⟨1, str [], 0, l, c⟩ : Tok) = false := by unfold keepT; simp
  split <;> simp [h1, h2]
theorem tok_open {k m l c : Int} {t : List UInt8} (h : openT (tkOf ⟨k, str t, m, l, c⟩) = true) : 1 ≤ t.countP isD := by
  unfold openT tkOf at h
  simp only [Bool.or_eq_true, Bool.and_eq_true, decide_eq_true_eq] at h
  rcases h with ⟨_, h | h⟩ | ⟨_, h⟩
  · rw [str_inj (m := [108, 101, 116]) h]; decide
  · rw [str_inj (m := [105, 102]) h]; decide
  · rw [str_inj (m := [40]) h]; decide
theorem lexF : ∀ (n : Nat) (com : Bool) (A : List UInt8) (l c c' : Nat), A.length ≤ n → (scanB com A l c).1 = none →
    ∃ ts e us e', (scanB com A l c).2 = ts ++ [e] ∧ scanB com A l c' = (none, us ++ [e']) ∧ e.k = 0 ∧ (∀ t ∈ ts, t.k ≠ 0) ∧ All2 TokS (ts.filter keepT) (us.filter keepT) ∧ ((ts.filter keepT).map tkOf).countP openT ≤ A.countP isD := by
  intro n
  induction n with
  | zero =>
    intro com A l c c' hA _
    have : A = [] := List.eq_nil_of_length_eq_zero (by omega)
    subst this
    have e : ∀ c, scanB com [] l c = (none, [endT l c]) := fun c => by cases com <;> (show scanS [] l c = _; exact scanS_nil l c)
    exact ⟨[], endT l c, [], endT l c', by rw [e]; rfl, by rw [e]; rfl, rfl, by simp, .nil, Nat.le_refl _⟩
  | succ n ih =>
    intro com A l c c' hA h
    have hle := skipG_le com A l c
    have hcnt := skipG_cnt isD com A l c
    obtain ⟨hc1, hc2⟩ := skipG_col com A l c c'
    unfold scanB at h ⊢
    rw [← hc1, ← hc2]
    obtain ⟨r, hr⟩ : ∃ r, (skipG com A l c).1 = r := ⟨_, rfl⟩
    obtain ⟨l1, hl1⟩ : ∃ l1, (skipG com A l c).2.1 = l1 := ⟨_, rfl⟩
    obtain ⟨c1, hc1⟩ : ∃ c1, (skipG com A l c).2.2 = c1 := ⟨_, rfl⟩
    obtain ⟨c1', hc1'⟩ : ∃ c1, (skipG com A l c').2.2 = c1 := ⟨_, rfl⟩
    rw [hr, hl1, hc1] at h ⊢
    rw [hr] at hle hcnt
    rw [hc1']
    cases r with
    | nil =>
      rw [scanS_nil, scanS_nil]
      exact ⟨[], _, [], _, rfl, rfl, rfl, by simp, .nil, Nat.zero_le _⟩
    | cons x r =>
      cases ht : tokL (x :: r) with
      | none => rw [scanS_bad _ _ (by simp) ht] at h; cases h
      | some p =>
        obtain ⟨k, t, m⟩ := p
        obtain ⟨h1, hpre, hk⟩ := tokL_pre ht
        rw [scanS_tok _ _ ht] at h ⊢
        rw [scanS_tok _ _ ht]
        obtain ⟨ts, e, us, e', g1, g2, g3, g4, g5, g6⟩ := ih false ((x :: r).drop t.length) l1 (c1 + t.length) (c1' + t.length) (by rw [List.length_drop]; simp only [List.length_cons] at hle ⊢; omega) h
        refine ⟨_, e, _, e', by rw [addT, g1, ← List.append_assoc], by rw [addT, g2, ← List.append_assoc], g3, fun u hu => ?_, ?_, ?_⟩
        · rcases List.mem_append.1 hu with hu | hu
          · rcases List.mem_append.1 hu with hu | hu
            · split at hu
              · simp only [List.mem_singleton] at hu; subst hu; show (1 : Int) ≠ 0; decide
              · cases hu
            · simp only [List.mem_singleton] at hu; subst hu; show k ≠ 0; omega
          · exact g4 u hu
        · rw [pre_gone _ _ _ hk, pre_gone _ _ _ hk]
          exact .cons ⟨rfl, rfl, rfl⟩ g5
        · rw [pre_gone _ _ _ hk, List.map_cons, List.countP_cons]
          have e1 : (x :: r).countP isD = t.countP isD + ((x :: r).drop t.length).countP isD := by
            obtain ⟨u, hu⟩ := hpre
            rw [← hu, List.drop_left, List.countP_append]
          split
          · rename_i ho
            have := tok_open ho
            omega
          · omega
section
variable {us : List Tk} {g j : Nat} {y : Ex}
end
end Go.Proofs.Ytcoiagfeoonpbaa
