/-
  Arguments that are types or terms, as the walks want them. No condition.
-/
import Derived.Test.YtcoiagfeoonpbaaMt3
import Derived.ChangeSlices
import Derived.ProofKit
import Derived.OpenShut
import Derived.Test.YtcoiagfeoonpbaaMt5
namespace Go.Proofs.Ytcoiagfeoonpbaa
open Go.ChangeShapes Go.WideShapes Go.ChangeAt Go.RowKit
def inI64 (n : Int) : Prop := -9223372036854775808 ≤ n ∧ n ≤ 9223372036854775807
def Tm.ok (t : Tm) : Prop := ∀ x ∈ t.all, inI64 x.kind ∧ inI64 x.n
def Tm.wt (t : Tm) : Nat := (t.all.map fun x => x.name.size + 1).sum
def Tm.wts (ts : List Tm) : Nat := ((Tm.alls ts).map fun x => x.name.size + 1).sum
theorem Tm.wt_eq (t : Tm) : t.wt = t.name.size + 1 + Tm.wts t.args := by rw [Tm.wt, Tm.all_eq, List.map_cons, List.sum_cons, Tm.wts]
theorem Tm.wts_cons (t : Tm) (ts : List Tm) : Tm.wts (t :: ts) = t.wt + Tm.wts ts := by rw [Tm.wts, Tm.alls, List.map_append, List.sum_append, Tm.wt, Tm.wts]
theorem Tm.wts_nil : Tm.wts [] = 0 := by rw [Tm.wts, Tm.alls]; rfl
theorem Tm.wts_app (ts us : List Tm) : Tm.wts (ts ++ us) = Tm.wts ts + Tm.wts us := by rw [Tm.wts, Tm.alls_app, List.map_append, List.sum_append, Tm.wts, Tm.wts]
theorem Tm.size_wt (t : Tm) : t.size ≤ t.wt := by
  unfold Tm.size Tm.wt
  induction t.all with
  | nil => simp
  | cons x l ih => simp only [List.length_cons, List.map_cons, List.sum_cons]; omega
theorem inI64_wf {n : Int} (h : (Lit.int .i64 n).wf = true) : inI64 n := by
  simp [Lit.wf, IntKind.min, IntKind.max, IntKind.signed, IntKind.bits] at h
  unfold inI64; omega
theorem tm_plain {w : World} {a : Addr} {v : Value} (h : w.cell? a = some v) : ∃ b o, a = ⟨b, o, none⟩ := by
  obtain ⟨b, o, c⟩ := a
  cases c with
  | none => exact ⟨b, o, rfl⟩
  | some c =>
    exfalso
    unfold World.cell? at h
    split at h <;> simp at h
theorem plain_add (b o i : Nat) : (⟨b, o, none⟩ : Addr).add i = ⟨b, o + i, none⟩ := by
  unfold Addr.add; split <;> simp_all
theorem choose_list {α : Type} {R : Nat → α → Prop} : ∀ (n : Nat), (∀ i, i < n → ∃ x, R i x) → ∃ l : List α, l.length = n ∧ ∀ i (h : i < l.length), R i l[i]
  | 0, _ => ⟨[], rfl, fun i h => by simp at h⟩
  | n + 1, h => by
    obtain ⟨l, hl, hr⟩ := choose_list n fun i hi => h i (by omega)
    obtain ⟨x, hx⟩ := h n (by omega)
    refine ⟨l ++ [x], by simp [hl], fun i hi => ?_⟩
    simp at hi
    by_cases e : i < l.length
    · rw [List.getElem_append_left e]; exact hr i e
    · obtain rfl : i = l.length := by omega
      rw [List.getElem_append_right (Nat.le_refl _)]
      simpa [hl] using hx
section
variable {H : Type} {enc : TypeId × Value → H} {P : Program} {W : World} {tT tS : TypeId} {f0 f1 f2 f3 : Field}
def TmRead (W : World) (t : Tm) (cs : List Value) (k : Nat) : Prop :=
  ∃ a n cap, cs = [.int .i64 t.kind, .string t.name, .int .i64 t.n, .slice a n cap] ∧ MemW W (.s 4 (Tm.rows t.args)) (.slice a n cap) ∧ t.ok ∧ t.wt ≤ k
def TmsRead (W : World) (ts : List Tm) (cs : List Value) (k : Nat) : Prop :=
  ∃ a n cap, cs = [.slice a n cap] ∧ MemW W (.s 4 (Tm.rows ts)) (.slice a n cap) ∧ (∀ t ∈ ts, t.ok) ∧ Tm.wts ts ≤ k
theorem open_tms_of {fuel : Nat} {cs : List Value} {x : DataW H × List MemPlace} (uS : P.underlying tS = some (.slice tT)) (c4 : P.cellsOf tT = 4)
    (ih : ∀ (n : Nat), n < fuel → ∀ (cs : List Value) (x : DataW H × List MemPlace), DataW.trod enc P W 0 (fun _ => true) true n tT cs = some x → ∃ t, TmRead W t cs (Rows.uptoBulk x.1))
    (h : DataW.trod enc P W 0 (fun _ => true) true fuel tS cs = some x) : ∃ ts, TmsRead W ts cs (Rows.uptoBulk x.1) := by
  rcases DataW.trod_slice uS h with ⟨rfl, rfl⟩ | ⟨a, len, cap, elems, rest, n, rfl, rfl, rfl, _, hle, hm, hlen, hel, _, _⟩
  · exact ⟨[], none, 0, 0, rfl, .e _ _ _ (by decide), by simp, by simp [Tm.wts, Tm.alls]⟩
  · unfold maxLen at hm
    by_cases h0 : len = 0
    · subst h0
      exact ⟨[], some a, 0, cap, rfl, .e _ _ _ (by omega), by simp, by simp [Tm.wts, Tm.alls]⟩
    · have key : ∀ i, i < len → ∃ t : Tm, ∃ cs', (∃ hi : i < elems.length, TmRead W t cs' (Rows.uptoBulk (elems[i]).1)) ∧ cs'.length = 4 ∧ ∀ j (hj : j < cs'.length), W.cell? ((a.add (i * 4)).add j) = some cs'[j] := fun i hi => by
        have he := hel i hi
        rw [c4, List.getElem?_eq_getElem (by omega)] at he
        obtain ⟨cs', h1, h2⟩ := Option.bind_eq_some_iff.1 he
        obtain ⟨t, ht⟩ := ih n (by omega) cs' _ h2
        obtain ⟨_, hl, hc⟩ := World.cells?_some h1
        exact ⟨t, cs', ⟨by omega, ht⟩, hl, fun j hj => by rw [hc j (by omega), List.getElem?_eq_getElem]⟩
      obtain ⟨b, o, rfl⟩ : ∃ b o, a = ⟨b, o, none⟩ := by
        obtain ⟨_, cs', _, hl, hc⟩ := key 0 (by omega)
        have := hc 0 (by omega)
        have e : (a.add (0 * 4)).add 0 = a := by obtain ⟨b, o, c⟩ := a; cases c <;> simp [Addr.add]
        rw [e] at this
        exact tm_plain this
      obtain ⟨ts, hts, hr⟩ := choose_list len key
      refine ⟨ts, some ⟨b, o, none⟩, len, cap, rfl, ?_, fun t ht => ?_, ?_⟩
      · have hbl : b < W.heap.size := by
          obtain ⟨_, cs', _, hl, hc⟩ := key 0 (by omega)
          have := hc 0 (by omega)
          rw [plain_add, plain_add] at this
          exact World.block_lt_of_cell? W _ this
        refine .s b o len cap 4 _ (fun i j => (W.cell? ⟨b, o + i * 4 + j, none⟩).getD undef) (by rw [Tm.rows_len, hts]) hle (by omega) hbl (fun i hi => ?_) (fun i j hi hj => ?_) (fun i j hi hj => ?_)
        · simp [Tm.rows_eq, Tm.row_eq]
        · obtain ⟨cs', _, hl, hc⟩ := hr i (by omega)
          have := hc j (by omega)
          rw [plain_add, plain_add] at this
          rw [this]; rfl
        · have hi' : i < ts.length := by rw [Tm.rows_len] at hi; exact hi
          have e : (Tm.rows ts)[i] = (ts[i]).row := by simp [Tm.rows_eq]
          obtain ⟨cs', ⟨_, a', n', cap', hcs, hm', _⟩, hl, hc⟩ := hr i hi'
          have h2 := row_mk (S := (· < W.heap.size)) (w := W) ts[i] hm'
          rw [← hcs] at h2
          have hj' : j < (ts[i]).row.length := by rw [← e]; exact hj
          have hj2 : j < cs'.length := by rw [← h2.len]; exact hj'
          have h3 := h2.at j hj' hj2
          have := hc j hj2
          rw [plain_add, plain_add] at this
          simp only [this, Option.getD_some, e]
          exact h3
      · obtain ⟨i, hi, rfl⟩ := List.getElem_of_mem ht
        obtain ⟨cs', ⟨_, a', n', cap', _, _, hok, _⟩, _⟩ := hr i hi
        exact hok
      · have hw : ∀ (k : Nat), k ≤ ts.length → Tm.wts (ts.take k) ≤ Rows.uptoBulkAll ((elems.map (·.1)).take k) := by
          intro k
          induction k with
          | zero => intro _; simp [Tm.wts, Tm.alls]
          | succ k ih =>
            intro hk
            have h1 := ih (by omega)
            obtain ⟨cs', ⟨hi, a', n', cap', _, _, _, hwt⟩, _⟩ := hr k (by omega)
            rw [take_at (List.getElem?_eq_getElem (show k < ts.length by omega)), take_at (x := (elems[k]).1) (by simp [hi])]
            have e1 : Tm.wts (ts.take k ++ [ts[k]]) = Tm.wts (ts.take k) + (ts[k]).wt := by
              rw [Tm.wts_app, Tm.wts_cons, Tm.wts_nil]; omega
            have e2 : ∀ (l : List (DataW H)) (d : DataW H), Rows.uptoBulkAll (l ++ [d]) = Rows.uptoBulkAll l + Rows.uptoBulk d := by
              intro l d
              induction l with
              | nil => simp [Rows.uptoBulkAll]
              | cons y l ih => rw [List.cons_append, Rows.uptoBulkAll, ih, Rows.uptoBulkAll]; omega
            rw [e1, e2]
            omega
        have := hw ts.length (Nat.le_refl _)
        rw [List.take_length, List.take_of_length_le (by simp; omega)] at this
        simp only [Rows.uptoBulk]
        omega
theorem open_tm_any (uT : P.underlying tT = some (.struct #[f0, f1, f2, f3])) (u0 : P.underlying f0.type = some (.int .i64)) (u1 : P.underlying f1.type = some .string) (u2 : P.underlying f2.type = some (.int .i64)) (u3 : P.underlying f3.type = some (.slice tT)) (c4 : P.cellsOf tT = 4)
    (o0 : f0.offset = 0) (o1 : f1.offset = 1) (o2 : f2.offset = 2) (o3 : f3.offset = 3) (c0 : P.cellsOf f0.type = 1) (c1 : P.cellsOf f1.type = 1) (c2 : P.cellsOf f2.type = 1) (c3 : P.cellsOf f3.type = 1) (fuel : Nat) :
    ∀ (cs : List Value) (x : DataW H × List MemPlace), DataW.trod enc P W 0 (fun _ => true) true fuel tT cs = some x → ∃ t, TmRead W t cs (Rows.uptoBulk x.1) := by
  induction fuel using Nat.strongRecOn with
  | _ fuel ih =>
    intro cs x h
    obtain ⟨xs, n, rfl, rfl, hl, hxs, hf⟩ := DataW.trod_struct uT h
    match xs, hxs with
    | [y0, y1, y2, y3], _ =>
      have g0 := hf 0 f0 rfl
      have g1 := hf 1 f1 rfl
      have g2 := hf 2 f2 rfl
      have g3 := hf 3 f3 rfl
      simp only [List.getElem?_cons_zero, List.getElem?_cons_succ] at g0 g1 g2 g3
      rw [c4] at hl
      match cs, hl with
      | [v0, v1, v2, v3], _ =>
        rw [o0, c0] at g0
        rw [o1, c1] at g1
        rw [o2, c2] at g2
        rw [o3, c3] at g3
        simp only [List.drop_zero, List.drop_succ_cons, List.take_succ_cons, List.take_zero] at g0 g1 g2 g3
        obtain ⟨k, e0, rfl, hk⟩ := DataW.trod_int u0 g0
        obtain ⟨s, e1, rfl, hs⟩ := DataW.trod_string u1 g1
        obtain ⟨m, e2, rfl, hm⟩ := DataW.trod_int u2 g2
        obtain ⟨ts, a, nn, cap, e3, hM, hok, hwt⟩ := open_tms_of u3 c4 (fun n' hn' => ih n' (by omega)) g3
        obtain rfl : v0 = .int .i64 k := by simpa using e0
        obtain rfl : v1 = .string s := by simpa using e1
        obtain rfl : v2 = .int .i64 m := by simpa using e2
        obtain rfl : v3 = .slice a nn cap := by simpa using e3
        refine ⟨.mk k s m ts, a, nn, cap, rfl, hM, fun x hx => ?_, ?_⟩
        · rw [Tm.all_eq, Tm.alls_eq] at hx
          rcases List.mem_cons.1 hx with rfl | hx
          · exact ⟨inI64_wf hk, inI64_wf hm⟩
          · obtain ⟨t, ht, hx⟩ := List.mem_flatMap.1 hx
            exact hok t ht x hx
        · rw [Tm.wt_eq]
          simp only [Rows.uptoBulk, Rows.uptoBulkAll, List.map_cons, List.map_nil, Array.length_toList]
          have : s.data.size = s.size := rfl
          show s.size + 1 + Tm.wts ts ≤ _
          omega
end
end Go.Proofs.Ytcoiagfeoonpbaa

/-
  An argument that is a slice of whatever structs, as the walks want it: its elements opened one by one. No condition.
-/
namespace Go.Proofs.Ytcoiagfeoonpbaa
open Go.ChangeShapes Go.WideShapes Go.ChangeAt Go.RowKit
section
variable {H : Type} {enc : TypeId × Value → H} {P : Program} {W : World} {tE tS : TypeId} {α : Type}
theorem open_rows {fuel sz : Nat} {cs : List Value} {x : DataW H × List MemPlace} (uS : P.underlying tS = some (.slice tE)) (cE : P.cellsOf tE = sz) (hsz : 0 < sz) (R : α → List Value → Nat → Prop) (row : α → List At) (wt : α → Nat)
    (hrow : ∀ y cs k, R y cs k → All2 (Mem (· < W.heap.size) W) (row y) cs) (hlen : ∀ y, (row y).length = sz) (hwt : ∀ y cs k, R y cs k → wt y ≤ k)
    (el : ∀ (n : Nat) (cs : List Value) (x : DataW H × List MemPlace), DataW.trod enc P W 0 (fun _ => true) true n tE cs = some x → ∃ y, R y cs (Rows.uptoBulk x.1))
    (h : DataW.trod enc P W 0 (fun _ => true) true fuel tS cs = some x) :
    ∃ (l : List α) (a : Option Addr) (n cap : Nat), cs = [.slice a n cap] ∧ MemW W (.s sz (l.map row)) (.slice a n cap) ∧ (∀ y ∈ l, ∃ cs k, R y cs k) ∧ (l.map wt).sum ≤ Rows.uptoBulk x.1 := by
  rcases DataW.trod_slice uS h with ⟨rfl, rfl⟩ | ⟨a, len, cap, elems, rest, n, rfl, rfl, rfl, _, hle, hm, hlen2, hel, _, _⟩
  · exact ⟨[], none, 0, 0, rfl, .e _ _ _ (by decide), by simp, by simp⟩
  · unfold maxLen at hm
    by_cases h0 : len = 0
    · subst h0
      exact ⟨[], some a, 0, cap, rfl, .e _ _ _ (by omega), by simp, by simp⟩
    · have key : ∀ i, i < len → ∃ y : α, ∃ cs', (∃ hi : i < elems.length, R y cs' (Rows.uptoBulk (elems[i]).1)) ∧ cs'.length = sz ∧ ∀ j (hj : j < cs'.length), W.cell? ((a.add (i * sz)).add j) = some cs'[j] := fun i hi => by
        have he := hel i hi
        rw [cE, List.getElem?_eq_getElem (by omega)] at he
        obtain ⟨cs', h1, h2⟩ := Option.bind_eq_some_iff.1 he
        obtain ⟨y, hy⟩ := el n cs' _ h2
        obtain ⟨_, hl, hc⟩ := World.cells?_some h1
        exact ⟨y, cs', ⟨by omega, hy⟩, hl, fun j hj => by rw [hc j (by omega), List.getElem?_eq_getElem]⟩
      obtain ⟨b, o, rfl⟩ : ∃ b o, a = ⟨b, o, none⟩ := by
        obtain ⟨_, cs', _, hl, hc⟩ := key 0 (by omega)
        have := hc 0 (by omega)
        have e : (a.add (0 * sz)).add 0 = a := by obtain ⟨b, o, c⟩ := a; cases c <;> simp [Addr.add]
        rw [e] at this
        exact tm_plain this
      obtain ⟨ts, hts, hr⟩ := choose_list len key
      refine ⟨ts, some ⟨b, o, none⟩, len, cap, rfl, ?_, fun t ht => ?_, ?_⟩
      · have hbl : b < W.heap.size := by
          obtain ⟨_, cs', _, hl, hc⟩ := key 0 (by omega)
          have := hc 0 (by omega)
          rw [plain_add, plain_add] at this
          exact World.block_lt_of_cell? W _ this
        refine .s b o len cap sz _ (fun i j => (W.cell? ⟨b, o + i * sz + j, none⟩).getD undef) (by rw [List.length_map, hts]) hle (by omega) hbl (fun i hi => ?_) (fun i j hi hj => ?_) (fun i j hi hj => ?_)
        · rw [List.getElem_map, hlen]
        · obtain ⟨cs', _, hl, hc⟩ := hr i (by omega)
          have := hc j (by omega)
          rw [plain_add, plain_add] at this
          rw [this]; rfl
        · have hi' : i < ts.length := by rw [List.length_map] at hi; exact hi
          have e : (ts.map row)[i] = row ts[i] := by simp
          obtain ⟨cs', ⟨_, hR⟩, hl, hc⟩ := hr i hi'
          have h2 := hrow _ _ _ hR
          have hj' : j < (row ts[i]).length := by rw [← e]; exact hj
          have hj2 : j < cs'.length := by rw [← h2.len]; exact hj'
          have h3 := h2.at j hj' hj2
          have := hc j hj2
          rw [plain_add, plain_add] at this
          simp only [this, Option.getD_some, e]
          exact h3
      · obtain ⟨i, hi, rfl⟩ := List.getElem_of_mem ht
        obtain ⟨cs', ⟨_, hR⟩, _⟩ := hr i hi
        exact ⟨_, _, hR⟩
      · have hw : ∀ (k : Nat), k ≤ ts.length → ((ts.take k).map wt).sum ≤ Rows.uptoBulkAll ((elems.map (·.1)).take k) := by
          intro k
          induction k with
          | zero => intro _; simp
          | succ k ih =>
            intro hk
            have h1 := ih (by omega)
            obtain ⟨cs', ⟨hi, hR⟩, _⟩ := hr k (by omega)
            have hw := hwt _ _ _ hR
            rw [take_at (List.getElem?_eq_getElem (show k < ts.length by omega)), take_at (x := (elems[k]).1) (by simp [hi])]
            have e2 : ∀ (l : List (DataW H)) (d : DataW H), Rows.uptoBulkAll (l ++ [d]) = Rows.uptoBulkAll l + Rows.uptoBulk d := by
              intro l d
              induction l with
              | nil => simp [Rows.uptoBulkAll]
              | cons y l ih => rw [List.cons_append, Rows.uptoBulkAll, ih, Rows.uptoBulkAll]; omega
            rw [e2, List.map_append, List.sum_append]
            simp only [List.map_cons, List.map_nil, List.sum_cons, List.sum_nil]
            omega
        have := hw ts.length (Nat.le_refl _)
        rw [List.take_length, List.take_of_length_le (by simp; omega)] at this
        simp only [Rows.uptoBulk]
        omega
end
end Go.Proofs.Ytcoiagfeoonpbaa

/-
  Arguments that are texts' lists, types' lists, types, as the walks want them. No condition.
-/
namespace Go.Proofs.Ytcoiagfeoonpbaa
open Go.ChangeShapes Go.WideShapes Go.ChangeAt Go.RowKit
section
variable {H : Type} {enc : TypeId × Value → H} {P : Program} {W : World} {r : Reach} {b0 : Nat} {v : Value} {d : DataW H} {ps : List MemPlace}
theorem open_tm_arg {tT : TypeId} {f0 f1 f2 f3 : Field} (uT : P.underlying tT = some (.struct #[f0, f1, f2, f3])) (u0 : P.underlying f0.type = some (.int .i64)) (u1 : P.underlying f1.type = some .string) (u2 : P.underlying f2.type = some (.int .i64)) (u3 : P.underlying f3.type = some (.slice tT)) (c4 : P.cellsOf tT = 4)
    (o : f0.offset = 0 ∧ f1.offset = 1 ∧ f2.offset = 2 ∧ f3.offset = 3) (c : P.cellsOf f0.type = 1 ∧ P.cellsOf f1.type = 1 ∧ P.cellsOf f2.type = 1 ∧ P.cellsOf f3.type = 1) (hval : Value.okWide P W r b0 tT v) (h : DataW.Trod enc P W 0 (fun _ => true) true tT v d ps) :
    ∃ (t : Tm) (a : Option Addr) (n cap : Nat), v = .agg #[.int .i64 t.kind, .string t.name, .int .i64 t.n, .slice a n cap] ∧ MemW W (.s 4 (Tm.rows t.args)) (.slice a n cap) ∧ t.ok ∧ t.wt ≤ Rows.uptoBulk d := by
  obtain ⟨cs, rfl, _⟩ := okWide_struct uT hval
  obtain ⟨fuel, hf⟩ := h
  obtain ⟨t, a, n, cap, hcs, hm, hok, hwt⟩ := open_tm_any uT u0 u1 u2 u3 c4 o.1 o.2.1 o.2.2.1 o.2.2.2 c.1 c.2.1 c.2.2.1 c.2.2.2 fuel _ _ hf
  have : cs = #[.int .i64 t.kind, .string t.name, .int .i64 t.n, .slice a n cap] := Array.toList_inj.1 hcs
  subst this
  exact ⟨t, a, n, cap, rfl, hm, hok, hwt⟩
end
end Go.Proofs.Ytcoiagfeoonpbaa
