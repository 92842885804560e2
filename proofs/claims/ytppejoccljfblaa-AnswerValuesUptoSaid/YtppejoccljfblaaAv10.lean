/-
  slices.insertionSortCmpFunc at terms. No condition but how they lie.
-/
import Derived.Test.YtppejoccljfblaaAv9
import Derived.Test.YtppejoccljfblaaAv1
import Derived.BigQuiet
import Derived.StillTailTactics
import Derived.Sort.WalkA
import Derived.BigRegion
import Derived.Test.YtppejoccljfblaaAv7
namespace Go.Proofs.Ytppejoccljfblaa
open Go.RowKit
attribute [local go_sem ↓] wp_store_O
attribute [local go_sem] stO_eq stB_eq stC_eq stF_eq wrO_set

def ltE (x y : El) : Bool := decide (cmpT x.t y.t < 0)
/-- While a row is rearranged: all but it stands as it stood; its elements' arguments lie beside it. -/
structure SS (w0 : World) (q o : Nat) (d : Array El) (w : World) : Prop where
  hq : q < w0.heap.size
  gr : w0.grownBy w (some q)
  row : Row w q o d
  ok : ∀ i, i < d.size → Mem (fun b => b < w0.heap.size ∧ b ≠ q) w0 (.s 4 (Tm.rows d[i]!.t.args)) (.slice d[i]!.a d[i]!.n d[i]!.cap)
section
variable {w0 w w' : World} {q o : Nat} {d : Array El}
theorem SS.lt (h : SS w0 q o d w) : q < w.heap.size := Nat.lt_of_lt_of_le h.hq h.gr.size
theorem SS.drew (h : SS w0 q o d w) : SS w0 q o d w.drew := ⟨h.hq, grownBy_trans h.gr (grownBy_drew w _), h.row, h.ok⟩
theorem SS.drewN (h : SS w0 q o d w) (n : Nat) : SS w0 q o d (w.drewN n) := ⟨h.hq, grownBy_trans h.gr ⟨rfl, rfl, rfl, Nat.le_refl _, fun _ _ _ => rfl⟩, h.row, h.ok⟩
theorem SS.keep (h : SS w0 q o d w) (hb : Below w.heap.size w w') : SS w0 q o d w' :=
  ⟨h.hq, grownBy_trans h.gr ⟨hb.os, hb.tape, hb.output, hb.size, fun k hk _ => hb.block k hk⟩, h.row.keep h.lt hb, h.ok⟩
theorem SS.mem (h : SS w0 q o d w) {i : Nat} (hi : i < d.size) {e : El} (he : d[i]! = e) : MemW w (.s 4 (Tm.rows e.t.args)) (.slice e.a e.n e.cap) := by
  subst he
  exact (h.ok i hi).mono (fun b hb => Nat.lt_of_lt_of_le hb.1 h.gr.size) (fun b hb => h.gr.block b hb.1 (fun e => by cases e; exact hb.2 rfl))
theorem SS.put (h : SS w0 q o d w) {i : Nat} (hi : i < d.size) (e : El) (he : Mem (fun b => b < w0.heap.size ∧ b ≠ q) w0 (.s 4 (Tm.rows e.t.args)) (.slice e.a e.n e.cap)) : SS w0 q o (d.setIfInBounds i e) (w.setCells q (o + i * 4) e.cells.toList) :=
  ⟨h.hq, grownBy_trans h.gr (grownBy_setCells w q _ _), h.row.set hi e, fun k hk => by
    rw [Array.size_setIfInBounds] at hk
    by_cases hki : k = i
    · subst hki
      have e1 : (d.setIfInBounds k e)[k]! = e := by simp [hk]
      rw [e1]; exact he
    · have e1 : (d.setIfInBounds i e)[k]! = d[k]! := by simp [hk, Ne.symm hki]
      rw [e1]; exact h.ok k hk⟩
theorem SS.swp (h : SS w0 q o d w) {i j : Nat} (hi : i < d.size) (hj : j < d.size) {x y : El} (hx : d[i]! = x) (hy : d[j]! = y) :
    SS w0 q o (Sort.swp d i j) ((w.setCells q (o + i * 4) y.cells.toList).setCells q (o + j * 4) x.cells.toList) := by
  subst hx; subst hy
  exact (h.put hi d[j]! (h.ok j hj)).put (by rw [Array.size_setIfInBounds]; exact hj) d[i]! (h.ok i hi)
end
/-- Compare, of any two terms. -/
theorem cmpE (x y : El) (w : World) (h : MemW w (.s 4 (Tm.rows x.t.args)) (.slice x.a x.n x.cap)) (h' : MemW w (.s 4 (Tm.rows y.t.args)) (.slice y.a y.n y.cap)) :
    Calls Try.prog 112 #[.agg #[.int .i64 x.t.kind, .string x.t.name, .int .i64 x.t.n, .slice x.a x.n x.cap], .agg #[.int .i64 y.t.kind, .string y.t.name, .int .i64 y.t.n, .slice y.a y.n y.cap]] w fun e w' => e = .returned (.int .i64 (cmpT x.t y.t)) ∧ Below w.heap.size w w' :=
  compare_any x.t y.t w x.a y.a x.n y.n x.cap y.cap h h'

set_option maxRecDepth 100000 in
set_option maxHeartbeats 2000000 in
theorem insertion_any {w0 w : World} {q o a b : Nat} {d : Array El} (cap : Nat) (h : SS w0 q o d w) (hab : a ≤ b) (hb : b ≤ d.size) (hsz : d.size ≤ 100000) :
    Calls Try.prog 183 #[.slice (some ⟨q, o, none⟩) d.size cap, .int .i64 a, .int .i64 b, .func (.func 112) #[] #[]] w fun e w' => e = .returned (.tuple #[]) ∧ SS w0 q o (Sort.insertionSort ltE d a b) w' := by
  have H := Lib.hid h
  clear h
  go_enter Try.func183, Try.ntmps183
  go_wp2
  go_loopw [8] (fun vi wr => ∃ (i : Nat) (dk : Array El), vi = .int .i64 i ∧ a < i ∧ i ≤ b + 1 ∧ dk.size = d.size ∧ Hid (SS w0 q o dk wr) ∧ Hid (Sort.insOuter ltE a b i dk = Sort.insOuter ltE a b (a + 1) d)) (fun vi _ => b + 1 - (intOf vi).toNat)
  case atStart => exact ⟨a + 1, d, by go_num, by omega, by omega, rfl, H.out, rfl⟩
  case round =>
    obtain ⟨i, dk, rfl, hai, hib, hsk, HS, HO⟩ := hrel
    by_cases hlt : i < b
    · have hltz : (i : Int) < (b : Int) := by omega
      go_wp2
      go_loopw [9] (fun vj wr => ∃ (j : Nat) (dj : Array El), vj = .int .i64 j ∧ a ≤ j ∧ j ≤ i ∧ dj.size = d.size ∧ Hid (SS w0 q o dj wr) ∧ Hid (Sort.insInner ltE a j dj = Sort.insInner ltE a i dk)) (fun vj _ => (intOf vj).toNat)
      case atStart => exact ⟨i, dk, rfl, by omega, Nat.le_refl _, hsk, HS.out, rfl⟩
      case round =>
        clear HS
        obtain ⟨j, dj, rfl, haj, hji, hsj, HS, HI⟩ := hrel
        have OUT : Hid ((j ≤ a ∨ ltE dj[j]! dj[j - 1]! = false) → Sort.insOuter ltE a b (i + 1) dj = Sort.insOuter ltE a b (a + 1) d) := Lib.hid fun hs => by
          rw [← HO.out, insOuter_go _ _ _ _ _ hlt, ← HI.out, insInner_stop _ _ _ _ hs]
        by_cases hja : a < j
        · have hjaz : (a : Int) < (j : Int) := by omega
          obtain ⟨jp, rfl⟩ : ∃ jp, j = jp + 1 := ⟨j - 1, by omega⟩
          obtain ⟨xj, hxj⟩ : ∃ x, dj[jp + 1]! = x := ⟨_, rfl⟩
          obtain ⟨xp, hxp⟩ : ∃ x, dj[jp]! = x := ⟨_, rfl⟩
          have hj1 : jp + 1 < dj.size := by omega
          have hj0 : jp < dj.size := by omega
          have XJ := Lib.hid hxj
          have XP := Lib.hid hxp
          clear hxj hxp
          obtain ⟨x0, x1, x2, x3⟩ := HS.out.row.c4 hj1 XJ.out
          obtain ⟨y0, y1, y2, y3⟩ := HS.out.row.c4 hj0 XP.out
          have MX := Lib.hid (HS.out.drew.mem hj1 XJ.out)
          have MY := Lib.hid (HS.out.drew.mem hj0 XP.out)
          have jz : (jp : Int) + 1 < (d.size : Int) := by omega
          have jz1 : (jp : Int) < (d.size : Int) := by omega
          have hjaz : decide ((a : Int) < (jp : Int) + 1) = true := by simp; omega
          have e0 : ((jp : Int) + 1).toNat = jp + 1 := by omega
          have p0 : (0 : Int) ≤ (jp : Int) + 1 := by omega
          have w1 : IntKind.i64.wrap ((jp : Int) + 1 - 1) = (jp : Int) := by rw [IntKind.wrap_i64]; omega
          have w2 : IntKind.i64.wrap (jp : Int) = (jp : Int) := by rw [IntKind.wrap_i64]; omega
          by_cases hlv : cmpT xj.t xp.t < 0
          · go_wp2
            go_still_tail 14, (by kernel_rfl)
            change wpList _ _ _ _ _ wr.drew
            go_wp2_with (first | (go_at_call 112 ; refine (cmpE xj xp _ MX.out MY.out).mono ?_; rintro e w2 ⟨rfl, hb⟩; have HB2 := Lib.hid hb; clear hb))
            have HS2 := Lib.hid (HS.out.drew.keep HB2.out)
            clear x0 x1 x2 x3 y0 y1 y2 y3
            obtain ⟨x0, x1, x2, x3⟩ := HS2.out.row.c4 hj1 XJ.out
            obtain ⟨y0, y1, y2, y3⟩ := HS2.out.row.c4 hj0 XP.out
            have v0 := HS2.out.drew.row.wr hj1
            have v1 := HS2.out.drew.row.wr hj0
            go_region
            all_goals
              go_wp2
              go_roundw
              case rel =>
                have := insInner_go (lt := ltE) a (jp + 1) dj hja (by simp only [Nat.add_sub_cancel]; rw [XJ.out, XP.out]; exact decide_eq_true hlv)
                simp only [Nat.add_sub_cancel] at this
                exact ⟨jp, Sort.swp dj (jp + 1) jp, by go_num, by omega, by omega, by rw [Sort.size_swp]; exact hsj, HS2.out.drew.swp hj1 hj0 XJ.out XP.out, Lib.hid (by rw [← HI.out, this])⟩
              case measure => simp [intOf] <;> omega
          · go_wp2
            go_still_tail 14, (by kernel_rfl)
            change wpList _ _ _ _ _ wr.drew
            go_wp2_with (first | (go_at_call 112 ; refine (cmpE xj xp _ MX.out MY.out).mono ?_; rintro e w2 ⟨rfl, hb⟩; have HB2 := Lib.hid hb; clear hb))
            go_roundw
            case rel => exact ⟨i + 1, dj, by go_num, by omega, by omega, hsj, HS.out.drew.keep HB2.out, OUT.out (.inr (by simp only [Nat.add_sub_cancel]; rw [XJ.out, XP.out]; exact decide_eq_false (by omega)))⟩
            case measure => simp [intOf]; omega
        · have hjaz : decide ((a : Int) < (j : Int)) = false := by simp; omega
          go_wp2
          go_quiet (fail)
          go_wp2
          go_roundw
          case rel => exact ⟨i + 1, dj, by go_num, by omega, by omega, hsj, HS.out.drewN _, OUT.out (.inl (by omega))⟩
          case measure => simp [intOf]; omega
    · have hltz : ¬ (i : Int) < (b : Int) := by omega
      go_wp2
      go_end0
      exact ⟨rfl, by unfold Sort.insertionSort; rw [← HO.out, insOuter_stop _ _ _ _ _ hlt]; exact HS.out⟩
end Go.Proofs.Ytppejoccljfblaa

/-
  Plain: a list without what stands twice, side by side; noughts laid over the end of a row. No condition.
-/
namespace Go.Proofs.Ytppejoccljfblaa
open Go.RowKit

noncomputable instance tmDec2 : DecidableEq Tm := fun _ _ => Classical.propDecidable _
/-- Without what is the same as the next one. -/
noncomputable def cT : List Tm → List Tm
  | [] => []
  | [x] => [x]
  | x :: y :: l => if x = y then cT (y :: l) else x :: cT (y :: l)
theorem cT_two (a b : Tm) (l : List Tm) : cT (a :: b :: l) = if a = b then cT (b :: l) else a :: cT (b :: l) := by rw [cT]
theorem cT_snoc (x y : Tm) : ∀ l : List Tm, cT (l ++ [y] ++ [x]) = if x = y then cT (l ++ [y]) else cT (l ++ [y]) ++ [x]
  | [] => by
    show cT (y :: x :: []) = if x = y then cT [y] else cT [y] ++ [x]
    rw [cT_two, cT, cT]
    by_cases h : x = y
    · rw [if_pos h.symm, if_pos h, h]
    · rw [if_neg (fun e => h e.symm), if_neg h]; rfl
  | [a] => by
    have ih := cT_snoc x y []
    show cT (a :: y :: [x]) = if x = y then cT (a :: y :: []) else cT (a :: y :: []) ++ [x]
    have ih' : cT (y :: [x]) = if x = y then cT [y] else cT [y] ++ [x] := ih
    rw [cT_two a y [x], cT_two a y [], ih']
    by_cases h : x = y
    · rw [if_pos h, if_pos h]
    · rw [if_neg h, if_neg h]
      by_cases h2 : a = y
      · rw [if_pos h2, if_pos h2]
      · rw [if_neg h2, if_neg h2]; rfl
  | a :: b :: l => by
    have ih := cT_snoc x y (b :: l)
    show cT (a :: b :: (l ++ [y] ++ [x])) = if x = y then cT (a :: b :: (l ++ [y])) else cT (a :: b :: (l ++ [y])) ++ [x]
    have ih' : cT (b :: (l ++ [y] ++ [x])) = if x = y then cT (b :: (l ++ [y])) else cT (b :: (l ++ [y])) ++ [x] := ih
    rw [cT_two a b (l ++ [y] ++ [x]), cT_two a b (l ++ [y]), ih']
    by_cases h : x = y
    · rw [if_pos h, if_pos h]
    · rw [if_neg h, if_neg h]
      by_cases h2 : a = b
      · rw [if_pos h2, if_pos h2]
      · rw [if_neg h2, if_neg h2]; rfl
theorem cT_len : ∀ l : List Tm, (cT l).length ≤ l.length
  | [] => Nat.le_refl _
  | [x] => Nat.le_refl _
  | x :: y :: l => by
    have ih := cT_len (y :: l)
    rw [cT]
    split
    · simp only [List.length_cons] at ih ⊢; omega
    · simp only [List.length_cons] at ih ⊢; omega
theorem cT_same : ∀ l : List Tm, (∀ i, i + 1 < l.length → l[i]? ≠ l[i + 1]?) → cT l = l
  | [], _ => rfl
  | [x], _ => rfl
  | x :: y :: l, h => by
    have ih := cT_same (y :: l) (fun i hi => by simpa using h (i + 1) (by simpa using hi))
    have h0 := h 0 (by simp)
    rw [cT, if_neg (by simpa using h0), ih]

theorem setCells_append (w : World) (q : Nat) : ∀ (l1 l2 : List Value) (p : Nat), w.setCells q p (l1 ++ l2) = (w.setCells q p l1).setCells q (p + l1.length) l2 := by
  intro l1
  induction l1 generalizing w with
  | nil => intro l2 p; rfl
  | cons x l1 ih =>
    intro l2 p
    rw [List.cons_append, World.setCells, ih, World.setCells, List.length_cons]
    congr 1; omega
/-- Nothing. -/
def El.zero : El := ⟨.mk 0 .empty 0 [], none, 0, 0⟩
def zeros4 : Nat → List Value
  | 0 => []
  | n + 1 => [.int .i64 0, .string .empty, .int .i64 0, .slice none 0 0] ++ zeros4 n
theorem SS.clear {w0 : World} {q o : Nat} : ∀ (m : Nat) {d : Array El} {w : World} (i : Nat), SS w0 q o d w → i + m ≤ d.size → ∃ d', SS w0 q o d' (w.setCells q (o + i * 4) (zeros4 m)) ∧ d'.size = d.size ∧ ∀ k, k < i → d'[k]! = d[k]!
  | 0, d, w, i, h, _ => ⟨d, h, rfl, fun _ _ => rfl⟩
  | m + 1, d, w, i, h, hi => by
    have h1 := h.put (i := i) (by omega) El.zero (by rw [El.zero]; exact .e none 0 4 (by decide))
    obtain ⟨d', h2, h3, h4⟩ := SS.clear m (i + 1) h1 (by rw [Array.size_setIfInBounds]; omega)
    refine ⟨d', ?_, by rw [h3, Array.size_setIfInBounds], fun k hk => by rw [h4 k (by omega)]; simp [show k < d.size by omega, show ¬ i = k by omega]⟩
    rw [zeros4, setCells_append]
    have e : o + i * 4 + [Value.int .i64 0, .string .empty, .int .i64 0, .slice none 0 0].length = o + (i + 1) * 4 := by
      show o + i * 4 + 4 = _; omega
    rw [e]
    exact h2
end Go.Proofs.Ytppejoccljfblaa

/-
  slices.CompactFunc at terms and Same. No condition but how they lie.
-/
namespace Go.Proofs.Ytppejoccljfblaa
open Go.RowKit
attribute [local go_sem ↓] wp_store_O
attribute [local go_sem] stO_eq stB_eq stC_eq stF_eq wrO_set

theorem zeros4_eq (n : Nat) : (Builtin.zeroCells #[.int .i64 0, .string .empty, .int .i64 0, .slice none 0 0] n).toList = zeros4 n := by
  have key : ∀ n, (List.range (n * 4)).map (fun i => (#[Value.int .i64 0, .string .empty, .int .i64 0, .slice none 0 0])[i % 4]!) = zeros4 n := by
    intro n
    induction n with
    | zero => rfl
    | succ n ih =>
      rw [show (n + 1) * 4 = 4 + n * 4 by omega, List.range_add, List.map_append, List.map_map, zeros4, ← ih]
      congr 1
      refine List.map_congr_left fun i _ => ?_
      simp only [Function.comp_apply, Nat.add_mod_left]
  rw [← key n]
  unfold Builtin.zeroCells
  simp
theorem zeros4_one : ∀ (n : Nat), ∀ v ∈ zeros4 n, v.oneCell' = true
  | 0, v, hv => by cases hv
  | n + 1, v, hv => by
    rw [zeros4] at hv
    rcases List.mem_append.1 hv with h | h
    · simp only [List.mem_cons, List.not_mem_nil, or_false] at h
      rcases h with rfl | rfl | rfl | rfl <;> rfl
    · exact zeros4_one n v h
theorem zeros4_len : ∀ n : Nat, (zeros4 n).length = n * 4
  | 0 => rfl
  | n + 1 => by rw [zeros4, List.length_append, zeros4_len n]; show 4 + n * 4 = _; omega
theorem run_clear_terms (ty : TypeId) (w : World) (q p m c : Nat) (hm : 0 < m) (h : ∀ j, j < m * 4 → (w.cell? ⟨q, p + j, none⟩).isSome = true ∧ w.frozen? ⟨q, p + j, none⟩ = false) :
    (Builtin.clear_ #[89] ty #[.slice (some ⟨q, p, none⟩) m c]).run Try.prog w = .ok (.tuple #[]) (w.setCells q p (zeros4 m)) := by
  have hz : (zeroValue 96).run Try.prog w = .ok (.agg #[.int .i64 0, .string .empty, .int .i64 0, .slice none 0 0]) w := Try.zeroValue96 w
  have hs := run_storeCells_cells (P := Try.prog) q p (zeros4 m) 0 w (fun j hj => (h j (by rw [zeros4_len] at hj; omega)).1) (fun j hj => (h j (by rw [zeros4_len] at hj; omega)).2) (zeros4_one m)
  obtain ⟨m', rfl⟩ : ∃ m', m = m' + 1 := ⟨m - 1, by omega⟩
  simp only [Nat.add_zero] at hs
  simp [Builtin.clear_, run_underlying Try.underlying89, hz, Value.cells, zeros4_eq, hs]
/-- The first k terms of a row. -/
def TL (d : Array El) (k : Nat) : List Tm := (d.toList.take k).map (·.t)
theorem get_lt {d : Array El} {k : Nat} (h : k < d.size) : d.toList[k]? = some d[k]! := by
  rw [Array.getElem?_toList]; simp [h]
theorem TL_succ {d : Array El} {k : Nat} (h : k < d.size) : TL d (k + 1) = TL d k ++ [d[k]!.t] := by
  unfold TL
  rw [take_at (get_lt h), List.map_append]; rfl
theorem TL_set {d : Array El} {k : Nat} (h : k < d.size) (x : El) : TL (d.setIfInBounds k x) (k + 1) = TL d k ++ [x.t] := by
  rw [TL_succ (by rw [Array.size_setIfInBounds]; exact h)]
  have e : (d.setIfInBounds k x)[k]! = x := by simp [h]
  rw [e]
  congr 1
  unfold TL
  rw [Array.toList_setIfInBounds, List.take_set_of_le (Nat.le_refl _)]
theorem TL_all (d : Array El) : TL d d.size = d.toList.map (·.t) := by unfold TL; rw [List.take_of_length_le (by simp)]
theorem TL_congr {d d' : Array El} (hs : d'.size = d.size) : ∀ {k : Nat}, k ≤ d.size → (∀ i, i < k → d'[i]! = d[i]!) → TL d' k = TL d k := by
  intro k
  induction k with
  | zero => intro _ _; rfl
  | succ k ih =>
    intro hk h
    rw [TL_succ (by omega), TL_succ (by omega), ih (by omega) (fun i hi => h i (by omega)), h k (by omega)]
theorem cT_step {d : Array El} {p : Nat} (h1 : 1 ≤ p) (h : p < d.size) : cT (TL d (p + 1)) = if d[p]!.t = d[p - 1]!.t then cT (TL d p) else cT (TL d p) ++ [d[p]!.t] := by
  obtain ⟨r, rfl⟩ : ∃ r, p = r + 1 := ⟨p - 1, by omega⟩
  rw [TL_succ h, TL_succ (show r < d.size by omega)]
  exact cT_snoc _ _ _
theorem cT_fresh {d : Array El} : ∀ {k : Nat}, k ≤ d.size → (∀ i, 1 ≤ i → i < k → d[i]!.t ≠ d[i - 1]!.t) → cT (TL d k) = TL d k := by
  intro k
  induction k with
  | zero => intro _ _; rfl
  | succ k ih =>
    intro hk h
    by_cases h0 : k = 0
    · subst h0; rw [TL_succ (by omega)]; rfl
    · rw [cT_step (by omega) (by omega), if_neg (h k (by omega) (by omega)), ih (by omega) (fun i h1 h2 => h i h1 (by omega)), TL_succ (by omega)]
theorem Row.c4' {w : World} {q o : Nat} {d : Array El} (h : Row w q o d) {i p : Nat} (hi : i < d.size) {e : El} (he : d[i]! = e) (hp : p = o + i * 4) : w.cell? ⟨q, p, none⟩ = some (.int .i64 e.t.kind) ∧ w.cell? ⟨q, p + 1, none⟩ = some (.string e.t.name) ∧ w.cell? ⟨q, p + 2, none⟩ = some (.int .i64 e.t.n) ∧ w.cell? ⟨q, p + 3, none⟩ = some (.slice e.a e.n e.cap) := by
  subst hp; exact h.c4 hi he
/-- What stands behind the call. -/
structure Cut (w0 : World) (q o : Nat) (d : Array El) (k : Nat) (d' : Array El) (w : World) : Prop where
  ss : SS w0 q o d' w
  size : d'.size = d.size
  le : k ≤ d.size
  tl : TL d' k = cT (TL d d.size)

set_option maxRecDepth 100000 in
set_option maxHeartbeats 2000000 in
theorem compact_any {w0 w : World} {q o cap : Nat} {d : Array El} (h : SS w0 q o d w) (h2 : 2 ≤ d.size) (hsz : d.size ≤ 100000) (hcap : d.size ≤ cap) (hmx : cap ≤ 9223372036854775807) :
    Calls Try.prog 113 #[.slice (some ⟨q, o, none⟩) d.size cap, .func (.func 114) #[] #[]] w fun e w' => ∃ k d', e = .returned (.slice (some ⟨q, o, none⟩) k cap) ∧ Cut w0 q o d k d' w' := by
  have H := Lib.hid h
  clear h
  obtain ⟨n, hn⟩ : ∃ n, d.size = n := ⟨_, rfl⟩
  rw [hn] at h2 hsz hcap ⊢
  have hn2 : ¬ (n : Int) < 2 := by omega
  go_enter Try.func113, Try.ntmps113
  go_wp2
  go_loopw [5] (fun v wr => ∃ k : Nat, v = .int .i64 k ∧ 1 ≤ k ∧ k ≤ n ∧ Hid (SS w0 q o d wr) ∧ Hid (∀ i, 1 ≤ i → i < k → d[i]!.t ≠ d[i - 1]!.t)) (fun v _ => n - (intOf v).toNat)
  case atStart => exact ⟨1, rfl, Nat.le_refl _, by omega, H.out, fun i h1 h2 => by omega⟩
  case round =>
    obtain ⟨k, rfl, hk1, hkn, HS, HD⟩ := hrel
    by_cases hlt : k < n
    · have hltz : (k : Int) < (n : Int) := by omega
      obtain ⟨kp, rfl⟩ : ∃ kp, k = kp + 1 := ⟨k - 1, by omega⟩
      obtain ⟨ex, hex⟩ : ∃ x, d[kp + 1]! = x := ⟨_, rfl⟩
      obtain ⟨ey, hey⟩ : ∃ x, d[kp]! = x := ⟨_, rfl⟩
      have hx1 : kp + 1 < d.size := by omega
      have hy1 : kp < d.size := by omega
      have XJ := Lib.hid hex
      have XP := Lib.hid hey
      clear hex hey
      obtain ⟨x0, x1, x2, x3⟩ := HS.out.row.c4 hx1 XJ.out
      obtain ⟨y0, y1, y2, y3⟩ := HS.out.row.c4 hy1 XP.out
      have MX := Lib.hid (HS.out.drew.mem hx1 XJ.out)
      have MY := Lib.hid (HS.out.drew.mem hy1 XP.out)
      have p0 : (0 : Int) ≤ (kp : Int) + 1 := by omega
      have jz : (kp : Int) + 1 < (n : Int) := by omega
      have jz1 : (kp : Int) < (n : Int) := by omega
      have e0 : ((kp : Int) + 1).toNat = kp + 1 := by omega
      have w1 : IntKind.i64.wrap ((kp : Int) + 1 - 1) = (kp : Int) := by rw [IntKind.wrap_i64]; omega
      have w2 : IntKind.i64.wrap (kp : Int) = (kp : Int) := by rw [IntKind.wrap_i64]; omega
      by_cases hc : cmpT ex.t ey.t = 0
      · have hd : (cmpT ex.t ey.t == 0) = true := by rw [beq_iff_eq]; exact hc
        have HE : Hid (d[kp + 1]!.t = d[kp]!.t) := Lib.hid (by rw [XJ.out, XP.out]; exact (cmpT_zero _ _).1 hc)
        clear hc
        have hkc : ¬ cap = kp + 1 := by omega
        have hkc2 : (kp : Int) + 1 ≤ (cap : Int) := by omega
        go_wp2
        go_still_tail 10, (by kernel_rfl)
        change wpList _ _ _ _ _ wr.drew
        go_wp2_with (first | (go_at_call 114 ; refine (sameTm2 _ MX.out MY.out).mono ?_; rintro e w2 ⟨rfl, hb⟩; have HB2 := Lib.hid hb; clear hb))
        have HS0 := Lib.hid (HS.out.drew.keep HB2.out)
        have HF0 := Lib.hid (cT_fresh (d := d) (k := kp + 1) (by omega) HD.out)
        clear x0 x1 x2 x3 y0 y1 y2 y3 MX MY HB2 HS hd
        obtain ⟨m2, hm2⟩ : ∃ m2, n - (kp + 1) = m2 := ⟨_, rfl⟩
        obtain ⟨c2, hc2⟩ : ∃ c2, cap - (kp + 1) = c2 := ⟨_, rfl⟩
        have hmc : m2 ≤ c2 := by omega
        have hmn : kp + 1 + m2 = n := by omega
        simp only [hm2, hc2]
        go_loopw [5, 7] (fun v v2 wr => ∃ (k k2 : Nat) (dk : Array El), v = .int .i64 k ∧ v2 = .int .i64 k2 ∧ 1 ≤ k2 ∧ k2 ≤ m2 ∧ 1 ≤ k ∧ k + 1 ≤ kp + 1 + k2 ∧ dk.size = n ∧ Hid (SS w0 q o dk wr) ∧ Hid (∀ i, kp + k2 ≤ i → dk[i]! = d[i]!) ∧ Hid (TL dk k = cT (TL d (kp + 1 + k2)))) (fun _ v2 _ => m2 - (intOf v2).toNat)
        case atStart => exact ⟨kp + 1, 1, d, by go_num, rfl, Nat.le_refl _, by omega, by omega, by omega, hn, HS0.out, fun i _ => rfl, Lib.hid (by have h := cT_step (d := d) (p := kp + 1) (by omega) hx1; rw [Nat.add_sub_cancel, if_pos HE.out] at h; rw [h, HF0.out])⟩
        case round =>
          obtain ⟨k, k2, dk, rfl, rfl, hk21, hk2m, hk1', hkk, hsk, HS, HI, HT⟩ := hrel
          by_cases hlt2 : k2 < m2
          · have hltz2 : (k2 : Int) < (m2 : Int) := by omega
            obtain ⟨kq, rfl⟩ : ∃ kq, k2 = kq + 1 := ⟨k2 - 1, by omega⟩
            obtain ⟨fx, hfx⟩ : ∃ x, dk[kp + 1 + (kq + 1)]! = x := ⟨_, rfl⟩
            obtain ⟨fy, hfy⟩ : ∃ x, dk[kp + 1 + kq]! = x := ⟨_, rfl⟩
            have hx2 : kp + 1 + (kq + 1) < dk.size := by omega
            have hy2 : kp + 1 + kq < dk.size := by omega
            have hw2 : k < dk.size := by omega
            have EX : Hid (d[kp + 1 + (kq + 1)]! = fx) := Lib.hid (by rw [← hfx, HI.out _ (by omega)])
            have EY : Hid (d[kp + 1 + kq]! = fy) := Lib.hid (by rw [← hfy, HI.out _ (by omega)])
            have FX := Lib.hid hfx
            have FY := Lib.hid hfy
            clear hfx hfy
            obtain ⟨x0, x1, x2, x3⟩ := HS.out.row.c4' (p := o + (kp + 1) * 4 + (kq + 1) * 4) hx2 FX.out (by omega)
            obtain ⟨y0, y1, y2, y3⟩ := HS.out.row.c4' (p := o + (kp + 1) * 4 + kq * 4) hy2 FY.out (by omega)
            have MX := Lib.hid (HS.out.drew.mem hx2 FX.out)
            have MY := Lib.hid (HS.out.drew.mem hy2 FY.out)
            have q0 : (0 : Int) ≤ (kq : Int) + 1 := by omega
            have qz : (kq : Int) + 1 < (m2 : Int) := by omega
            have qz1 : (kq : Int) < (m2 : Int) := by omega
            have f0 : ((kq : Int) + 1).toNat = kq + 1 := by omega
            have u1 : IntKind.i64.wrap ((kq : Int) + 1 - 1) = (kq : Int) := by rw [IntKind.wrap_i64]; omega
            have u2 : IntKind.i64.wrap (kq : Int) = (kq : Int) := by rw [IntKind.wrap_i64]; omega
            have kz : (k : Int) < (n : Int) := by omega
            have HCS := Lib.hid (cT_step (d := d) (p := kp + 1 + (kq + 1)) (by omega) (by omega))
            by_cases hc : cmpT fx.t fy.t = 0
            · have hd : (cmpT fx.t fy.t == 0) = true := by rw [beq_iff_eq]; exact hc
              have HT2 : Hid (TL dk k = cT (TL d (kp + 1 + (kq + 1) + 1))) := Lib.hid (by
                have h1 := HCS.out
                rw [show kp + 1 + (kq + 1) - 1 = kp + 1 + kq by omega, EX.out, EY.out, if_pos ((cmpT_zero _ _).1 hc)] at h1
                rw [h1]; exact HT.out)
              clear hc
              go_wp2
              go_still_tail 10, (by kernel_rfl)
              change wpList _ _ _ _ _ wr.drew
              go_wp2_with (first | (go_at_call 114 ; refine (sameTm2 _ MX.out MY.out).mono ?_; rintro e w2 ⟨rfl, hb⟩; have HB2 := Lib.hid hb; clear hb))
              go_roundw
              case rel => exact ⟨k, kq + 1 + 1, dk, rfl, by go_num, by omega, by omega, hk1', by omega, hsk, HS.out.drew.keep HB2.out, fun i hi => HI.out i (by omega), HT2.out⟩
              case measure => simp [intOf] <;> omega
            · have hd : (cmpT fx.t fy.t == 0) = false := by rw [beq_eq_false_iff_ne]; exact hc
              have HT2 : Hid (TL (dk.setIfInBounds k fx) (k + 1) = cT (TL d (kp + 1 + (kq + 1) + 1))) := Lib.hid (by
                have h1 := HCS.out
                rw [show kp + 1 + (kq + 1) - 1 = kp + 1 + kq by omega, EX.out, EY.out, if_neg (fun e => hc ((cmpT_zero _ _).2 e))] at h1
                rw [h1, TL_set hw2, HT.out])
              clear hc
              go_wp2
              go_still_tail 10, (by kernel_rfl)
              change wpList _ _ _ _ _ wr.drew
              go_wp2_with (first | (go_at_call 114 ; refine (sameTm2 _ MX.out MY.out).mono ?_; rintro e w2 ⟨rfl, hb⟩; have HB2 := Lib.hid hb; have HS2 := Lib.hid (HS.out.drew.keep hb); have v0 := HS2.out.row.wr hw2; clear x0 x1 x2 x3; obtain ⟨x0, x1, x2, x3⟩ := HS2.out.row.c4' (p := o + (kp + 1) * 4 + (kq + 1) * 4) hx2 FX.out (by omega); clear hb))
              go_roundw
              case rel =>
                refine ⟨k + 1, kq + 1 + 1, dk.setIfInBounds k fx, by go_num, by go_num, by omega, by omega, by omega, by omega, by rw [Array.size_setIfInBounds]; exact hsk, HS2.out.put hw2 fx (by have := HS2.out.ok _ hx2; rw [FX.out] at this; exact this), fun i hi => ?_, HT2.out⟩
                rw [← HI.out i (by omega)]
                by_cases hi2 : i < dk.size
                · simp [hi2, show ¬ k = i by omega]
                · simp [hi2]
              case measure => simp [intOf] <;> omega
          · obtain rfl : k2 = m2 := by omega
            have hltz2 : ¬ (k2 : Int) < (k2 : Int) := by omega
            have hkn2 : k < n := by omega
            have hkc3 : ¬ cap = k := by omega
            have hkc4 : (k : Int) ≤ (cap : Int) := by omega
            have hkn4 : (k : Int) ≤ (n : Int) := by omega
            obtain ⟨d', hs', hz', hk'⟩ := SS.clear (n - k) k HS.out (by omega)
            have HS9 := Lib.hid hs'
            have HT9 : Hid (TL d' k = cT (TL d d.size)) := Lib.hid (by rw [TL_congr hz' (by omega) hk', HT.out, hn]; congr 2)
            have hzz : d'.size = d.size := by omega
            have HCL := Lib.hid (run_clear_terms 0 wr q (o + k * 4) (n - k) (cap - k) (by omega) (fun j hj => by
              have := HS.out.row.wr (i := k + j / 4) (by omega) (j % 4) (by omega)
              rw [show o + (k + j / 4) * 4 + j % 4 = o + k * 4 + j by omega] at this
              exact this))
            clear hs' hk' hz'
            have hcl := HCL.out
            go_wp2
            go_ret
            exact ⟨k, rfl, d', HS9.out, hzz, by omega, HT9.out⟩
      · have hd : (cmpT ex.t ey.t == 0) = false := by rw [beq_eq_false_iff_ne]; exact hc
        have HE : Hid (d[kp + 1]!.t ≠ d[kp]!.t) := Lib.hid (by rw [XJ.out, XP.out]; exact fun e => hc ((cmpT_zero _ _).2 e))
        clear hc
        go_wp2
        go_still_tail 10, (by kernel_rfl)
        change wpList _ _ _ _ _ wr.drew
        go_wp2_with (first | (go_at_call 114 ; refine (sameTm2 _ MX.out MY.out).mono ?_; rintro e w2 ⟨rfl, hb⟩; have HB2 := Lib.hid hb; clear hb))
        go_roundw
        case rel =>
          refine ⟨kp + 1 + 1, by go_num, by omega, by omega, HS.out.drew.keep HB2.out, fun i h1 h2 => ?_⟩
          by_cases e : i = kp + 1
          · subst e; exact HE.out
          · exact HD.out i h1 (by omega)
        case measure => simp [intOf] <;> omega
    · have hltz : ¬ (k : Int) < (n : Int) := by omega
      obtain rfl : k = n := by omega
      go_wp2
      go_ret
      exact ⟨k, rfl, d, HS.out, rfl, by omega, by rw [cT_fresh (Nat.le_refl _) (fun i h1 h2 => HD.out i h1 (by omega)), hn]⟩
end Go.Proofs.Ytppejoccljfblaa
