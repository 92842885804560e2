/-
  Comparing numbers, texts and terms. No condition but how the terms lie.
-/
import Derived.Test.YtmadfkofmehfkaaAt4
import Derived.StillTailTactics
import Derived.Deep.RegionHeld3
import Derived.WalkLawsBesides
import Derived.Test.YtmadfkofmehfkaaAt5
namespace Go.Proofs.Ytmadfkofmehfkaa
open Go.RowKit
attribute [local go_sem] toList_beq

set_option maxRecDepth 100000 in
set_option maxHeartbeats 2000000 in
theorem nan_int (a : Int) (w : World) : Calls Try.prog 92 #[.int .i64 a] w fun e w' => e = .returned (.bool false) ∧ w = w' := by
  go_enter Try.func92, Try.ntmps92
  go_wp2
  go_ret
  exact ⟨rfl, rfl⟩
set_option maxRecDepth 100000 in
set_option maxHeartbeats 2000000 in
theorem nan_str (a : ByteArray) (w : World) : Calls Try.prog 93 #[.string a] w fun e w' => e = .returned (.bool false) ∧ w = w' := by
  have e1 : (a == a) = true := by rw [beq_iff_eq]
  go_enter Try.func93, Try.ntmps93
  go_wp2
  go_ret
  exact ⟨rfl, rfl⟩
set_option maxRecDepth 100000 in
set_option maxHeartbeats 2000000 in
theorem cmp_int (a b : Int) (w : World) : Calls Try.prog 78 #[.int .i64 a, .int .i64 b] w fun e w' => e = .returned (.int .i64 (cmpI a b)) ∧ w = w' := by
  by_cases h1 : a < b
  · have HF := Lib.hid (show cmpI a b = -1 from if_pos h1)
    go_enter Try.func78, Try.ntmps78
    go_wp2_with (first | (go_at_call 92; refine (nan_int _ _).mono ?_; (rintro e w' ⟨rfl, rfl⟩)))
    go_ret
    exact ⟨ret_int HF.out.symm, rfl⟩
  · by_cases h2 : b < a
    · have HF := Lib.hid (show cmpI a b = 1 by unfold cmpI; rw [if_neg h1, if_pos h2])
      go_enter Try.func78, Try.ntmps78
      go_wp2_with (first | (go_at_call 92; refine (nan_int _ _).mono ?_; (rintro e w' ⟨rfl, rfl⟩)))
      go_ret
      exact ⟨ret_int HF.out.symm, rfl⟩
    · have HF := Lib.hid (show cmpI a b = 0 by unfold cmpI; rw [if_neg h1, if_neg h2])
      go_enter Try.func78, Try.ntmps78
      go_wp2_with (first | (go_at_call 92; refine (nan_int _ _).mono ?_; (rintro e w' ⟨rfl, rfl⟩)))
      go_ret
      exact ⟨ret_int HF.out.symm, rfl⟩
set_option maxRecDepth 100000 in
set_option maxHeartbeats 2000000 in
theorem cmp_str (a b : ByteArray) (w : World) : Calls Try.prog 79 #[.string a, .string b] w fun e w' => e = .returned (.int .i64 (cmpS a b)) ∧ w = w' := by
  rcases cmpS_cases a b with ⟨h, k⟩ | ⟨h, e⟩ | ⟨h, k⟩
  · have HF := Lib.hid h
    clear h
    go_enter Try.func79, Try.ntmps79
    go_wp2_with (first | (go_at_call 93; refine (nan_str _ _).mono ?_; (rintro e w' ⟨rfl, rfl⟩)))
    go_ret
    exact ⟨ret_int HF.out.symm, rfl⟩
  · subst e
    have HF := Lib.hid h
    have k1 := less_irr a.toList
    have k2 : (a == a) = true := by rw [beq_iff_eq]
    clear h
    go_enter Try.func79, Try.ntmps79
    go_wp2_with (first | (go_at_call 93; refine (nan_str _ _).mono ?_; (rintro e w' ⟨rfl, rfl⟩)))
    go_ret
    exact ⟨ret_int HF.out.symm, rfl⟩
  · have HF := Lib.hid h
    have k1 : Op.bytesLess a.toList b.toList = false := by
      cases h1 : Op.bytesLess a.toList b.toList
      · rfl
      · exact (not_both h1 k).elim
    have k2 : (a == b) = false := by
      rw [beq_eq_false_iff_ne]; rintro rfl; rw [less_irr] at k; cases k
    clear h k
    go_enter Try.func79, Try.ntmps79
    go_wp2_with (first | (go_at_call 93; refine (nan_str _ _).mono ?_; (rintro e w' ⟨rfl, rfl⟩)))
    go_ret
    exact ⟨ret_int HF.out.symm, rfl⟩
end Go.Proofs.Ytmadfkofmehfkaa

/-
  Compare of terms. No condition but how they lie.
-/
namespace Go.Proofs.Ytmadfkofmehfkaa
open Go.RowKit
attribute [local go_sem] toList_beq

def orL : List Int → Int
  | [] => 0
  | x :: l => lx x (orL l)
theorem orL_at : ∀ (l : List Int) (k : Nat) (x : Int), l[k]? = some x → ¬ x = 0 → (∀ j, j < k → l[j]? = some 0) → orL l = x
  | [], k, x, h, _, _ => by simp at h
  | y :: l, 0, x, h, hx, _ => by
    simp at h; subst h; rw [orL]; exact lx_not hx _
  | y :: l, k + 1, x, h, hx, hz => by
    have h0 := hz 0 (by omega)
    simp at h0; subst h0
    rw [orL, lx_zero]
    exact orL_at l k x (by simpa using h) hx fun j hj => by have := hz (j + 1) (by omega); simpa using this
theorem orL_none : ∀ (l : List Int), (∀ j, j < l.length → l[j]? = some 0) → orL l = 0
  | [], _ => rfl
  | y :: l, hz => by
    have h0 := hz 0 (by simp)
    simp at h0; subst h0
    rw [orL, lx_zero]
    exact orL_none l fun j hj => by have := hz (j + 1) (by simpa using hj); simpa using this
set_option maxRecDepth 100000 in
set_option maxHeartbeats 2000000 in
theorem or_any {l : List Int} {n cap : Nat} {a : Option Addr} (w : World) (h : MemW w (.s 1 (intRows l)) (.slice a n cap)) :
    Calls Try.prog 77 #[.slice a n cap] w fun e w' => e = .returned (.int .i64 (orL l)) ∧ w = w' := by
  have hl := Mem.len h
  rw [intRows_len] at hl
  have HL := Lib.hid hl.1
  have hcap := hl.2.1
  have hmx := hl.2.2
  have H := Lib.hid h
  clear hl h
  go_enter Try.func77, Try.ntmps77
  go_wp2
  go_loop [5, 8] (fun _ i => ∃ k : Nat, k ≤ n ∧ i = .int .i64 k ∧ Hid (∀ j, j < k → l[j]? = some 0)) (fun _ i => n - (intOf i).toNat)
  case atStart => exact ⟨0, Nat.zero_le _, rfl, fun j hj => by omega⟩
  case round =>
    obtain ⟨k, hk, rfl, Hn⟩ := hrel
    by_cases hlt : k < n
    · obtain ⟨b, o, x, rfl, _, Hx, hc⟩ := int_at H.out k hlt
      by_cases hx : x = 0
      · subst hx
        have HN : Hid (∀ j, j < k + 1 → l[j]? = some 0) := fun j hj => by
          by_cases e : j = k
          · subst e; exact Hx.out
          · exact Hn.out j (by omega)
        go_wp2
        go_round
        case rel => exact ⟨k + 1, by omega, by go_num, HN.out⟩
        case measure => simp [intOf]; omega
      · have e1 : (x != 0) = true := by rw [bne_iff_ne]; exact hx
        have HF := Lib.hid (orL_at l k x Hx.out hx Hn.out)
        clear hx
        go_wp2
        go_ret
        exact ⟨ret_int HF.out.symm, rfl⟩
    · have HF := Lib.hid (orL_none l fun j hj => Hn.out j (by rw [HL.out] at hj; omega))
      go_wp2
      go_ret
      exact ⟨ret_int HF.out.symm, rfl⟩

theorem cmpTs_drop {l m : List Tm} {k : Nat} {x y : Tm} (hx : l[k]? = some x) (hy : m[k]? = some y) : cmpTs (l.drop k) (m.drop k) = lx (cmpT x y) (cmpTs (l.drop (k + 1)) (m.drop (k + 1))) := by
  obtain ⟨h1, rfl⟩ := List.getElem?_eq_some_iff.1 hx
  obtain ⟨h2, rfl⟩ := List.getElem?_eq_some_iff.1 hy
  rw [List.drop_eq_getElem_cons h1, List.drop_eq_getElem_cons h2, cmpTs]

/-- What is known of Compare at a term. -/
def CmpAt (x : Tm) : Prop := ∀ (y : Tm) (w : World) (a a' : Option Addr) (n n' cap cap' : Nat), MemW w (.s 4 (Tm.rows x.args)) (.slice a n cap) → MemW w (.s 4 (Tm.rows y.args)) (.slice a' n' cap') →
  Calls Try.prog 69 #[.agg #[.int .i64 x.kind, .string x.name, .int .i64 x.n, .slice a n cap], .agg #[.int .i64 y.kind, .string y.name, .int .i64 y.n, .slice a' n' cap']] w fun e w' => e = .returned (.int .i64 (cmpT x y)) ∧ Below w.heap.size w w'

set_option maxRecDepth 100000 in
set_option maxHeartbeats 2000000 in
theorem cmpFunc_any {l m : List Tm} {n n' cap cap' : Nat} {a a' : Option Addr} (w : World) (h : MemW w (.s 4 (Tm.rows l)) (.slice a n cap)) (h' : MemW w (.s 4 (Tm.rows m)) (.slice a' n' cap')) (ih : ∀ x ∈ l, CmpAt x) :
    Calls Try.prog 80 #[.slice a n cap, .slice a' n' cap', .func (.func 69) #[] #[]] w fun e w' => e = .returned (.int .i64 (cmpTs l m)) ∧ Below w.heap.size w w' := by
  have hl := Tms.len h
  have hl' := Tms.len h'
  have HL := Lib.hid hl.1
  have HL' := Lib.hid hl'.1
  have hcap := hl.2.1
  have hmx := hl.2.2
  have hcap' := hl'.2.1
  have hmx' := hl'.2.2
  have H := Lib.hid h
  have H' := Lib.hid h'
  have IH := Lib.hid ih
  clear hl hl' h h' ih
  go_enter Try.func80, Try.ntmps80
  go_wp2
  go_loopw [7, 13] (fun _ i wr => ∃ k : Nat, k ≤ n ∧ k ≤ n' ∧ i = .int .i64 k ∧ Hid (Below w.heap.size w wr) ∧ Hid (cmpTs l m = cmpTs (l.drop k) (m.drop k))) (fun _ i _ => n - (intOf i).toNat)
  case atStart => exact ⟨0, Nat.zero_le _, Nat.zero_le _, rfl, Below.refl _ _, show cmpTs l m = _ by rw [List.drop_zero, List.drop_zero]⟩
  case round =>
    obtain ⟨k, hk, hk', rfl, HB, HC⟩ := hrel
    by_cases hlt : k < n
    · obtain ⟨b, o, x, ax, nx, capx, rfl, hbB, Hx, x0, x1, x2, x3, GX⟩ := (Tms.keep H.out HB.out).at k hlt
      by_cases hlt' : k < n'
      · obtain ⟨b', o', y, ay, ny, capy, rfl, hbB', Hy, y0, y1, y2, y3, GY⟩ := (Tms.keep H'.out HB.out).at k hlt'
        have HD := Lib.hid (cmpTs_drop Hx.out Hy.out)
        have GA := Lib.hid (IH.out x (mem_of_at Hx.out))
        have hge : ¬ ((n' : Int) ≤ k) := by omega
        by_cases hc : cmpT x y = 0
        · have HZ := Lib.hid hc
          clear hc
          go_wp2_with (first | (go_at_call 69 ; refine (GA.out y _ ax ay nx ny capx capy (MemW.alloc (MemW.alloc GX.out _) _) (MemW.alloc (MemW.alloc GY.out _) _)).mono ?_; rintro e w2 ⟨rfl, hb⟩; rw [HZ.out]; have HB2 := Lib.hid hb; clear hb))
          go_roundw
          case rel => exact ⟨k + 1, by omega, by omega, by go_num, Below.toAA HB.out HB2.out, show cmpTs l m = _ by rw [HC.out, HD.out, HZ.out, lx_zero]⟩
          case measure => simp [intOf]; omega
        · have e1 : (cmpT x y != 0) = true := by rw [bne_iff_ne]; exact hc
          have HZ : Hid (cmpTs l m = cmpT x y) := Lib.hid (by rw [HC.out, HD.out, lx_not hc])
          clear hc
          go_wp2_with (first | (go_at_call 69 ; refine (GA.out y _ ax ay nx ny capx capy (MemW.alloc (MemW.alloc GX.out _) _) (MemW.alloc (MemW.alloc GY.out _) _)).mono ?_; rintro e w2 ⟨rfl, hb⟩; have HB2 := Lib.hid hb; clear hb))
          go_ret
          exact ⟨ret_int HZ.out.symm, Below.toAA HB.out HB2.out⟩
      · have HZ : Hid (cmpTs l m = 1) := Lib.hid (by
          obtain ⟨h1, rfl⟩ := List.getElem?_eq_some_iff.1 Hx.out
          rw [HC.out, List.drop_eq_getElem_cons h1, List.drop_of_length_le (l := m) (by rw [HL'.out]; omega), cmpTs])
        have hge : (n' : Int) ≤ k := by omega
        go_wp2
        go_ret
        exact ⟨ret_int HZ.out.symm, HB.out.alloc HB.out.size _⟩
    · have hkn : k = n := by omega
      have hge : ¬ (k : Int) < n := by omega
      by_cases hnn : n < n'
      · have HZ : Hid (cmpTs l m = -1) := Lib.hid (by
          have h1 : k < m.length := by rw [HL'.out]; omega
          rw [HC.out, List.drop_of_length_le (l := l) (by rw [HL.out]; omega), List.drop_eq_getElem_cons h1, cmpTs])
        have hni : (n : Int) < n' := by omega
        clear hkn
        go_wp2
        go_ret
        exact ⟨ret_int HZ.out.symm, HB.out⟩
      · have HZ : Hid (cmpTs l m = 0) := Lib.hid (by
          rw [HC.out, List.drop_of_length_le (l := l) (by rw [HL.out]; omega), List.drop_of_length_le (l := m) (by rw [HL'.out]; omega), cmpTs])
        have hni : ¬ (n : Int) < n' := by omega
        clear hkn
        go_wp2
        go_ret
        exact ⟨ret_int HZ.out.symm, HB.out⟩
end Go.Proofs.Ytmadfkofmehfkaa
