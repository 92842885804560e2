/-
  Comparing numbers, texts and terms. No condition but how the terms lie.
-/
import Derived.Test.YtmadfkofmehfkaaOrder
import Derived.Test.YtmadfkofmehfkaaStrs
import Derived.StillTailTactics
import Derived.Deep.RegionHeld3
import Derived.WalkLawsBesides
namespace Go.Proofs.Ytmadfkofmehfkaa
open Go.RowKit
attribute [local go_sem] toList_beq

set_option maxRecDepth 100000 in
set_option maxHeartbeats 2000000 in
theorem nan_int (a : Int) (w : World) : Calls Try.prog 92 #[.int .i64 a] w fun e w' => e = .returned (.bool false) ∧ w = w' := by
  go_enter Try.func92, Try.ntmps92
  go_wp2
  go_ret
  exact ⟨rfl, rfl⟩
set_option maxRecDepth 100000 in
set_option maxHeartbeats 2000000 in
theorem nan_str (a : ByteArray) (w : World) : Calls Try.prog 93 #[.string a] w fun e w' => e = .returned (.bool false) ∧ w = w' := by
  have e1 : (a == a) = true := by rw [beq_iff_eq]
  go_enter Try.func93, Try.ntmps93
  go_wp2
  go_ret
  exact ⟨rfl, rfl⟩
set_option maxRecDepth 100000 in
set_option maxHeartbeats 2000000 in
theorem cmp_int (a b : Int) (w : World) : Calls Try.prog 78 #[.int .i64 a, .int .i64 b] w fun e w' => e = .returned (.int .i64 (cmpI a b)) ∧ w = w' := by
  by_cases h1 : a < b
  · have HF := Lib.hid (show cmpI a b = -1 from if_pos h1)
    go_enter Try.func78, Try.ntmps78
    go_wp2_with (first | (go_at_call 92; refine (nan_int _ _).mono ?_; (rintro e w' ⟨rfl, rfl⟩)))
    go_ret
    exact ⟨ret_int HF.out.symm, rfl⟩
  · by_cases h2 : b < a
    · have HF := Lib.hid (show cmpI a b = 1 by unfold cmpI; rw [if_neg h1, if_pos h2])
      go_enter Try.func78, Try.ntmps78
      go_wp2_with (first | (go_at_call 92; refine (nan_int _ _).mono ?_; (rintro e w' ⟨rfl, rfl⟩)))
      go_ret
      exact ⟨ret_int HF.out.symm, rfl⟩
    · have HF := Lib.hid (show cmpI a b = 0 by unfold cmpI; rw [if_neg h1, if_neg h2])
      go_enter Try.func78, Try.ntmps78
      go_wp2_with (first | (go_at_call 92; refine (nan_int _ _).mono ?_; (rintro e w' ⟨rfl, rfl⟩)))
      go_ret
      exact ⟨ret_int HF.out.symm, rfl⟩
set_option maxRecDepth 100000 in
set_option maxHeartbeats 2000000 in
theorem cmp_str (a b : ByteArray) (w : World) : Calls Try.prog 79 #[.string a, .string b] w fun e w' => e = .returned (.int .i64 (cmpS a b)) ∧ w = w' := by
  rcases cmpS_cases a b with ⟨h, k⟩ | ⟨h, e⟩ | ⟨h, k⟩
  · have HF := Lib.hid h
    clear h
    go_enter Try.func79, Try.ntmps79
    go_wp2_with (first | (go_at_call 93; refine (nan_str _ _).mono ?_; (rintro e w' ⟨rfl, rfl⟩)))
    go_ret
    exact ⟨ret_int HF.out.symm, rfl⟩
  · subst e
    have HF := Lib.hid h
    have k1 := less_irr a.toList
    have k2 : (a == a) = true := by rw [beq_iff_eq]
    clear h
    go_enter Try.func79, Try.ntmps79
    go_wp2_with (first | (go_at_call 93; refine (nan_str _ _).mono ?_; (rintro e w' ⟨rfl, rfl⟩)))
    go_ret
    exact ⟨ret_int HF.out.symm, rfl⟩
  · have HF := Lib.hid h
    have k1 : Op.bytesLess a.toList b.toList = false := by
      cases h1 : Op.bytesLess a.toList b.toList
      · rfl
      · exact (not_both h1 k).elim
    have k2 : (a == b) = false := by
      rw [beq_eq_false_iff_ne]; rintro rfl; rw [less_irr] at k; cases k
    clear h k
    go_enter Try.func79, Try.ntmps79
    go_wp2_with (first | (go_at_call 93; refine (nan_str _ _).mono ?_; (rintro e w' ⟨rfl, rfl⟩)))
    go_ret
    exact ⟨ret_int HF.out.symm, rfl⟩
end Go.Proofs.Ytmadfkofmehfkaa
