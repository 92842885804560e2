/-
  slices.Index, slices.Contains of numbers. No condition but how they lie.
-/
import Derived.Test.YtlhkkkmjoobpcaaIntRows
namespace Go.Proofs.Ytlhkkkmjoobpcaa
open Go.RowKit

set_option maxRecDepth 100000 in
set_option maxHeartbeats 2000000 in
theorem index_int_any {l : List Int} {n cap : Nat} {a : Option Addr} (s : Int) (w : World) (h : MemW w (.s 1 (intRows l)) (.slice a n cap)) :
    Calls Try.prog 22 #[.slice a n cap, .int .i64 s] w fun e w' => e = .returned (.int .i64 (idxI l s)) ∧ w = w' := by
  have hl := Mem.len h
  rw [intRows_len] at hl
  have HL := Lib.hid hl.1
  have hcap := hl.2.1
  have hmx := hl.2.2
  have H := Lib.hid h
  clear hl h
  go_enter Try.func22, Try.ntmps22
  go_wp2
  go_loop [5, 8] (fun _ i => ∃ k : Nat, k ≤ n ∧ i = .int .i64 k ∧ Hid (∀ j, j < k → l[j]? ≠ some s)) (fun _ i => n - (intOf i).toNat)
  case atStart => exact ⟨0, Nat.zero_le _, rfl, fun j hj => by omega⟩
  case round =>
    obtain ⟨k, hk, rfl, Hn⟩ := hrel
    by_cases hlt : k < n
    · obtain ⟨b, o, x, rfl, _, Hx, hc⟩ := int_at H.out k hlt
      by_cases hx : x = s
      · have HF := Lib.hid (idxn_hit l s x k Hx.out hx Hn.out)
        have e1 : (s == x) = true := by rw [beq_iff_eq]; exact hx.symm
        clear hx
        go_wp2
        go_ret
        exact ⟨ret_int HF.out.symm, rfl⟩
      · have e1 : (s == x) = false := by rw [beq_eq_false_iff_ne]; exact fun e => hx e.symm
        have HN : Hid (∀ j, j < k + 1 → l[j]? ≠ some s) := fun j hj => by
          by_cases e : j = k
          · subst e; rw [Hx.out]; intro e; exact hx (Option.some.inj e)
          · exact Hn.out j (by omega)
        clear hx
        go_wp2
        go_round
        case rel => exact ⟨k + 1, by omega, by go_num, HN.out⟩
        case measure => simp [intOf]; omega
    · have HF := Lib.hid (idxn_miss l s fun j hj => Hn.out j (by rw [HL.out] at hj; omega))
      go_wp2
      go_ret
      exact ⟨ret_int HF.out.symm, rfl⟩
theorem idxn_in (l : List Int) (s : Int) : decide (0 ≤ idxI l s) = decide (s ∈ l) := by
  rw [idxI_ge, Bool.eq_iff_iff, List.any_eq_true, decide_eq_true_eq]
  constructor
  · rintro ⟨x, hx, hs⟩; rw [beq_iff_eq] at hs; subst hs; exact hx
  · intro h; exact ⟨s, h, by rw [beq_iff_eq]⟩
set_option maxRecDepth 100000 in
set_option maxHeartbeats 2000000 in
theorem contains_int_any {l : List Int} {n cap : Nat} {a : Option Addr} (s : Int) (w : World) (h : MemW w (.s 1 (intRows l)) (.slice a n cap)) :
    Calls Try.prog 18 #[.slice a n cap, .int .i64 s] w fun e w' => e = .returned (.bool (decide (s ∈ l))) ∧ w = w' := by
  have HI := Lib.hid (index_int_any s w h)
  have HF := Lib.hid (idxn_in l s)
  clear h
  go_enter Try.func18, Try.ntmps18
  go_wp2_with (first | (go_at_call 22 ; refine HI.out.mono ?_; rintro e w' ⟨rfl, rfl⟩))
  go_ret
  exact ⟨ret_bool HF.out, rfl⟩
end Go.Proofs.Ytlhkkkmjoobpcaa
