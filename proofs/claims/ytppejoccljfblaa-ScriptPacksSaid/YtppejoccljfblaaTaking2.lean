/-
  Bytes taken as numbers. No condition.
-/
import Derived.Test.YtppejoccljfblaaTaking
namespace Go.Proofs.Ytppejoccljfblaa
open Go.RowKit

/-- The first k bytes as a number; those that are missing are 0. -/
def numV (l : List UInt8) : Nat → Nat
  | 0 => 0
  | k + 1 => numV l k * 256 + (l.getD k 0).toNat
theorem numV_le (l : List UInt8) (k : Nat) : numV l k < 256 ^ k := by
  induction k with
  | zero => simp [numV]
  | succ k ih =>
    have := (l.getD k 0).toNat_lt
    simp only [numV, Nat.pow_succ]; omega

set_option maxRecDepth 100000 in
set_option maxHeartbeats 2000000 in
theorem number_any' {B q : Nat} {l : List UInt8} {w : World} (k : Nat) (hk : k ≤ 3) (h : TK B w q l) :
    Calls Try.prog 73 #[.func (.func 121) #[] #[.pointer (some ⟨q, 0, none⟩)], .int .i64 k] w fun e w' => e = .returned (.int .i64 (numV l k)) ∧ Far (fun k => k = q) w w' ∧ TK B w' q (l.drop k) := by
  have H := Lib.hid h
  clear h
  go_enter Try.func73, Try.ntmps73
  go_wp2
  go_loopw [5, 7] (fun v i wr => ∃ j : Nat, j ≤ k ∧ i = .int .i64 j ∧ v = .int .i64 (numV l j) ∧ Hid (Far (fun k => k = q) w wr) ∧ Hid (TK B wr q (l.drop j))) (fun _ i _ => k - (intOf i).toNat)
  case atStart => exact ⟨0, Nat.zero_le _, rfl, rfl, Far.refl _ _, H.out⟩
  case round =>
    obtain ⟨j, hj, rfl, rfl, HB, HT⟩ := hrel
    by_cases hlt : j < k
    · have hn := numV_le l j
      have hp : 256 ^ j ≤ 65536 := by
        have : 256 ^ j ≤ 256 ^ 2 := Nat.pow_le_pow_right (by decide) (by omega)
        exact this
      have hnj : numV l j ≤ 65536 := by omega
      have hd := (l.getD j 0).toNat_lt
      have HN := Lib.hid (show numV l (j + 1) = numV l j * 256 + (l.getD j 0).toNat from rfl)
      have HD := Lib.hid (show (l.drop j).headD 0 = l.getD j 0 by rw [List.headD_eq_head?_getD, List.head?_drop]; rfl)
      clear hn hp
      generalize numV l j = v at *
      generalize hx : (l.getD j 0).toNat = x at *
      have hx0 : (x : Int) < 256 := by omega
      go_wp2_with (first | (go_at_call 121; refine (next_any HT.out).mono ?_; (rintro e w2 ⟨rfl, hb, ht⟩; have HB2 := Lib.hid (HB.out.trans hb); have HT2 := Lib.hid ht; clear hb ht; rw [HD.out, hx])))
      go_roundw
      case rel => exact ⟨j + 1, by omega, by go_num, by rw [HN.out]; go_num, HB2.out, by have := HT2.out; rw [List.tail_drop] at this; exact this⟩
      case measure => simp [intOf]; omega
    · obtain rfl : j = k := by omega
      go_wp2
      go_ret
      exact ⟨rfl, HB.out, HT.out⟩
end Go.Proofs.Ytppejoccljfblaa
