/-
  script.laid: a number as bytes behind a row of the call's own. No condition but sizes.
-/
import Derived.Test.YtppejoccljfblaaAppGen
import Derived.Test.YtppejoccljfblaaPack0
namespace Go.Proofs.Ytppejoccljfblaa
open Go.RowKit

theorem byte_shift (m i : Nat) : (m : Int) / 2 ^ (8 * i) % 256 = ((UInt8.ofNat (m / 256 ^ i)).toNat : Int) := by
  rw [byte_toNat, show (256 : Nat) ^ i = 2 ^ (8 * i) by rw [Nat.pow_mul]]
  simp
set_option maxRecDepth 100000 in
set_option maxHeartbeats 2000000 in
theorem laid_any {base : Nat} {y : Value} {l : List UInt8} (n : Int) (k : Nat) (w : World) (h : OwnB base w y l) (hk : 1 ≤ k ∧ k ≤ 3) (hn : -9223372036854775808 ≤ n ∧ n ≤ 9223372036854775807) (hl : l.length ≤ 50000) (hbase : base ≤ w.heap.size) :
    Calls Try.prog 79 #[y, .int .i64 n, .int .i64 k] w fun e w' => ∃ y', e = .returned (.tuple #[y', .bool (fitsB n k)]) ∧ OwnB base w' y' (if fitsB n k then l ++ laidL n.toNat k else l) ∧ Stay base y w y' w' := by
  have H := Lib.hid h
  have HL := Lib.hid hl
  have HB := Lib.hid hbase
  clear h hl hbase
  have hp : wrap64 (2 ^ (8 * k)) = 256 ^ k := by
    rcases (show k = 1 ∨ k = 2 ∨ k = 3 by omega) with rfl | rfl | rfl <;> first | decide | simp [wrap64] | omega
  have hp2 : (256 : Int) ^ k ≤ 16777216 := by
    rcases (show k = 1 ∨ k = 2 ∨ k = 3 by omega) with rfl | rfl | rfl <;> decide
  obtain ⟨P, hP⟩ : ∃ P : Int, (256 : Int) ^ k = P := ⟨_, rfl⟩
  have hfb : fitsB n k = decide (0 ≤ n ∧ n < P) := by rw [fitsB, hP]
  rw [hP] at hp hp2
  by_cases hf : 0 ≤ n ∧ n < P
  · obtain ⟨m, rfl⟩ : ∃ m : Nat, n = (m : Int) := ⟨n.toNat, by omega⟩
    rw [show fitsB (m : Int) k = true by rw [hfb]; simp [hf]]
    simp only [if_true, Int.toNat_natCast]
    have h1 : decide ((m : Int) < 0) = false := by simp
    have h2 : decide (P ≤ (m : Int)) = false := by simp; omega
    go_enter Try.func79, Try.ntmps79
    go_wp2
    simp only [hp]
    go_loopw [0, 8] (fun v i wr => ∃ (z : Int) (j : Nat) (L : List UInt8), j ≤ k ∧ z = (j : Int) - 1 ∧ i = .int .i64 z ∧ Hid (L ++ laidL m j = l ++ laidL m k) ∧ Hid (OwnB base wr v L) ∧ Hid (Stay base y w v wr)) (fun _ i _ => (intOf i + 1).toNat)
    case atStart => exact ⟨_, k, l, Nat.le_refl _, rfl, rfl, rfl, H.out, Stay.refl _ _ _⟩
    case round =>
      obtain ⟨z, j, L, hj, rfl, rfl, HE, HO, HS⟩ := hrel
      by_cases h0 : j = 0
      · subst h0
        go_wp2
        all_goals exact bodyPost_ret (v := .tuple #[u0, .bool true]) (by simp [results, Try.results79, go_sem]) rfl ⟨_, rfl, by have := HO.out; rw [← HE.out, laidL, List.append_nil]; exact this, HS.out⟩
      · have e0 : decide ((0 : Int) ≤ (j : Int) - 1) = true := by simp; omega
        have HS2 := Lib.hid (show L.length ≤ 100000 by have h1 := congrArg List.length HE.out; have := HL.out; rw [List.length_append, List.length_append, laidL_length, laidL_length] at h1; omega)
        have HW := Lib.hid (Nat.le_trans HB.out HS.out.bel.size)
        go_wp2_with (
          (at_builtin
           refine listx_app rfl (.tmp 25) (.tmp 31) rfl rfl rfl (app_byte (UInt8.ofNat (m / 256 ^ (j - 1))) _ (byte_shift _ _) HO.out HS2.out rfl HW.out) ?_
           rintro v' w' ⟨ho, hs⟩
           have HO' := Lib.hid ho
           have HS' := Lib.hid hs
           clear ho hs))
        go_roundw
        case rel =>
          refine ⟨(j : Int) - 2, j - 1, L ++ [UInt8.ofNat (m / 256 ^ (j - 1))], by omega, by omega, by go_num, ?_, HO'.out, HS.out.trans HS'.out⟩
          obtain ⟨j', rfl⟩ : ∃ j', j = j' + 1 := ⟨j - 1, by omega⟩
          have := HE.out
          rw [laidL] at this
          rw [Nat.add_sub_cancel, List.append_assoc]
          exact this
        case measure => simp [intOf]; omega
  · rw [show fitsB n k = false by rw [hfb]; simp [hf]]
    simp only [Bool.false_eq_true, if_false]
    have hH : decide (n < 0) = true ∨ decide (P ≤ n) = true := by simp; omega
    go_enter Try.func79, Try.ntmps79
    go_wp2
    all_goals exact bodyPost_ret (v := .tuple #[y, .bool false]) (by simp [results, Try.results79, go_sem]) rfl ⟨_, rfl, H.out, Stay.refl _ _ _⟩
end Go.Proofs.Ytppejoccljfblaa
