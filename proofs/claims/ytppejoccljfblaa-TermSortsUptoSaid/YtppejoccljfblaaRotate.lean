/-
  slices.swapRangeCmpFunc, slices.rotateCmpFunc at terms. No condition but how they lie.
-/
import Derived.Test.YtppejoccljfblaaInsert
import Derived.Test.YtppejoccljfblaaSym2
namespace Go.Proofs.Ytppejoccljfblaa
open Go.RowKit
attribute [local go_sem ↓] wp_store_O
attribute [local go_sem] stO_eq stB_eq stC_eq stF_eq wrO_set

set_option maxRecDepth 100000 in
set_option maxHeartbeats 2000000 in
theorem swapRange_any {w0 w : World} {q o : Nat} {d : Array El} (a b n cap : Nat) {ai bi ni : Int} (hai : ai = (a : Int)) (hbi : bi = (b : Int)) (hni : ni = (n : Int)) (h : SS w0 q o d w) (hab : a + n ≤ b) (hb : b + n ≤ d.size) (hsz : d.size ≤ 100000) :
    Calls Try.prog 197 #[.slice (some ⟨q, o, none⟩) d.size cap, .int .i64 ai, .int .i64 bi, .int .i64 ni, .func (.func 112) #[] #[]] w fun e w' => e = .returned (.tuple #[]) ∧ ∃ d', SS w0 q o d' w' ∧ Sort.PermIn a (b + n) d d' ∧ ∀ k, d'[k]! = xch (fun k => d[k]!) a b n k := by
  subst hai; subst hbi; subst hni
  have H := Lib.hid h
  clear h
  go_enter Try.func197, Try.ntmps197
  go_wp2
  go_loopw [10] (fun vi wr => ∃ (i : Nat) (dk : Array El), vi = .int .i64 i ∧ i ≤ n ∧ dk.size = d.size ∧ Hid (SS w0 q o dk wr) ∧ Hid (Sort.PermIn a (b + n) d dk) ∧ Hid (∀ k, dk[k]! = xch (fun k => d[k]!) a b i k)) (fun vi _ => n - (intOf vi).toNat)
  case atStart => exact ⟨0, d, rfl, Nat.zero_le _, rfl, H.out, Sort.permIn_refl _ _ _, Lib.hid fun k => (xch_zero _ _ _ _).symm⟩
  case round =>
    obtain ⟨i, dk, rfl, hin, hsk, HS, HP, HX⟩ := hrel
    by_cases hlt : i < n
    · have hltz : (i : Int) < (n : Int) := by omega
      obtain ⟨xj, hxj⟩ : ∃ x, dk[a + i]! = x := ⟨_, rfl⟩
      obtain ⟨xp, hxp⟩ : ∃ x, dk[b + i]! = x := ⟨_, rfl⟩
      have hj1 : a + i < dk.size := by omega
      have hj0 : b + i < dk.size := by omega
      have XJ := Lib.hid hxj
      have XP := Lib.hid hxp
      clear hxj hxp
      obtain ⟨x0, x1, x2, x3⟩ := HS.out.row.c4 hj1 XJ.out
      obtain ⟨y0, y1, y2, y3⟩ := HS.out.row.c4 hj0 XP.out
      have v0 := HS.out.drew.row.wr hj1
      have v1 := HS.out.drew.row.wr hj0
      have jz : (a : Int) + (i : Int) < (d.size : Int) := by omega
      have jz1 : (b : Int) + (i : Int) < (d.size : Int) := by omega
      have p0 : (0 : Int) ≤ (a : Int) + (i : Int) := by omega
      have p1 : (0 : Int) ≤ (b : Int) + (i : Int) := by omega
      have e0 : ((a : Int) + (i : Int)).toNat = a + i := by omega
      have e1 : ((b : Int) + (i : Int)).toNat = b + i := by omega
      have w1 : IntKind.i64.wrap ((a : Int) + (i : Int)) = (a : Int) + (i : Int) := by rw [IntKind.wrap_i64]; omega
      have w2 : IntKind.i64.wrap ((b : Int) + (i : Int)) = (b : Int) + (i : Int) := by rw [IntKind.wrap_i64]; omega
      go_wp2
      go_region
      all_goals
        go_wp2
        go_roundw
        case rel => exact ⟨i + 1, Sort.swp dk (a + i) (b + i), by go_num, by omega, by rw [Sort.size_swp]; exact hsk, HS.out.drew.swp hj1 hj0 XJ.out XP.out, Sort.permIn_trans _ _ _ _ _ HP.out (Sort.swp_permIn _ _ _ _ _ (by omega) (by omega) (by omega) (by omega) (by omega)), Lib.hid (xch_step HX.out hsk (by omega) (by omega))⟩
        case measure => simp [intOf] <;> omega
    · have hltz : ¬ (i : Int) < (n : Int) := by omega
      obtain rfl : i = n := by omega
      go_wp2
      go_end0
      exact ⟨rfl, dk, HS.out, HP.out, HX.out⟩
set_option maxRecDepth 100000 in
set_option maxHeartbeats 2000000 in
theorem rotate_any {w0 w : World} {q o : Nat} {d : Array El} (a m b cap : Nat) {ai mi bi : Int} (hai : ai = (a : Int)) (hmi : mi = (m : Int)) (hbi : bi = (b : Int)) (h : SS w0 q o d w) (ham : a < m) (hmb : m < b) (hb : b ≤ d.size) (hsz : d.size ≤ 100000) :
    Calls Try.prog 194 #[.slice (some ⟨q, o, none⟩) d.size cap, .int .i64 ai, .int .i64 mi, .int .i64 bi, .func (.func 112) #[] #[]] w fun e w' => e = .returned (.tuple #[]) ∧ ∃ d', SS w0 q o d' w' ∧ Sort.PermIn a b d d' ∧ ∀ k, d'[k]! = rot (fun k => d[k]!) a m b k := by
  subst hai; subst hbi; subst hmi
  have H := Lib.hid h
  clear h
  go_enter Try.func194, Try.ntmps194
  go_wp2
  go_loopw [10, 11] (fun vi vj wr => ∃ (i j : Nat) (dk : Array El), vi = .int .i64 i ∧ vj = .int .i64 j ∧ 0 < i ∧ 0 < j ∧ a + i ≤ m ∧ m + j ≤ b ∧ dk.size = d.size ∧ Hid (SS w0 q o dk wr) ∧ Hid (Sort.PermIn a b d dk) ∧ Hid (∀ k, rot (fun k => dk[k]!) (m - i) m (m + j) k = rot (fun k => d[k]!) a m b k)) (fun vi vj _ => (intOf vi).toNat + (intOf vj).toNat)
  case atStart => exact ⟨m - a, b - m, d, by go_num, by go_num, by omega, by omega, by omega, by omega, rfl, H.out, Sort.permIn_refl _ _ _, Lib.hid fun k => by rw [show m - (m - a) = a by omega, show m + (b - m) = b by omega]⟩
  case round =>
    obtain ⟨i, j, dk, rfl, rfl, hi0, hj0, him, hjb, hsk, HS, HP, HX⟩ := hrel
    by_cases hij : i = j
    · subst hij
      go_wp2_with (first | (go_at_call 197 ; rw [← hsk]; refine (swapRange_any (m - i) m i cap (by omega) rfl rfl HS.out (by omega) (by omega) (by omega)).mono ?_; rintro e w2 ⟨rfl, dl, hs, hp, hx⟩; have HS2 := Lib.hid hs; have HP2 := Lib.hid hp; have HX2 := Lib.hid hx; clear hs hp hx))
      go_end0
      exact ⟨rfl, dl, HS2.out, Sort.permIn_trans _ _ _ _ _ HP.out (Sort.permIn_mono _ _ _ _ _ _ (by omega) (by omega) (by omega) HP2.out), fun k => by rw [← HX.out]; exact rot_same (by omega) HX2.out k⟩
    · have e1 : ((i : Int) != (j : Int)) = true := by rw [bne_iff_ne]; omega
      by_cases hlt : j < i
      · have hltz : (j : Int) < (i : Int) := by omega
        go_wp2_with (first | (go_at_call 197 ; rw [← hsk]; refine (swapRange_any (m - i) m j cap (by omega) rfl rfl HS.out (by omega) (by omega) (by omega)).mono ?_; rintro e w2 ⟨rfl, dl, hs, hp, hx⟩; have HS2 := Lib.hid hs; have HP2 := Lib.hid hp; have HX2 := Lib.hid hx; clear hs hp hx))
        go_roundw
        case rel => exact ⟨i - j, j, dl, by go_num, rfl, by omega, hj0, by omega, hjb, HP2.out.1.trans hsk, HS2.out, Sort.permIn_trans _ _ _ _ _ HP.out (Sort.permIn_mono _ _ _ _ _ _ (by omega) (by omega) (by omega) HP2.out), Lib.hid fun k => by rw [← HX.out]; exact rot_left hlt (by omega) HX2.out k⟩
        case measure => simp [intOf] <;> omega
      · have hltz : ¬ (j : Int) < (i : Int) := by omega
        go_wp2_with (first | (go_at_call 197 ; rw [← hsk]; refine (swapRange_any (m - i) (m + j - i) i cap (by omega) (by omega) rfl HS.out (by omega) (by omega) (by omega)).mono ?_; rintro e w2 ⟨rfl, dl, hs, hp, hx⟩; have HS2 := Lib.hid hs; have HP2 := Lib.hid hp; have HX2 := Lib.hid hx; clear hs hp hx))
        go_roundw
        case rel => exact ⟨i, j - i, dl, rfl, by go_num, hi0, by omega, him, by omega, HP2.out.1.trans hsk, HS2.out, Sort.permIn_trans _ _ _ _ _ HP.out (Sort.permIn_mono _ _ _ _ _ _ (by omega) (by omega) (by omega) HP2.out), Lib.hid fun k => by rw [← HX.out]; exact rot_right (by omega) (by omega) HX2.out k⟩
        case measure => simp [intOf] <;> omega
end Go.Proofs.Ytppejoccljfblaa
