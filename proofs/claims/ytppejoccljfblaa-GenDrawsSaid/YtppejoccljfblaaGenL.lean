/-
  The law's own test of a recipe, and its example, walked. No condition.
-/
import Derived.Test.YtppejoccljfblaaGenP
namespace Go.Proofs.Ytppejoccljfblaa
open Go.RowKit

set_option maxRecDepth 100000 in
set_option maxHeartbeats 2000000 in
theorem lmay_any (f r d s : Int) (w : World) :
    Calls Try.prog 28 #[.agg #[.int .i64 f, .int .i64 r, .int .i64 d, .int .u64 s]] w fun e w' => e = .returned (.bool (mayB f r d)) ∧ Below w.heap.size w w' := by
  have HB0 := Lib.hid (below_new w (.cells #[.int .i64 f, .int .i64 r, .int .i64 d, .int .u64 s] 55))
  have HX0 := Lib.hid (Bo.new w 55 #[.int .i64 f, .int .i64 r, .int .i64 d, .int .u64 s])
  obtain ⟨x0, x1, x2, x3⟩ := HX0.out.c4
  by_cases ha : 1 ≤ f
  case neg =>
    have HM : Hid (mayB f r d = false) := Lib.hid (by simp [mayB, ha])
    go_enter Try.func28, Try.ntmps28
    go_wp2
    go_ret
    exact ⟨by rw [HM.out]; rfl, HB0.out⟩
  by_cases hb : f ≤ 8
  case neg =>
    have HM : Hid (mayB f r d = false) := Lib.hid (by simp [mayB, ha, hb])
    go_enter Try.func28, Try.ntmps28
    go_wp2
    go_ret
    exact ⟨by rw [HM.out]; rfl, HB0.out⟩
  by_cases hc : 1 ≤ r
  case neg =>
    have HM : Hid (mayB f r d = false) := Lib.hid (by simp [mayB, ha, hb, hc])
    go_enter Try.func28, Try.ntmps28
    go_wp2
    go_ret
    exact ⟨by rw [HM.out]; rfl, HB0.out⟩
  by_cases he : r ≤ 4
  case neg =>
    have HM : Hid (mayB f r d = false) := Lib.hid (by simp [mayB, ha, hb, hc, he])
    go_enter Try.func28, Try.ntmps28
    go_wp2
    go_ret
    exact ⟨by rw [HM.out]; rfl, HB0.out⟩
  by_cases hg : 0 ≤ d
  case neg =>
    have HM : Hid (mayB f r d = false) := Lib.hid (by simp [mayB, ha, hb, hc, he, hg])
    go_enter Try.func28, Try.ntmps28
    go_wp2
    go_ret
    exact ⟨by rw [HM.out]; rfl, HB0.out⟩
  by_cases hh : d ≤ 4
  case neg =>
    have HM : Hid (mayB f r d = false) := Lib.hid (by simp [mayB, ha, hb, hc, he, hg, hh])
    go_enter Try.func28, Try.ntmps28
    go_wp2
    go_ret
    exact ⟨by rw [HM.out]; rfl, HB0.out⟩
  have HM : Hid (mayB f r d = true) := Lib.hid (by simp [mayB, ha, hb, hc, he, hg, hh])
  go_enter Try.func28, Try.ntmps28
  go_wp2
  go_ret
  exact ⟨by rw [HM.out]; rfl, HB0.out⟩

theorem progQ_awake : 18 < (progQ 1 1 0 0).size := by
  unfold progQ
  simp only [funsQ, rowsQ, ByteArray.size_append, ruleQ]
  show 18 < 17 + (_ + 3 + _ + 1)
  omega
theorem name_three : nameS 3 = ⟨#[102, 51]⟩ := by kernel_rfl
theorem may_one : mayB 1 1 0 = true := by decide
theorem nxt_same : nxt 1 = nxt 0 := rfl
theorem prog_one (w : World) :
    Calls Try.prog 32 #[.agg #[.int .i64 1, .int .i64 1, .int .i64 0, .int .u64 0]] w fun e w' => e = .returned (.string (progQ 1 1 0 0)) ∧ Below w.heap.size w w' :=
  program_any (f := 1) (r := 1) (d := 0) (s := 0) w (by decide) (by decide) (by decide) (by decide) may_one
set_option maxRecDepth 100000 in
set_option maxHeartbeats 2000000 in
theorem awake40_any (w : World) :
    Calls Try.prog 26 #[] w fun e w' => e = .returned (.bool true) ∧ Below w.heap.size w w' := by
  have hs := progQ_awake
  have HP := Lib.hid fun w => prog_one w
  generalize progQ 1 1 0 0 = t at hs HP
  have hz : (18 : Int) < (t.size : Int) := by omega
  go_enter Try.func26, Try.ntmps26
  go_wp2_with fail
  refine (gname_any (k := 3) (by decide) _).mono ?_
  rintro e w2 ⟨rfl, hb2⟩
  rw [name_three]
  have HB2 := Lib.hid hb2
  clear hb2
  go_wp2_with fail
  refine (next_any _ _).mono ?_
  rintro e w3 ⟨rfl, rfl⟩
  go_wp2_with fail
  refine (next_any _ _).mono ?_
  rintro e w3 ⟨rfl, rfl⟩
  rw [nxt_same]
  go_wp2_with fail
  refine (HP.out _).mono ?_
  rintro e w4 ⟨rfl, hb4⟩
  have HB4 := Lib.hid (HB2.out.trans (hb4.mono HB2.out.size))
  clear hb4
  go_wp2_with fail
  go_ret
  exact ⟨rfl, HB4.out⟩
end Go.Proofs.Ytppejoccljfblaa
