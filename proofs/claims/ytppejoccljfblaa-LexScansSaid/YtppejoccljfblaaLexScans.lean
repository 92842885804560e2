/-
  The walk of the law LexScans: it answers true at every text. No condition but sizes.
-/
import Derived.Test.YtppejoccljfblaaAwake02
namespace Go.Proofs.Ytppejoccljfblaa
open Go.RowKit
attribute [local go_sem ↓] store_flt store_pos
attribute [local go_sem] stOk_flt stOk_pos stB_eq stC_eq wr_drew wr_alloc wr_row wr_drewN
set_option maxRecDepth 100000 in
set_option maxHeartbeats 2000000 in
theorem lexScans_any (s : ByteArray) (w : World) (hs : s.size ≤ maxLen) :
    Calls Try.prog 4 #[.string s] w fun e w' => e = .returned (.bool true) ∧ Below w.heap.size w w' := by
  unfold maxLen at hs
  by_cases h5 : 5000 < s.size
  · have e1 : decide ((5000 : Int) < (s.size : Int)) = true := by rw [decide_eq_true_eq]; omega
    go_enter Try.func4, Try.ntmps4
    go_wp2_with (go_at_call 20 ; refine (awake02_any _).mono ?_; rintro e w1 ⟨rfl, hb⟩; have HB1 := Lib.hid hb; clear hb)
    go_ret
    exact ⟨rfl, HB1.out⟩
  · have e1 : decide ((5000 : Int) < (s.size : Int)) = false := by rw [decide_eq_false_iff_not]; omega
    have hs1 : s.size ≤ 1000000 := by omega
    have HSC := Lib.hid (fun W => scan_any s W hs1)
    have HRC := Lib.hid (fun W => rscan_any s W hs1)
    generalize lexes s = L at HSC HRC
    obtain ⟨er, l, c, ts⟩ := L
    clear h5 hs hs1
    go_enter Try.func4, Try.ntmps4
    go_wp2_with (first
      | (go_at_call 20 ; refine (awake02_any _).mono ?_; rintro e w1 ⟨rfl, hb⟩; have HB1 := Lib.hid hb; clear hb)
      | (go_at_call 21
         refine (HSC.out _).mono ?_
         rintro e w2 ⟨a, n, cap, rfl, hb, hR⟩
         have HB2 : Hid (Below w.heap.size w (w2.alloc (.cells #[.int .i64 er, .int .i64 l, .int .i64 c] 38))) := Lib.hid ((HB1.out.trans (hb.mono HB1.out.size)).alloc (Nat.le_trans HB1.out.size hb.size) _)
         have HR2 := Lib.hid (hR.mono ((below_new w2 (.cells #[.int .i64 er, .int .i64 l, .int .i64 c] 38)).mono (Nat.le_refl _)))
         have HF2 : Hid (Bo (w2.alloc (.cells #[.int .i64 er, .int .i64 l, .int .i64 c] 38)) w2.heap.size 38 #[.int .i64 er, .int .i64 l, .int .i64 c]) := Lib.hid (Bo.new _ _ _)
         clear hb hR)
      | (go_at_call 22
         refine (HRC.out _).mono ?_
         rintro e w3 ⟨a', n', cap', rfl, hb, hR⟩
         have HB3 : Hid (Below w.heap.size w (w3.alloc (.cells #[.int .i64 l, .int .i64 c] 36))) := Lib.hid ((HB2.out.trans (hb.mono HB2.out.size)).alloc (Nat.le_trans HB2.out.size hb.size) _)
         have hz3 : w2.heap.size + 1 ≤ w3.heap.size := by have := hb.size; rw [World.size_alloc] at this; exact this
         have HR3 : Hid (Rd w3.heap.size (w3.alloc (.cells #[.int .i64 l, .int .i64 c] 36)) a' n' cap' 5 (tokVs ts)) := Lib.hid (hR.mono (below_new w3 _))
         have HR2' : Hid (Rd w3.heap.size (w3.alloc (.cells #[.int .i64 l, .int .i64 c] 36)) a n cap 5 (tokVs ts)) := Lib.hid (((HR2.out.mono (hb.mono (by rw [World.size_alloc]; omega))).le (by omega)).mono (below_new w3 _))
         obtain ⟨f0, f1, f2⟩ := ((HF2.out.keep hb).alloc (.cells #[.int .i64 l, .int .i64 c] 36)).t3
         clear hb hR)
      | (go_at_call 23
         refine (sameTokens_eq _ HR2'.out HR3.out (by rw [World.size_alloc]; omega) (by rw [World.size_alloc]; omega)).mono ?_
         rintro e w4 ⟨rfl, hb⟩
         have HB4 : Hid (Below w.heap.size w w4) := Lib.hid (HB3.out.trans (hb.mono HB3.out.size))
         clear hb))
    go_ret
    exact ⟨rfl, HB4.out⟩
end Go.Proofs.Ytppejoccljfblaa
