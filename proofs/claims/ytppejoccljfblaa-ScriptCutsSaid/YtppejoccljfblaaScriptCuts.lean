/-
  The walk of the law ScriptCuts: it answers true at every input. No condition but how the bytes lie.
-/
import Derived.Test.YtppejoccljfblaaAppTwo
namespace Go.Proofs.Ytppejoccljfblaa
open Go.RowKit
attribute [local go_sem ↓] store_scr
attribute [local go_sem] stOk_scr stB_eq stC_eq wr_drew wr_alloc wr_row
attribute [local go_sem] toList_beq

set_option maxRecDepth 100000 in
set_option maxHeartbeats 2000000 in
theorem scriptCuts_far {a : Option Addr} {n cap : Nat} {l : List UInt8} (k : Int) (w : World) (h : Rd w.heap.size w a n cap 1 (u8s l)) (hk : 20 < n ∨ k < 0 ∨ 10 < k) :
    Calls Try.prog 3 #[.slice a n cap, .int .i64 k] w fun e w' => e = .returned (.bool true) ∧ Below w.heap.size w w' := by
  have hcap := h.2.1
  have hcm := h.2.2.1
  clear h
  by_cases h20 : 20 < n
  · have e1 : decide ((20 : Int) < (n : Int)) = true := by rw [decide_eq_true_eq]; omega
    clear hk
    go_enter Try.func3, Try.ntmps3
    go_wp2_with (first | (go_at_call 14 ; refine (awake37_any _).mono ?_; rintro e w1 ⟨rfl, hb⟩; have HB1 := Lib.hid hb; clear hb))
    go_ret
    exact ⟨rfl, HB1.out⟩
  · have e1 : decide ((20 : Int) < (n : Int)) = false := by rw [decide_eq_false_iff_not]; omega
    by_cases hk0 : k < 0
    · have e2 : decide (k < 0) = true := by rw [decide_eq_true_eq]; exact hk0
      clear hk
      go_enter Try.func3, Try.ntmps3
      go_wp2_with (first | (go_at_call 14 ; refine (awake37_any _).mono ?_; rintro e w1 ⟨rfl, hb⟩; have HB1 := Lib.hid hb; clear hb))
      go_ret
      exact ⟨rfl, HB1.out⟩
    · have e2 : decide (k < 0) = false := by rw [decide_eq_false_iff_not]; exact hk0
      have hk1 : 10 < k := by omega
      have e3 : decide (10 < k) = true := by rw [decide_eq_true_eq]; exact hk1
      clear hk
      go_enter Try.func3, Try.ntmps3
      go_wp2_with (first | (go_at_call 14 ; refine (awake37_any _).mono ?_; rintro e w1 ⟨rfl, hb⟩; have HB1 := Lib.hid hb; clear hb))
      go_ret
      exact ⟨rfl, HB1.out⟩
theorem min_nat (n : Nat) : min n 12 = (min (n : Int) 12).toNat := by
  rcases Nat.le_total n 12 with h | h
  · rw [Nat.min_eq_left h, Int.min_eq_left (by omega)]; rfl
  · rw [Nat.min_eq_right h, Int.min_eq_right (by omega)]; rfl
set_option maxRecDepth 100000 in
set_option maxHeartbeats 2000000 in
theorem scriptCuts_main {a : Option Addr} {n cap : Nat} {l : List UInt8} (k : Nat) (w : World) (h : Rd w.heap.size w a n cap 1 (u8s l)) (hn : n ≤ 20) (hk : k ≤ 10) :
    Calls Try.prog 3 #[.slice a n cap, .int .i64 k] w fun e w' => e = .returned (.bool true) ∧ Below w.heap.size w w' := by
  have hcap := h.2.1
  have hcm := h.2.2.1
  have hl := h.u8Len
  have i1 : decide ((20 : Int) < (n : Int)) = false := by rw [decide_eq_false_iff_not]; omega
  have i2 : decide ((k : Int) < 0) = false := by rw [decide_eq_false_iff_not]; omega
  have i3 : decide ((10 : Int) < (k : Int)) = false := by rw [decide_eq_false_iff_not]; omega
  obtain ⟨g0, r1, x2, x3, r4, ht1, ht2⟩ := take_two (a := a) (n := n) (cap := cap) (l := l) k
  obtain ⟨z0, z1, z2, z3, hraw⟩ := raw_cut (a := a) (n := n) (cap := cap) (l := l) hn
  have HT1 := Lib.hid ht1
  have HT2 := Lib.hid ht2
  have HRAW := Lib.hid hraw
  have HR := Lib.hid h
  have HN := Lib.hid hn
  have HK := Lib.hid hk
  have HL := Lib.hid hl
  have HLN := Lib.hid lines_any
  have HGN := Lib.hid goals_any
  clear ht1 ht2 hraw h hn hk hl
  have hm0 := min_nat n
  have HM := Lib.hid hm0
  have HL0 := Lib.hid (show linesV[0]? = some (.string ⟨#[100, 97, 116, 97, 32, 78, 32, 61, 32, 90, 32, 124, 32, 83, 32, 78]⟩) from rfl)
  have HL8 := Lib.hid (show linesV[8]? = some (.string ⟨#[97, 112, 112, 32, 40, 67, 111, 110, 115, 32, 120, 32, 120, 115, 41, 32, 121, 115, 32, 61, 32, 67, 111, 110, 115, 32, 120, 32, 40, 97, 112, 112, 32, 120, 115, 32, 121, 115, 41]⟩) from rfl)
  have HL18 := Lib.hid (show linesV[18]? = some (.string ⟨#[112, 105, 99, 107, 32, 95, 32, 121, 32, 61, 32, 121]⟩) from rfl)
  have HG19 := Lib.hid (show goalsV[19]? = some (.string ⟨#[50, 49, 52, 55, 52, 56, 51, 54, 52, 55, 32, 43, 32, 49]⟩) from rfl)
  have HIN : Hid (∀ W : World, Calls Try.prog 19 #[.slice (some ⟨W.heap.size, 0, none⟩) 20 20, .string ⟨#[108, 111, 111, 112]⟩] (W.alloc (.cells goalsV 9)) fun e w' => e = .returned (.bool true) ∧ W.alloc (.cells goalsV 9) = w') := Lib.hid fun W => (in_str ⟨#[108, 111, 111, 112]⟩ _ (goals_rd W)).mono fun e w' ⟨he, hw⟩ => ⟨he.trans (by congr 2), hw⟩
  clear hm0
  generalize takeSrc = S at *
  generalize goalsV = GV at *
  generalize linesV = LV at *
  have tok1 : True := trivial
  have tok2 : True := trivial
  go_enter Try.func3, Try.ntmps3
  go_wp2_with (first
    | (go_at_call 14 ; refine (awake37_any _).mono ?_; rintro e w1 ⟨rfl, hb⟩; have HB1 := Lib.hid hb; clear hb)
    | (go_at_call 15
       have _t := tok1
       refine (HT1.out _ ((HR.out.mono HB1.out).le HB1.out.size)).mono ?_
       rintro e w2 ⟨rfl, hb⟩
       have HB2 := Lib.hid (HB1.out.trans (hb.mono HB1.out.size))
       have HB3 : Hid (Below w.heap.size w (w2.alloc (.cells #[.string S, .string g0, .int .i64 r1, .int .i64 (16 * (x2 : Int)), .int .i64 (64 + 8 * (x3 : Int)), .int .i64 r4] 27))) := Lib.hid (HB2.out.alloc HB2.out.size _)
       clear hb tok1 _t)
    | (at_builtin
       have _t := tok2
       obtain ⟨v, W1, hr1, hb, hf⟩ := app_first (W := w2.alloc (.cells #[.string S, .string g0, .int .i64 r1, .int .i64 (16 * (x2 : Int)), .int .i64 (64 + 8 * (x3 : Int)), .int .i64 r4] 27)) 22 (HR.out.mono HB3.out) HN.out
       obtain ⟨a2, n2, c2, W2, hr2, hR2, hb2⟩ := app_second (k := k) 22 hf (by rw [HL.out]; exact HN.out) HK.out hb.size
       have HR1 := Lib.hid hr1
       have HR2 := Lib.hid hr2
       have HRW := Lib.hid hR2
       have HBW := Lib.hid (hb.trans hb2)
       clear hr1 hr2 hb hf hR2 hb2
       refine wpList_app rfl _ _ rfl rfl rfl HR1.out ?_
       clear tok2 _t)
    | (at_builtin
       refine wpList_app rfl _ _ rfl rfl rfl HR2.out ?_)
    | (go_at_call 15
       refine (HT2.out _ _ _ _ HRW.out).mono ?_
       rintro e w4 ⟨rfl, hb⟩
       have HB4 := Lib.hid (HBW.out.trans (hb.mono HBW.out.size))
       have hs4 : w2.heap.size + 1 ≤ w4.heap.size := by have := HB4.out.size; rw [World.size_alloc] at this; exact this
       have HX2 : Hid (Bo (w4.alloc (.cells #[.string S, .string g0, .int .i64 r1, .int .i64 (16 * (x2 : Int)), .int .i64 (64 + 8 * (x3 : Int)), .int .i64 r4] 27)) w2.heap.size 27 #[.string S, .string g0, .int .i64 r1, .int .i64 (16 * (x2 : Int)), .int .i64 (64 + 8 * (x3 : Int)), .int .i64 r4]) := Lib.hid (((Bo.new w2 27 #[.string S, .string g0, .int .i64 r1, .int .i64 (16 * (x2 : Int)), .int .i64 (64 + 8 * (x3 : Int)), .int .i64 r4]).keep HB4.out).alloc (.cells #[.string S, .string g0, .int .i64 r1, .int .i64 (16 * (x2 : Int)), .int .i64 (64 + 8 * (x3 : Int)), .int .i64 r4] 27))
       have HX4 : Hid (Bo (w4.alloc (.cells #[.string S, .string g0, .int .i64 r1, .int .i64 (16 * (x2 : Int)), .int .i64 (64 + 8 * (x3 : Int)), .int .i64 r4] 27)) w4.heap.size 27 #[.string S, .string g0, .int .i64 r1, .int .i64 (16 * (x2 : Int)), .int .i64 (64 + 8 * (x3 : Int)), .int .i64 r4]) := Lib.hid (Bo.new w4 27 #[.string S, .string g0, .int .i64 r1, .int .i64 (16 * (x2 : Int)), .int .i64 (64 + 8 * (x3 : Int)), .int .i64 r4])
       have HB5 : Hid (Below w.heap.size w (w4.alloc (.cells #[.string S, .string g0, .int .i64 r1, .int .i64 (16 * (x2 : Int)), .int .i64 (64 + 8 * (x3 : Int)), .int .i64 r4] 27))) := Lib.hid ((HB3.out.trans (HB4.out.mono HB3.out.size)).alloc (Nat.le_trans HB3.out.size HB4.out.size) (.cells #[.string S, .string g0, .int .i64 r1, .int .i64 (16 * (x2 : Int)), .int .i64 (64 + 8 * (x3 : Int)), .int .i64 r4] 27))
       clear hb)
    | (go_at_call 16
       refine (HRAW.out _ _ ((HR.out.mono HB5.out).le HB5.out.size) HM.out).mono ?_
       rintro e w5 ⟨rfl, hb⟩
       have hs5 : w4.heap.size + 1 ≤ w5.heap.size := by have := hb.size; rw [World.size_alloc] at this; exact this
       have HZ := Lib.hid (Bo.new w5 27 #[.string ⟨#[]⟩, .string ⟨#[]⟩, .int .i64 z0, .int .i64 z1, .int .i64 z2, .int .i64 z3])
       have HX2' := Lib.hid ((HX2.out.keep hb).alloc (.cells #[.string ⟨#[]⟩, .string ⟨#[]⟩, .int .i64 z0, .int .i64 z1, .int .i64 z2, .int .i64 z3] 27))
       have HX4' := Lib.hid ((HX4.out.keep hb).alloc (.cells #[.string ⟨#[]⟩, .string ⟨#[]⟩, .int .i64 z0, .int .i64 z1, .int .i64 z2, .int .i64 z3] 27))
       have HB6 : Hid (Below w.heap.size w (w5.alloc (.cells #[.string ⟨#[]⟩, .string ⟨#[]⟩, .int .i64 z0, .int .i64 z1, .int .i64 z2, .int .i64 z3] 27))) := Lib.hid ((HB5.out.trans (hb.mono HB5.out.size)).alloc (Nat.le_trans HB5.out.size hb.size) (.cells #[.string ⟨#[]⟩, .string ⟨#[]⟩, .int .i64 z0, .int .i64 z1, .int .i64 z2, .int .i64 z3] 27))
       clear hb)
    | (go_at_call 17
       refine (HLN.out _).mono ?_
       rintro e w' ⟨rfl, rfl⟩
       have b8 := Bo.new (w5.alloc (.cells #[.string ⟨#[]⟩, .string ⟨#[]⟩, .int .i64 z0, .int .i64 z1, .int .i64 z2, .int .i64 z3] 27)) 9 LV
       have cl0 := Bo.cell (b8.alloc (.cells GV 9)) HL0.out
       have cl8 := Bo.cell (b8.alloc (.cells GV 9)) HL8.out
       have cl18 := Bo.cell (b8.alloc (.cells GV 9)) HL18.out
       obtain ⟨u0, u1, u2, u3, u4, u5⟩ := ((HX2'.out.alloc (.cells LV 9)).alloc (.cells GV 9)).c6
       obtain ⟨v0, v1, v2, v3, v4, v5⟩ := ((HX4'.out.alloc (.cells LV 9)).alloc (.cells GV 9)).c6
       obtain ⟨q0, q1, q2, q3, q4, q5⟩ := ((HZ.out.alloc (.cells LV 9)).alloc (.cells GV 9)).c6
       have cg := Bo.cell (Bo.new (((w5.alloc (.cells #[.string ⟨#[]⟩, .string ⟨#[]⟩, .int .i64 z0, .int .i64 z1, .int .i64 z2, .int .i64 z3] 27)).alloc (.cells LV 9)).alloc (.cells GV 9)) 9 GV) HG19.out
       have hin := HIN.out ((((w5.alloc (.cells #[.string ⟨#[]⟩, .string ⟨#[]⟩, .int .i64 z0, .int .i64 z1, .int .i64 z2, .int .i64 z3] 27)).alloc (.cells LV 9)).alloc (.cells GV 9)).alloc (.cells GV 9))
       simp only [World.size_alloc] at cl0 cl8 cl18 cg hin
       have HI := Lib.hid hin
       clear b8 hin)
    | (go_at_call 18 ; refine (HGN.out _).mono ?_; rintro e w' ⟨rfl, rfl⟩)
    | (go_at_call 19 ; refine HI.out.mono ?_; rintro e w' ⟨rfl, rfl⟩))
  go_ret
  exact ⟨rfl, (((HB6.out.alloc HB6.out.size _).alloc (by have := HB6.out.size; simp only [World.size_alloc] at *; omega) _).alloc (by have := HB6.out.size; simp only [World.size_alloc] at *; omega) _).alloc (by have := HB6.out.size; simp only [World.size_alloc] at *; omega) _⟩
theorem scriptCuts_any {a : Option Addr} {n cap : Nat} {l : List UInt8} (k : Int) (w : World) (h : Rd w.heap.size w a n cap 1 (u8s l)) :
    Calls Try.prog 3 #[.slice a n cap, .int .i64 k] w fun e w' => e = .returned (.bool true) ∧ Below w.heap.size w w' := by
  by_cases hk : 20 < n ∨ k < 0 ∨ 10 < k
  · exact scriptCuts_far k w h hk
  · obtain ⟨m, rfl⟩ : ∃ m : Nat, k = (m : Int) := ⟨k.toNat, by omega⟩
    exact scriptCuts_main m w h (by omega) (by omega)
end Go.Proofs.Ytppejoccljfblaa
