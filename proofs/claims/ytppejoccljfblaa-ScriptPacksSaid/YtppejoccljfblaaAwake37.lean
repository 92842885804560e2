/-
  whimbrellaw37.awake: it answers true. No condition.
-/
import Derived.Test.YtppejoccljfblaaTake
namespace Go.Proofs.Ytppejoccljfblaa
open Go.RowKit
attribute [local go_sem ↓] store_scr
attribute [local go_sem] stOk_scr stB_eq stC_eq wr_drew wr_alloc wr_row
attribute [local go_sem] toList_beq

set_option maxRecDepth 100000 in
set_option maxHeartbeats 2000000 in
theorem awake37_any (w : World) : Calls Try.prog 14 #[] w fun e w' => e = .returned (.bool true) ∧ Below w.heap.size w w' := by
  have HT := Lib.hid (take_any (a := none) (n := 0) (cap := 0) (l := []) 0 0 0 0 0 0 0 0 rfl rfl rfl rfl rfl rfl rfl rfl ⟨#[99, 111, 105, 110]⟩ rfl w ⟨rfl, Nat.le_refl _, by decide, .inl rfl⟩)
  have HLN := Lib.hid lines_any
  have HGN := Lib.hid goals_any
  generalize takeSrc = S at *
  generalize goalsV = GV at *
  generalize linesV = LV at *
  go_enter Try.func14, Try.ntmps14
  go_wp2_with (first
    | (go_at_call 15 ; refine HT.out.mono ?_; rintro e w2 ⟨rfl, hb⟩; have HB2 := Lib.hid hb; clear hb; obtain ⟨y0, y1, y2, y3, y4, y5⟩ := (Bo.new w2 27 #[.string S, .string ⟨#[99, 111, 105, 110]⟩, .int .i64 ((0 : Nat) : Int), .int .i64 (16 * ((0 : Nat) : Int)), .int .i64 (64 + 8 * ((0 : Nat) : Int)), .int .i64 ((0 : Nat) : Int)]).c6)
    | (go_at_call 17 ; refine (HLN.out _).mono ?_; rintro e w' ⟨rfl, rfl⟩)
    | (go_at_call 18 ; refine (HGN.out _).mono ?_; rintro e w' ⟨rfl, rfl⟩))
  go_ret
  exact ⟨rfl, ((HB2.out.alloc HB2.out.size _).alloc (by have := HB2.out.size; simp; omega) _).alloc (by have := HB2.out.size; simp; omega) _⟩
end Go.Proofs.Ytppejoccljfblaa
