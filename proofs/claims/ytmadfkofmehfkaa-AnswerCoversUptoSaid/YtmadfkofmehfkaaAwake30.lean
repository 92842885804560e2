/-
  The law's example of chapter 30: answer.Show of one answer. No condition.
-/
import Derived.Test.YtmadfkofmehfkaaShowM
import Derived.Test.YtmadfkofmehfkaaAns
namespace Go.Proofs.Ytmadfkofmehfkaa
open Go.RowKit

def zA : Tm := .mk 1 ⟨#[90]⟩ 0 []
def iA : Tm := .mk 2 ⟨#[]⟩ 1 []
theorem zA_ok : zA.ok := by
  intro x hx
  obtain rfl : x = zA := by simpa [zA, Tm.all, Tm.alls] using hx
  unfold inI64; decide
theorem iA_ok : iA.ok := by
  intro x hx
  obtain rfl : x = iA := by simpa [iA, Tm.all, Tm.alls] using hx
  unfold inI64; decide
theorem zA_text : showM zA = ⟨#[90]⟩ := by decide +kernel
theorem iA_text : showM iA = ⟨#[49]⟩ := by decide +kernel
theorem zA_call (w : World) : Calls Try.prog 54 #[.agg #[.int .i64 1, .string ⟨#[90]⟩, .int .i64 0, .slice none 0 0]] w fun e w' => e = .returned (.string ⟨#[90]⟩) ∧ Below w.heap.size w w' := by
  have := showMt zA_ok (by decide) w none 0 0 (by show MemW w (.s 4 (Tm.rows [])) _; rw [Tm.rows]; exact .e _ _ _ (by decide))
  rwa [zA_text] at this
theorem iA_call (w : World) : Calls Try.prog 54 #[.agg #[.int .i64 2, .string ⟨#[]⟩, .int .i64 1, .slice none 0 0]] w fun e w' => e = .returned (.string ⟨#[49]⟩) ∧ Below w.heap.size w w' := by
  have := showMt iA_ok (by decide) w none 0 0 (by show MemW w (.s 4 (Tm.rows [])) _; rw [Tm.rows]; exact .e _ _ _ (by decide))
  rwa [iA_text] at this

def lineA : Nat → ByteArray
  | 0 => ⟨#[]⟩
  | _ + 1 => ⟨#[120, 32, 61, 32, 90, 44, 32]⟩
theorem line_one : ((⟨#[]⟩ : ByteArray) ++ (⟨#[120]⟩ ++ ⟨#[32, 61, 32]⟩ ++ ⟨#[90]⟩ ++ ⟨#[44, 32]⟩)) = lineA 1 := by kernel_rfl
theorem line_two : (lineA 1 ++ ⟨#[49]⟩ : ByteArray) = ⟨#[120, 32, 61, 32, 90, 44, 32, 49]⟩ := by kernel_rfl
set_option maxRecDepth 100000 in
set_option maxHeartbeats 20000000 in
theorem showA_any {qn qb : Nat} (w : World) (hn : w.cell? ⟨qn, 0, none⟩ = some (.string ⟨#[120]⟩)) (hb : Bo w qb 24 #[.int .i64 1, .string ⟨#[90]⟩, .int .i64 0, .slice none 0 0]) :
    Calls Try.prog 29 #[.slice (some ⟨qn, 0, none⟩) 1 1, .agg #[.slice (some ⟨qb, 0, none⟩) 1 1, .int .i64 2, .string ⟨#[]⟩, .int .i64 1, .slice none 0 0]] w fun e w' => e = .returned (.string ⟨#[120, 32, 61, 32, 90, 44, 32, 49]⟩) ∧ Below w.heap.size w w' := by
  have HN := Lib.hid hn
  have HB := Lib.hid hb
  have HW1 := Lib.hid (below_new w (.cells #[.slice (some ⟨qb, 0, none⟩) 1 1, .int .i64 2, .string ⟨#[]⟩, .int .i64 1, .slice none 0 0] 48))
  have HY1 := Lib.hid (Bo.new w 48 #[.slice (some ⟨qb, 0, none⟩) 1 1, .int .i64 2, .string ⟨#[]⟩, .int .i64 1, .slice none 0 0])
  have z0 : (w.alloc (.cells #[.slice (some ⟨qb, 0, none⟩) 1 1, .int .i64 2, .string ⟨#[]⟩, .int .i64 1, .slice none 0 0] 48)).cell? ⟨w.heap.size, 0, none⟩ = some (.slice (some ⟨qb, 0, none⟩) 1 1) := HY1.out.cell (j := 0) rfl
  clear hn hb
  go_enter Try.func29, Try.ntmps29
  go_wp2
  clear z0
  go_loopw [5, 6, 8, 12] (fun v5 _ _ i wr => ∃ k : Nat, k ≤ 1 ∧ i = .int .i64 k ∧ v5 = .string (lineA k) ∧ Hid (Below w.heap.size w wr) ∧ Hid (Bo wr w.heap.size 48 #[.slice (some ⟨qb, 0, none⟩) 1 1, .int .i64 2, .string ⟨#[]⟩, .int .i64 1, .slice none 0 0])) (fun _ _ _ i _ => 1 - (intOf i).toNat)
  case atStart => exact ⟨0, by decide, rfl, rfl, HW1, HY1⟩
  case round =>
    obtain ⟨k, hk, rfl, rfl, HBR, HYR⟩ := hrel
    have y0 := (HB.out.keep HBR.out).c4
    obtain ⟨y0, y1, y2, y3⟩ := y0
    have n0 := cell_below HN.out HBR.out
    have hqn := World.block_lt_of_cell? wr _ n0
    by_cases hk0 : k = 0
    · subst hk0
      have HBZ := Lib.hid (HBR.out.alloc HBR.out.size (.cells #[.int .i64 1, .string ⟨#[90]⟩, .int .i64 0, .slice none 0 0] 24))
      have HYZ := Lib.hid (HYR.out.alloc (.cells #[.int .i64 1, .string ⟨#[90]⟩, .int .i64 0, .slice none 0 0] 24))
      have n1 := cell_below n0 (below_new wr (.cells #[.int .i64 1, .string ⟨#[90]⟩, .int .i64 0, .slice none 0 0] 24))
      have L1 := Lib.hid line_one
      have hl0 : lineA 0 = ⟨#[]⟩ := rfl
      rw [hl0]
      go_wp2_with fail
      refine (zA_call _).mono ?_
      rintro e w4 ⟨rfl, hb⟩
      have HB4 := Lib.hid (HBZ.out.trans (hb.mono HBZ.out.size))
      have HY4 := Lib.hid (HYZ.out.keep hb)
      clear hb n1
      go_wp2_with fail
      go_roundw
      case rel => exact ⟨1, by decide, by go_num, congrArg Value.string L1.out, HB4, HY4⟩
      case measure => simp [intOf]
    · obtain rfl : k = 1 := by omega
      have z1 : wr.cell? ⟨w.heap.size, 1, none⟩ = some (.int .i64 2) := HYR.out.cell (j := 1) rfl
      have z2 : wr.cell? ⟨w.heap.size, 2, none⟩ = some (.string ⟨#[]⟩) := HYR.out.cell (j := 2) rfl
      have z3 : wr.cell? ⟨w.heap.size, 3, none⟩ = some (.int .i64 1) := HYR.out.cell (j := 3) rfl
      have z4 : wr.cell? ⟨w.heap.size, 4, none⟩ = some (.slice none 0 0) := HYR.out.cell (j := 4) rfl
      have hl1 : (lineA 1).size = 7 := rfl
      have L2 := Lib.hid line_two
      generalize lineA 1 = t1 at *
      go_wp2_with fail
      refine (iA_call _).mono ?_
      rintro e w4 ⟨rfl, hb⟩
      have HB4 := Lib.hid (HBR.out.trans (hb.mono HBR.out.size))
      clear hb
      go_wp2_with fail
      go_ret
      exact ⟨congrArg (fun t => Ending.returned (Value.string t)) L2.out, HB4.out⟩

set_option maxRecDepth 100000 in
set_option maxHeartbeats 20000000 in
theorem awake30_any (w : World) : Calls Try.prog 16 #[] w fun e w' => e = .returned (.bool true) ∧ Below w.heap.size w w' := by
  have HB0 := Lib.hid (below_new w (.cells #[.int .i64 1, .string ⟨#[90]⟩, .int .i64 0, .slice none 0 0] 24))
  have HX0 := Lib.hid (Bo.new w 24 #[.int .i64 1, .string ⟨#[90]⟩, .int .i64 0, .slice none 0 0])
  have HB1 := Lib.hid (HB0.out.alloc HB0.out.size (.cells #[.slice (some ⟨w.heap.size, 0, none⟩) 1 1, .int .i64 2, .string ⟨#[]⟩, .int .i64 1, .slice none 0 0] 48))
  have HX1 := Lib.hid (HX0.out.alloc (.cells #[.slice (some ⟨w.heap.size, 0, none⟩) 1 1, .int .i64 2, .string ⟨#[]⟩, .int .i64 1, .slice none 0 0] 48))
  have HB2 := Lib.hid (HB1.out.alloc HB1.out.size (.cells #[.string ⟨#[120]⟩] 9))
  have HX2 := Lib.hid (HX1.out.alloc (.cells #[.string ⟨#[120]⟩] 9))
  have HN2 : Hid ((((w.alloc (.cells #[.int .i64 1, .string ⟨#[90]⟩, .int .i64 0, .slice none 0 0] 24)).alloc (.cells #[.slice (some ⟨w.heap.size, 0, none⟩) 1 1, .int .i64 2, .string ⟨#[]⟩, .int .i64 1, .slice none 0 0] 48)).alloc (.cells #[.string ⟨#[120]⟩] 9)).cell? ⟨w.heap.size + 2, 0, none⟩ = some (.string ⟨#[120]⟩)) := Lib.hid (by
    have := (Bo.new ((w.alloc (.cells #[.int .i64 1, .string ⟨#[90]⟩, .int .i64 0, .slice none 0 0] 24)).alloc (.cells #[.slice (some ⟨w.heap.size, 0, none⟩) 1 1, .int .i64 2, .string ⟨#[]⟩, .int .i64 1, .slice none 0 0] 48)) 9 #[.string ⟨#[120]⟩]).cell (j := 0) (v := .string ⟨#[120]⟩) rfl
    rw [World.size_alloc, World.size_alloc] at this
    exact this)
  have HC := Lib.hid (showA_any _ HN2.out HX2.out)
  go_enter Try.func16, Try.ntmps16
  go_wp2_with fail
  refine HC.out.mono ?_
  rintro e w4 ⟨rfl, hb⟩
  have HB4 := Lib.hid (HB2.out.trans (hb.mono HB2.out.size))
  clear hb
  go_wp2_with fail
  go_ret
  exact ⟨rfl, HB4.out⟩
end Go.Proofs.Ytmadfkofmehfkaa
