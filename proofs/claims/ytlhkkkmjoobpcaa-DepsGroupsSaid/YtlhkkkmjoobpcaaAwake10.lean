/-
  The law's example of chapter 10: deps.Groups of a graph of three. No condition.
-/
import Derived.Test.YtlhkkkmjoobpcaaGroups
import Derived.Test.YtlhkkkmjoobpcaaIntsEq
namespace Go.Proofs.Ytlhkkkmjoobpcaa
open Go.RowKit

theorem Bo.one {w : World} {q n : Nat} {t : TypeId} {xs : List At} {cs : Array Value} (h : Bo w q t cs) (hm : All2 (Mem (· < w.heap.size) w) xs cs.toList) (hn : xs.length = n) (hN : n ≤ 9223372036854775807) : MemW w (.s 1 (xs.map fun x => [x])) (.slice (some ⟨q, 0, none⟩) n n) := by
  have hl := hm.len
  refine .s q 0 n n 1 _ (fun i _ => cs[i]?.getD undef) (by rw [List.length_map]; exact hn) (Nat.le_refl _) hN (Bo.lt h) (fun i hi => by simp) (fun i j hi hj => ?_) (fun i j hi hj => ?_)
  · obtain rfl : j = 0 := by omega
    rw [Nat.zero_add, Nat.mul_one, Nat.add_zero]
    refine Bo.cell h ?_
    have hi' : i < cs.size := by rw [← Array.length_toList]; omega
    rw [Array.getElem?_eq_getElem hi']; rfl
  · have hi' : i < xs.length := by rw [List.length_map] at hi; exact hi
    have e : (xs.map fun x => [x])[i] = [xs[i]] := by simp
    have hj' : j < ((xs.map fun x => [x])[i]).length := hj
    rw [e] at hj'
    obtain rfl : j = 0 := by simpa using hj'
    have hi2 : i < cs.toList.length := by omega
    have e2 : cs[i]?.getD undef = cs.toList[i] := by
      rw [Array.length_toList] at hi2
      rw [Array.getElem?_eq_getElem hi2]; simp
    simp only [e, List.getElem_cons_zero, e2]
    exact hm.at i hi' hi2
theorem Bo.ints {w : World} {q n : Nat} {t : TypeId} {l : List Int} {cs : Array Value} (h : Bo w q t cs) (hc : cs.toList = l.map fun x => Value.int .i64 x) (hn : l.length = n) (hN : n ≤ 9223372036854775807) : MemW w (.s 1 (intRows l)) (.slice (some ⟨q, 0, none⟩) n n) := by
  have e : intRows l = (l.map fun x => At.v (.int .i64 x)).map fun x => [x] := by simp [intRows]
  rw [e]
  refine Bo.one h ?_ (by rw [List.length_map]; exact hn) hN
  rw [hc]
  clear hc e hn
  induction l with
  | nil => exact .nil
  | cons x l ih => exact .cons (.v _ rfl) ih
def exG : List (List Int) := [[1], [0], [0]]
theorem exG_groups : (groupsS exG 3).2 = [[0, 1], [2]] := by decide +kernel
theorem exG_run : RunG exG (List.replicate 3 false) (groupsS exG 3).2 [] [[0, 1], [2]] := by
  rw [exG_groups]
  exact .step (g := [0, 1]) (by decide +kernel) (by decide +kernel) (.step (g := [2]) (by decide +kernel) (by decide +kernel) (.done _ _))
theorem exG_world (w : World) : ∃ w4, w4 = ((((w.alloc (.cells #[.int .i64 1] 3)).alloc (.cells #[.int .i64 0] 3)).alloc (.cells #[.int .i64 0] 3)).alloc (.cells #[.slice (some ⟨w.heap.size, 0, none⟩) 1 1, .slice (some ⟨w.heap.size + 1, 0, none⟩) 1 1, .slice (some ⟨w.heap.size + 1 + 1, 0, none⟩) 1 1] 27)) ∧ MemW w4 (.s 1 (grRows exG)) (.slice (some ⟨w.heap.size + 1 + 1 + 1, 0, none⟩) 3 3) ∧ Below w.heap.size w w4 := by
  refine ⟨_, rfl, ?_, ?_⟩
  · have b1 := (((Bo.new w 3 #[.int .i64 1]).alloc (.cells #[.int .i64 0] 3)).alloc (.cells #[.int .i64 0] 3)).alloc (.cells #[.slice (some ⟨w.heap.size, 0, none⟩) 1 1, .slice (some ⟨w.heap.size + 1, 0, none⟩) 1 1, .slice (some ⟨w.heap.size + 1 + 1, 0, none⟩) 1 1] 27)
    have b2 := ((Bo.new (w.alloc (.cells #[.int .i64 1] 3)) 3 #[.int .i64 0]).alloc (.cells #[.int .i64 0] 3)).alloc (.cells #[.slice (some ⟨w.heap.size, 0, none⟩) 1 1, .slice (some ⟨w.heap.size + 1, 0, none⟩) 1 1, .slice (some ⟨w.heap.size + 1 + 1, 0, none⟩) 1 1] 27)
    have b3 := (Bo.new ((w.alloc (.cells #[.int .i64 1] 3)).alloc (.cells #[.int .i64 0] 3)) 3 #[.int .i64 0]).alloc (.cells #[.slice (some ⟨w.heap.size, 0, none⟩) 1 1, .slice (some ⟨w.heap.size + 1, 0, none⟩) 1 1, .slice (some ⟨w.heap.size + 1 + 1, 0, none⟩) 1 1] 27)
    have b4 := Bo.new (((w.alloc (.cells #[.int .i64 1] 3)).alloc (.cells #[.int .i64 0] 3)).alloc (.cells #[.int .i64 0] 3)) 27 #[.slice (some ⟨w.heap.size, 0, none⟩) 1 1, .slice (some ⟨w.heap.size + 1, 0, none⟩) 1 1, .slice (some ⟨w.heap.size + 1 + 1, 0, none⟩) 1 1]
    simp only [World.size_alloc] at b2 b3 b4
    have m1 := Bo.ints (l := [1]) (n := 1) b1 rfl rfl (by decide)
    have m2 := Bo.ints (l := [0]) (n := 1) b2 rfl rfl (by decide)
    have m3 := Bo.ints (l := [0]) (n := 1) b3 rfl rfl (by decide)
    exact Bo.one (xs := [.s 1 (intRows [1]), .s 1 (intRows [0]), .s 1 (intRows [0])]) b4 (.cons m1 (.cons m2 (.cons m3 .nil))) rfl (by decide)
  · exact (((below_new w _).alloc (by rw [World.size_alloc]; omega) _).alloc (by simp only [World.size_alloc]; omega) _).alloc (by simp only [World.size_alloc]; omega) _
set_option maxRecDepth 100000 in
set_option maxHeartbeats 20000000 in
theorem awake_any (w : World) : Calls Try.prog 5 #[] w fun e w' => e = .returned (.bool true) ∧ Below w.heap.size w w' := by
  have HRUN := Lib.hid exG_run
  obtain ⟨w4, h4, hm4, hb4⟩ := exG_world w
  have HM4 := Lib.hid hm4
  have HB4 := Lib.hid hb4
  clear hm4 hb4
  go_enter Try.func5, Try.ntmps5
  go_wp2_with fail
  rw [← h4]
  clear h4
  refine (Groups_any w4 HM4.out (by decide) (by decide) HRUN.out).mono ?_
  rintro e w5 ⟨y, rfl, hm5, hb5⟩
  have HB5 := Lib.hid (HB4.out.trans (hb5.mono HB4.out.size))
  obtain ⟨a5, n5, c5, rfl, hm5'⟩ : ∃ a5 n5 c5, y = .slice a5 n5 c5 ∧ MemW w5 (.s 1 (grRows [[0, 1], [2]])) (.slice a5 n5 c5) := by
    obtain ⟨a5, n5, c5, e, _⟩ := hm5.parts
    exact ⟨a5, n5, c5, e, e ▸ hm5⟩
  have hl5 := gr_len hm5'
  obtain rfl : 2 = n5 := hl5.1
  obtain ⟨b, o, g0, a0, n0, c0, rfl, hbB, Hg0, x0, G0⟩ := gr_at hm5' 0 (by decide)
  obtain ⟨b', o', g1, a1, n1, c1, e1, hbB1, Hg1, x1, G1⟩ := gr_at hm5' 1 (by decide)
  cases e1
  have hg0 : [0, 1] = g0 := Option.some.inj Hg0.out
  have hg1 : [2] = g1 := Option.some.inj Hg1.out
  subst hg0 hg1
  clear hm5 hm5' hb5 hl5
  rw [Nat.add_zero] at x0
  go_wp2_with fail
  refine (intsEq_any (l := [0, 1]) (m := [0, 1]) _ (MemW.keep G0.out (below_new w5 _)) (Bo.ints (l := [0, 1]) (Bo.new w5 3 #[.int .i64 0, .int .i64 1]) rfl rfl (by decide))).mono ?_
  rintro e w6 ⟨rfl, hb6⟩
  have HB6 := Lib.hid ((below_new w5 (.cells #[.int .i64 0, .int .i64 1] 3)).trans (hb6.mono (by rw [World.size_alloc]; omega)))
  have x1' := cell_below x1 HB6.out
  have hd1 : decide (([0, 1] : List Int) = [0, 1]) = true := by decide
  rw [hd1]
  clear hb6 hd1 x0 x1
  have hq6 := World.block_lt_of_cell? w6 _ x1'
  go_wp2_with fail
  refine (intsEq_any (l := [2]) (m := [2]) _ (MemW.keep (MemW.keep G1.out HB6.out) (below_new w6 _)) (Bo.ints (l := [2]) (Bo.new w6 3 #[.int .i64 2]) rfl rfl (by decide))).mono ?_
  rintro e w7 ⟨rfl, hb7⟩
  have HB7 := Lib.hid ((below_new w6 (.cells #[.int .i64 2] 3)).trans (hb7.mono (by rw [World.size_alloc]; omega)))
  have hd1 : decide (([2] : List Int) = [2]) = true := by decide
  rw [hd1]
  clear hb7 hd1
  go_wp2_with fail
  go_ret
  have h6 : Below w.heap.size w w6 := HB5.out.trans (HB6.out.mono HB5.out.size)
  exact ⟨rfl, h6.trans (HB7.out.mono h6.size)⟩
end Go.Proofs.Ytlhkkkmjoobpcaa
