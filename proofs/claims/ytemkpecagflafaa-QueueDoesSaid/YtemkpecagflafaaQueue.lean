/-
  The walks of the package queue: a ring in memory. No condition but sizes.
-/
import Derived.Test.YtemkpecagflafaaBase2
import Derived.Deep.QuietTactic
import Derived.BigQuiet
import Derived.RegionTactic
import Derived.Deep.RegionWith
import Derived.ChangeAlike
import Derived.Deep.RegionHeld3
import Derived.Maps.AppendAt
import Derived.Test.YtemkpecagflafaaFar
namespace Go.Proofs.Ytemkpecagflafaa
open Go.RowKit

set_option maxHeartbeats 400000 in
theorem qAt_any (qb m cap f : Nat) (a : Option Addr) (i : Int) (w : World) (c0 : w.cell? ⟨qb, 0, none⟩ = some (.slice a m cap)) (c1 : w.cell? ⟨qb, 1, none⟩ = some (.int .i64 f)) (hm : 0 < m) (hm' : m ≤ 100000) (hf : f ≤ 100000) (hi : 0 ≤ i) (hi' : i ≤ 100000) :
    Calls Try.prog 81 #[.pointer (some ⟨qb, 0, none⟩), .int .i64 i] w fun e w' => e = .returned (.int .i64 (((f : Int) + i) % m)) ∧ ∃ n, w' = w.drewN n := by
  go_enter Try.func81, Try.ntmps81
  go_wp2
  go_quiet (fail)
  go_wp2
  go_ret
  exact ⟨rfl, _, rfl⟩

theorem qAt_is (qb m cap f r : Nat) (a : Option Addr) (i : Int) (w : World) (c0 : w.cell? ⟨qb, 0, none⟩ = some (.slice a m cap)) (c1 : w.cell? ⟨qb, 1, none⟩ = some (.int .i64 f)) (hm : 0 < m) (hm' : m ≤ 100000) (hf : f ≤ 100000) (hi : 0 ≤ i) (hi' : i ≤ 100000) (hr : ((f : Int) + i) % m = r) :
    Calls Try.prog 81 #[.pointer (some ⟨qb, 0, none⟩), .int .i64 i] w fun e w' => e = .returned (.int .i64 r) ∧ ∃ n, w' = w.drewN n :=
  (qAt_any qb m cap f a i w c0 c1 hm hm' hf hi hi').mono fun _ _ ⟨he, hw⟩ => ⟨by rw [he, hr], hw⟩

theorem qLen_any (qb n : Nat) (w : World) (c2 : w.cell? ⟨qb, 2, none⟩ = some (.int .i64 n)) :
    Calls Try.prog 23 #[.pointer (some ⟨qb, 0, none⟩)] w fun e w' => e = .returned (.int .i64 n) ∧ w = w' := by
  go_enter Try.func23, Try.ntmps23
  go_wp2
  go_ret
  exact ⟨rfl, rfl⟩
theorem qLen_nil (w : World) :
    Calls Try.prog 23 #[.pointer none] w fun e w' => e = .returned (.int .i64 0) ∧ w = w' := by
  go_enter Try.func23, Try.ntmps23
  go_wp2
  go_ret
  exact ⟨rfl, rfl⟩

theorem info_int : (Try.prog.info? 3).map (fun i => (i.zero, i.size, i.bytes)) = some (some (.int .i64 0), 1, 8) := by kernel_rfl
/-- 'make([]int, k)'. -/
theorem make_ints (k : Nat) (hk : k ≤ 1000000) (u : World) : (Instr.makeSlice 22 (.int .i64 (k : Int)) (.int .i64 (k : Int))).run Try.prog u =
    .ok (.slice (some ⟨u.heap.size, 0, none⟩) k k) (u.alloc (.cells (madeCells #[.int .i64 0] k) 3)) := by
  obtain ⟨i0, hi, hz0, hz1, hz2⟩ := info_parts info_int
  have h := run_make (P := Try.prog) u 22 3 i0 (.int .i64 0) Try.underlying22 hi hz0 .i64 .i64 (k : Int) (k : Int) (by omega) (Int.le_refl _) (by rw [hz2]; omega) (by omega)
  have e : ((k : Int)).toNat = k := by omega
  rw [e] at h
  simpa [hz1, Value.cells] using h

/-- The queue at block qb holds xs; the blocks that it has are among S. -/
def QS (S : Nat → Prop) (w : World) (qb : Nat) (xs : List Int) (a : Option Addr) (m f : Nat) (ys : List Int) : Prop :=
  S qb ∧ qb < w.heap.size ∧ w.cell? ⟨qb, 0, none⟩ = some (.slice a m m) ∧ w.cell? ⟨qb, 1, none⟩ = some (.int .i64 f) ∧ w.cell? ⟨qb, 2, none⟩ = some (.int .i64 xs.length) ∧ (∀ o, w.frozen? ⟨qb, o, none⟩ = false) ∧
  ys.length = m ∧ xs.length ≤ m ∧ m ≤ 100000 ∧ f ≤ m ∧
  (0 < m → f < m ∧ ∃ lb, a = some ⟨lb, 0, none⟩ ∧ S lb ∧ lb ≠ qb ∧ lb < w.heap.size ∧ (∀ o, w.frozen? ⟨lb, o, none⟩ = false) ∧ ∀ i, i < m → w.cell? ⟨lb, i, none⟩ = some (.int .i64 (ys.getD i 0))) ∧
  ∀ i, i < xs.length → xs.getD i 0 = ys.getD ((f + i) % m) 0

/-- Room is made for one more. -/
def QR (S : Nat → Prop) (w w' : World) (qb : Nat) (xs : List Int) : Prop := Far S w w' ∧ ∃ a m f ys, QS S w' qb xs a m f ys ∧ xs.length < m

theorem qGrow_room (qb n m cap : Nat) (a : Option Addr) (w : World) (c0 : w.cell? ⟨qb, 0, none⟩ = some (.slice a m cap)) (c2 : w.cell? ⟨qb, 2, none⟩ = some (.int .i64 n)) (hn : n < m) :
    Calls Try.prog 80 #[.pointer (some ⟨qb, 0, none⟩)] w fun e w' => e = .returned (.tuple #[]) ∧ ∃ n, w' = w.drewN n := by
  go_enter Try.func80, Try.ntmps80
  go_wp2
  go_quiet (fail)
  go_wp2
  refine bodyPost_ret (results_none rfl _ _ _) rfl ?_
  exact ⟨rfl, _, rfl⟩

/-- The new row, so far. -/
def NewRow (w : World) (n m f : Nat) (ys : List Int) (k : Nat) (wr : World) : Prop :=
  Below w.heap.size w wr ∧ w.heap.size < wr.heap.size ∧ (∀ o, wr.frozen? ⟨w.heap.size, o, none⟩ = false) ∧ ∀ j, j < 2 * n + 2 → wr.cell? ⟨w.heap.size, j, none⟩ = some (.int .i64 (if j < k then ys.getD ((f + j) % m) 0 else 0))
theorem newRow_start (w : World) (n m f nq : Nat) (ys : List Int) : NewRow w n m f ys 0 ((w.drewN nq).alloc (.cells (madeCells #[.int .i64 0] (2 * n + 2)) 3)) := by
  have hb : ((w.drewN nq).alloc (.cells (madeCells #[.int .i64 0] (2 * n + 2)) 3)).heap[w.heap.size]? = some (.cells (madeCells #[.int .i64 0] (2 * n + 2)) 3) := (MapKept.heap_alloc (w.drewN nq) _).1
  refine ⟨(below_drewN (Below.refl _ _) nq).alloc (Nat.le_refl _) _, by rw [World.size_alloc]; exact Nat.lt_succ_self _, fun o => by simp only [World.frozen?, hb]; simp, fun j hj => ?_⟩
  simp only [World.cell?, hb, Nat.not_lt_zero, if_false]
  simp only [Option.isSome_none, Bool.false_eq_true, if_false]
  rw [← Array.getElem?_toList, toList_madeCells_one, List.getElem?_replicate, if_pos hj]
theorem newRow_step {w wr : World} {n m f k r : Nat} {ys : List Int} (h : NewRow w n m f ys k wr) (hk : k < n) (hr : r = (f + k) % m) (wx : World) (hx : Dr wr wx) :
    NewRow w n m f ys (k + 1) (wx.setCell ⟨w.heap.size, k, none⟩ (.int .i64 (ys.getD r 0))) := by
  obtain ⟨h1, h2, h3, h4⟩ := h
  refine ⟨(hx.below h1).setCell (p := ⟨w.heap.size, k, none⟩) (Nat.le_refl _) _, by rw [← hx.1] at h2; simpa [World.setCell] using h2, fun o => by rw [World.frozen?_setCell, hx.frozen]; exact h3 o, fun j hj => ?_⟩
  by_cases hjk : j = k
  · subst hjk
    rw [if_pos (Nat.lt_succ_self _), ← hr]
    exact cell_set_same _ _ _ _ (by rw [hx.cell, h4 j hj]; rfl)
  · rw [cell_set_other _ _ _ _ _ hjk, hx.cell, h4 j hj]
    by_cases h5 : j < k
    · rw [if_pos h5, if_pos (by omega)]
    · rw [if_neg h5, if_neg (by omega)]

theorem getD_range (m i : Nat) (g : Nat → Int) (h : i < m) : ((List.range m).map g).getD i 0 = g i := by
  rw [List.getD_eq_getElem?_getD, List.getElem?_map, List.getElem?_range h]; rfl

theorem grow_done {S : Nat → Prop} {qb n f : Nat} {a : Option Addr} {ys xs : List Int} {w wr : World} (hS : ∀ k, w.heap.size ≤ k → S k) (h : QS S w qb xs a n f ys) (hn : xs.length = n) (hr : NewRow w n n f ys n wr) (hn' : n ≤ 10000) :
    QR S w ((wr.setCell ⟨qb, 0, none⟩ (.slice (some ⟨w.heap.size, 0, none⟩) (2 * n + 2) (2 * n + 2))).setCell ⟨qb, 1, none⟩ (.int .i64 0)) qb xs := by
  obtain ⟨h1, h2, c0, c1, c2, hfz, hy, hxm, hm, hf, hring, hval⟩ := h
  obtain ⟨r1, r2, r3, r4⟩ := hr
  have k0 := (r1.cell (p := ⟨qb, 0, none⟩) h2).trans c0
  have k1 := (r1.cell (p := ⟨qb, 1, none⟩) h2).trans c1
  have k2 := (r1.cell (p := ⟨qb, 2, none⟩) h2).trans c2
  refine ⟨((Far.of r1).setCell (p := ⟨qb, 0, none⟩) h1 _).setCell (p := ⟨qb, 1, none⟩) h1 _, some ⟨w.heap.size, 0, none⟩, 2 * n + 2, 0, (List.range (2 * n + 2)).map (fun j => if j < n then ys.getD ((f + j) % n) 0 else 0), ?_, by omega⟩
  refine ⟨h1, ?_, ?_, ?_, ?_, ?_, by simp, by omega, by omega, by omega, fun _ => ⟨by omega, w.heap.size, rfl, hS _ (Nat.le_refl _), by omega, ?_, ?_, ?_⟩, ?_⟩
  · simp only [World.setCell, Array.size_modify]; omega
  · rw [cell_set_other _ _ _ _ _ (by decide)]; exact cell_set_same _ _ _ _ (by rw [k0]; rfl)
  · exact cell_set_same _ _ _ _ (by rw [cell_set_other _ _ _ _ _ (by decide), k1]; rfl)
  · rw [cell_set_other _ _ _ _ _ (by decide), cell_set_other _ _ _ _ _ (by decide)]; exact k2
  · intro o; rw [World.frozen?_setCell, World.frozen?_setCell, r1.frozen (p := ⟨qb, o, none⟩) h2]; exact hfz o
  · simp only [World.setCell, Array.size_modify]; omega
  · intro o; rw [World.frozen?_setCell, World.frozen?_setCell]; exact r3 o
  · intro i hi
    rw [cell_set_far _ _ _ _ _ _ (by omega), cell_set_far _ _ _ _ _ _ (by omega), r4 i hi, getD_range _ _ _ hi]
  · intro i hi
    have e : (0 + i) % (2 * n + 2) = i := by rw [Nat.zero_add]; exact Nat.mod_eq_of_lt (by omega)
    rw [hval i hi, e, getD_range _ _ _ (by omega), if_pos (by omega)]

set_option maxRecDepth 100000 in
set_option maxHeartbeats 2000000 in
theorem qGrow_full (S : Nat → Prop) (qb n m f : Nat) (a : Option Addr) (ys : List Int) (xs : List Int) (w : World) (hS : ∀ k, w.heap.size ≤ k → S k) (h : QS S w qb xs a m f ys) (hn : xs.length = n) (hnm : n = m) (hn' : n ≤ 10000) :
    Calls Try.prog 80 #[.pointer (some ⟨qb, 0, none⟩)] w fun e w' => e = .returned (.tuple #[]) ∧ QR S w w' qb xs := by
  have HQ := Lib.hid h
  subst hnm
  obtain ⟨h1, h2, c0, c1, c2, hfz, hy, hxm, hm, hf, hring, hval⟩ := h
  rw [hn] at c2
  have Hring := Lib.hid hring
  have Hval := Lib.hid hval
  have hmk : ∀ u : World, (Instr.makeSlice 22 (.int .i64 (2 * (n : Int) + 2)) (.int .i64 (2 * (n : Int) + 2))).run Try.prog u = .ok (.slice (some ⟨u.heap.size, 0, none⟩) (2 * n + 2) (2 * n + 2)) (u.alloc (.cells (madeCells #[.int .i64 0] (2 * n + 2)) 3)) := fun u => by
    have h := make_ints (2 * n + 2) (by omega) u
    rw [show ((2 * n + 2 : Nat) : Int) = 2 * (n : Int) + 2 by omega] at h
    exact h
  clear hring hval hy hxm hm
  have hal : ∀ (k : Nat) (ob : Obj) (o : Nat), ((w.drewN k).alloc ob).cell? ⟨qb, o, none⟩ = w.cell? ⟨qb, o, none⟩ := fun k ob o => cell_alloc_old w k ob qb o h2
  go_enter Try.func80, Try.ntmps80
  go_wp2
  go_quiet (fail)
  go_wp2
  go_loopw [3, 25] (fun _ i wr => ∃ k : Nat, k ≤ n ∧ i = .int .i64 k ∧ Hid (NewRow w n n f ys k wr)) (fun _ i _ => n - (intOf i).toNat)
  case atStart => exact ⟨0, Nat.zero_le _, rfl, newRow_start w n n f nq ys⟩
  case round =>
    obtain ⟨k, hk, rfl, HR⟩ := hrel
    have e0 : wr.cell? ⟨qb, 0, none⟩ = some (.slice a n n) := (HR.out.1.cell (p := ⟨qb, 0, none⟩) h2).trans c0
    have e1 : wr.cell? ⟨qb, 1, none⟩ = some (.int .i64 f) := (HR.out.1.cell (p := ⟨qb, 1, none⟩) h2).trans c1
    have efz : ∀ o, wr.frozen? ⟨qb, o, none⟩ = false := fun o => (HR.out.1.frozen (p := ⟨qb, o, none⟩) h2).trans (hfz o)
    have e2 : wr.cell? ⟨qb, 2, none⟩ = some (.int .i64 n) := (HR.out.1.cell (p := ⟨qb, 2, none⟩) h2).trans c2
    by_cases hlt : k < n
    · obtain ⟨hfm, lb0, ha, hl1, hl2, hl3, hl4, hl5⟩ := Hring.out (by omega)
      obtain ⟨r, hr, hrn, hrd⟩ : ∃ r : Nat, ((f : Int) + k) % n = r ∧ r < n ∧ r = (f + k) % n := ⟨(f + k) % n, by simp, Nat.mod_lt _ (by omega), rfl⟩
      have er : wr.cell? ⟨lb0, r, none⟩ = some (.int .i64 (ys.getD r 0)) := (HR.out.1.cell (p := ⟨lb0, r, none⟩) hl3).trans (hl5 r hrn)
      have HS := Lib.hid (newRow_step HR.out hlt (r := r) hrd)
      have hri : (r : Int) < n := by omega
      have hri0 : (0 : Int) ≤ (r : Int) := by omega
      have hki : (k : Int) < 2 * (n : Int) + 2 := by omega
      have hki0 : (0 : Int) ≤ (k : Int) := by omega
      have HRR := Lib.hid hr
      clear hr hrd
      have ek := HR.out.2.2.2 k (by omega)
      rw [if_neg (Nat.lt_irrefl k)] at ek
      have efr := HR.out.2.2.1
      clear hl5 hl4 hmk hal
      subst ha
      generalize ys.getD r 0 = y at er HS
      go_wp2
      go_region_held3 (fun w' => w'.cell? ⟨qb, 0, none⟩ = some (.slice (some ⟨lb0, 0, none⟩) n n) ∧ w'.cell? ⟨lb0, r, none⟩ = some (.int .i64 y)) (simp [go_sem, *]) (first | (go_at_call 81; refine (qAt_is qb n n f r _ k _ (by simpa using e0) (by simpa using e1) (by omega) (by omega) (by omega) (by omega) (by omega) HRR.out).mono ?_; rintro e w' ⟨rfl, nq', rfl⟩))
      go_wp2
      go_roundw
      case rel => exact ⟨k + 1, by omega, by go_num, HS.out _ ⟨rfl, rfl, rfl, rfl⟩⟩
      case measure => simp [intOf]; omega
    · obtain rfl : k = n := by omega
      clear hmk hal
      have HD := Lib.hid (grow_done hS HQ.out hn HR.out hn')
      go_wp2
      go_end0
      exact ⟨rfl, HD.out⟩

theorem QS.drew {S : Nat → Prop} {qb m f : Nat} {a : Option Addr} {ys xs : List Int} {w w' : World} (h : QS S w qb xs a m f ys) (hd : Dr w w') : QS S w' qb xs a m f ys := by
  obtain ⟨h1, h2, c0, c1, c2, hfz, hy, hxm, hm, hf, hring, hval⟩ := h
  refine ⟨h1, by rw [hd.1]; exact h2, (hd.cell _).trans c0, (hd.cell _).trans c1, (hd.cell _).trans c2, fun o => (hd.frozen _).trans (hfz o), hy, hxm, hm, hf, fun h0 => ?_, hval⟩
  obtain ⟨g1, lb, g2, g3, g4, g5, g6, g7⟩ := hring h0
  exact ⟨g1, lb, g2, g3, g4, by rw [hd.1]; exact g5, fun o => (hd.frozen _).trans (g6 o), fun i hi => (hd.cell _).trans (g7 i hi)⟩

theorem qGrow_any {S : Nat → Prop} {qb m f : Nat} {a : Option Addr} {ys xs : List Int} {w : World} (hS : ∀ k, w.heap.size ≤ k → S k) (h : QS S w qb xs a m f ys) (hn : xs.length ≤ 10000) :
    Calls Try.prog 80 #[.pointer (some ⟨qb, 0, none⟩)] w fun e w' => e = .returned (.tuple #[]) ∧ QR S w w' qb xs := by
  by_cases hlt : xs.length < m
  · refine (qGrow_room qb xs.length m m a w h.2.2.1 h.2.2.2.2.1 hlt).mono ?_
    rintro e w' ⟨he, k, rfl⟩
    exact ⟨he, (Far.refl _ _).drewN k, a, m, f, ys, h.drew ⟨rfl, rfl, rfl, rfl⟩, hlt⟩
  · have hle := h.2.2.2.2.2.2.2.1
    exact qGrow_full S qb xs.length m f a ys xs w hS h rfl (by omega) hn

theorem getD_set (ys : List Int) (r j : Nat) (x : Int) (hr : r < ys.length) : (ys.set r x).getD j 0 = if j = r then x else ys.getD j 0 := by
  rw [List.getD_eq_getElem?_getD, List.getD_eq_getElem?_getD, List.getElem?_set]
  by_cases h : r = j
  · subst h; rw [if_pos rfl, if_pos rfl, if_pos hr]; rfl
  · rw [if_neg h, if_neg (Ne.symm h)]
theorem mod_two (f i m : Nat) (hf : f < m) (hi : i ≤ m) : (f + i) % m = if f + i < m then f + i else f + i - m := by
  split
  · exact Nat.mod_eq_of_lt ‹_›
  · rw [Nat.mod_eq_sub_mod (by omega)]; exact Nat.mod_eq_of_lt (by omega)

/-- The ring with one cell written, and what the queue then holds. -/
theorem QS.store {S : Nat → Prop} {qb m f r f' lb : Nat} {ys xs xs' : List Int} {x : Int} {w w2 : World} (h : QS S w qb xs (some ⟨lb, 0, none⟩) m f ys) (h0 : 0 < m) (hr : r < m) (hf' : f' < m) (hlen : xs'.length ≤ m)
    (hval' : ∀ i, i < xs'.length → xs'.getD i 0 = (ys.set r x).getD ((f' + i) % m) 0) (hs : w.heap.size ≤ w2.heap.size)
    (q0 : w2.cell? ⟨qb, 0, none⟩ = w.cell? ⟨qb, 0, none⟩) (q1 : w2.cell? ⟨qb, 1, none⟩ = some (.int .i64 f')) (q2 : w2.cell? ⟨qb, 2, none⟩ = some (.int .i64 xs'.length)) (hz : ∀ a, w2.frozen? a = w.frozen? a)
    (hx : w2.cell? ⟨lb, r, none⟩ = some (.int .i64 x)) (ho : ∀ j, j ≠ r → w2.cell? ⟨lb, j, none⟩ = w.cell? ⟨lb, j, none⟩) : QS S w2 qb xs' (some ⟨lb, 0, none⟩) m f' (ys.set r x) := by
  obtain ⟨h1, h2, c0, c1, c2, hfz, hy, hxm, hm, hf, hring, hval⟩ := h
  obtain ⟨g1, lb', g2, g3, g4, g5, g6, g7⟩ := hring h0
  cases g2
  refine ⟨h1, by omega, q0.trans c0, q1, q2, fun o => (hz _).trans (hfz o), by simpa using hy, hlen, hm, by omega, fun _ => ⟨hf', lb, rfl, g3, g4, by omega, fun o => (hz _).trans (g6 o), fun i hi => ?_⟩, hval'⟩
  rw [getD_set _ _ _ _ (by omega)]
  by_cases h3 : i = r
  · subst h3; rw [if_pos rfl]; exact hx
  · rw [if_neg h3, ho i h3]; exact g7 i hi

/-- Behind a deed: what is not among S lies as it lay, and the queue holds this. -/
def QP (S : Nat → Prop) (w w' : World) (qb : Nat) (xs : List Int) : Prop := Far S w w' ∧ ∃ a m f ys, QS S w' qb xs a m f ys

theorem push_done {S : Nat → Prop} {qb m f lb r : Nat} {ys xs : List Int} {x : Int} {w0 w wx : World} (hb : Far S w0 w) (h : QS S w qb xs (some ⟨lb, 0, none⟩) m f ys) (hn : xs.length < m) (hr : r = (f + xs.length) % m) (hx : Dr w wx) :
    QP S w0 ((wx.setCell ⟨lb, r, none⟩ (.int .i64 x)).setCell ⟨qb, 2, none⟩ (.int .i64 (xs.length + 1))) qb (xs ++ [x]) := by
  have h' := h
  obtain ⟨h1, h2, c0, c1, c2, hfz, hy, hxm, hm, hf, hring, hval⟩ := h'
  obtain ⟨g1, lb', g2, g3, g4, g5, g6, g7⟩ := hring (by omega)
  cases g2
  have hrm : r < m := by rw [hr]; exact Nat.mod_lt _ (by omega)
  refine ⟨((hx.far hb).setCell (p := ⟨lb, r, none⟩) g3 _).setCell (p := ⟨qb, 2, none⟩) h1 _, _, m, f, _, QS.store (r := r) (x := x) (f' := f) h (by omega) hrm g1 (by rw [List.length_append]; simp; omega) ?_ ?_ ?_ ?_ ?_ ?_ ?_ ?_⟩
  · intro i hi
    rw [List.length_append] at hi
    simp only [List.length_cons, List.length_nil] at hi
    rw [getD_set _ _ _ _ (by omega)]
    by_cases h3 : i < xs.length
    · have hne : ¬ (f + i) % m = r := by
        rw [hr, mod_two f i m g1 (by omega), mod_two f xs.length m g1 (by omega)]; split <;> split <;> omega
      rw [if_neg hne, ← hval i h3, List.getD_eq_getElem?_getD, List.getElem?_append_left h3, ← List.getD_eq_getElem?_getD]
    · obtain rfl : i = xs.length := by omega
      rw [if_pos hr.symm, List.getD_eq_getElem?_getD, List.getElem?_append_right (Nat.le_refl _)]
      simp
  · simp only [World.setCell, Array.size_modify, hx.1]; exact Nat.le_refl _
  · rw [cell_set_other _ _ _ _ _ (by decide), cell_set_far _ _ _ _ _ _ (by omega), hx.cell]
  · rw [cell_set_other _ _ _ _ _ (by decide), cell_set_far _ _ _ _ _ _ (by omega), hx.cell, c1]
  · rw [cell_set_same _ _ _ _ (by rw [cell_set_far _ _ _ _ _ _ (by omega), hx.cell, c2]; rfl), List.length_append]; rfl
  · intro a; rw [World.frozen?_setCell, World.frozen?_setCell, hx.frozen]
  · rw [cell_set_far _ _ _ _ _ _ (by omega)]; exact cell_set_same _ _ _ _ (by rw [hx.cell, g7 r hrm]; rfl)
  · intro j hj; rw [cell_set_far _ _ _ _ _ _ (by omega), cell_set_other _ _ _ _ _ hj, hx.cell]

set_option maxRecDepth 100000 in
set_option maxHeartbeats 2000000 in
theorem qPush_any {S : Nat → Prop} {qb m f : Nat} {a : Option Addr} {ys xs : List Int} {w : World} (x : Int) (hS : ∀ k, w.heap.size ≤ k → S k) (h : QS S w qb xs a m f ys) (hn : xs.length ≤ 10000) :
    Calls Try.prog 18 #[.pointer (some ⟨qb, 0, none⟩), .int .i64 x] w fun e w' => e = .returned (.tuple #[]) ∧ QP S w w' qb (xs ++ [x]) := by
  have HQ := Lib.hid h
  clear h
  go_enter Try.func18, Try.ntmps18
  go_wp2_with fail
  refine (qGrow_any hS HQ.out hn).mono ?_
  rintro e w1 ⟨rfl, hb, a1, m1, f1, ys1, hq, hlt⟩
  have HB := Lib.hid hb
  have HQ1 := Lib.hid hq
  obtain ⟨h1, h2, c0, c1, c2, hfz, hy, hxm, hm, hf, hring, hval⟩ := hq
  obtain ⟨g1, lb, rfl, g3, g4, g5, g6, g7⟩ := hring (by omega)
  obtain ⟨r, hr, hrm, hrd⟩ : ∃ r : Nat, ((f1 : Int) + xs.length) % m1 = r ∧ r < m1 ∧ r = (f1 + xs.length) % m1 := ⟨(f1 + xs.length) % m1, by simp, Nat.mod_lt _ (by omega), rfl⟩
  have er := g7 r hrm
  have HD := Lib.hid (fun wx hx => push_done (x := x) HB.out HQ1.out hlt hrd (wx := wx) hx)
  have HR := Lib.hid hr
  have hri : (r : Int) < m1 := by omega
  have hri0 : (0 : Int) ≤ (r : Int) := by omega
  clear hb hring hval hr hrd g7 hy
  generalize xs.length = n at *
  go_wp2
  go_region_held3 (fun w' => w'.cell? ⟨qb, 0, none⟩ = some (.slice (some ⟨lb, 0, none⟩) m1 m1) ∧ w'.cell? ⟨qb, 2, none⟩ = some (.int .i64 n)) (simp [go_sem, *]) (first | (go_at_call 81; refine (qAt_is qb m1 m1 f1 r _ n _ (by simpa using c0) (by simpa using c1) (by omega) (by omega) (by omega) (by omega) (by omega) HR.out).mono ?_; rintro e w' ⟨rfl, nq', rfl⟩))
  go_wp2
  go_end0
  exact ⟨rfl, HD.out _ ⟨rfl, rfl, rfl, rfl⟩⟩

theorem back_done {S : Nat → Prop} {qb m f lb r : Nat} {ys xs : List Int} {x : Int} {w0 w wx : World} (hb : Far S w0 w) (h : QS S w qb xs (some ⟨lb, 0, none⟩) m f ys) (hn : xs.length < m) (hr : r = (f + (m - 1)) % m)
    (hx : Dr (w.setCell ⟨qb, 1, none⟩ (.int .i64 r)) wx) :
    QP S w0 ((wx.setCell ⟨lb, r, none⟩ (.int .i64 x)).setCell ⟨qb, 2, none⟩ (.int .i64 (xs.length + 1))) qb (x :: xs) := by
  have h' := h
  obtain ⟨h1, h2, c0, c1, c2, hfz, hy, hxm, hm, hf, hring, hval⟩ := h'
  obtain ⟨g1, lb', g2, g3, g4, g5, g6, g7⟩ := hring (by omega)
  cases g2
  have hrm : r < m := by rw [hr]; exact Nat.mod_lt _ (by omega)
  refine ⟨((hx.far (hb.setCell (p := ⟨qb, 1, none⟩) h1 _)).setCell (p := ⟨lb, r, none⟩) g3 _).setCell (p := ⟨qb, 2, none⟩) h1 _, _, m, r, _, QS.store (r := r) (x := x) (f' := r) h (by omega) hrm hrm (by rw [List.length_cons]; omega) ?_ ?_ ?_ ?_ ?_ ?_ ?_ ?_⟩
  · intro i hi
    rw [List.length_cons] at hi
    rw [getD_set _ _ _ _ (by omega)]
    cases i with
    | zero => rw [Nat.add_zero, Nat.mod_eq_of_lt hrm, if_pos rfl]; rfl
    | succ i =>
      have e : (r + (i + 1)) % m = (f + i) % m := by
        rw [mod_two r (i + 1) m hrm (by omega), mod_two f i m g1 (by omega), hr, mod_two f (m - 1) m g1 (by omega)]
        split <;> split <;> split <;> omega
      have hne : ¬ (f + i) % m = r := by
        rw [hr, mod_two f i m g1 (by omega), mod_two f (m - 1) m g1 (by omega)]; split <;> split <;> omega
      rw [e, if_neg hne, ← hval i (by omega)]; rfl
  · simp only [World.setCell, Array.size_modify, hx.1]; exact Nat.le_refl _
  · rw [cell_set_other _ _ _ _ _ (by decide), cell_set_far _ _ _ _ _ _ (by omega), hx.cell, cell_set_other _ _ _ _ _ (by decide)]
  · rw [cell_set_other _ _ _ _ _ (by decide), cell_set_far _ _ _ _ _ _ (by omega), hx.cell]; exact cell_set_same _ _ _ _ (by rw [c1]; rfl)
  · rw [cell_set_same _ _ _ _ (by rw [cell_set_far _ _ _ _ _ _ (by omega), hx.cell, cell_set_other _ _ _ _ _ (by decide), c2]; rfl), List.length_cons]; rfl
  · intro a; rw [World.frozen?_setCell, World.frozen?_setCell, hx.frozen, World.frozen?_setCell]
  · rw [cell_set_far _ _ _ _ _ _ (by omega)]; exact cell_set_same _ _ _ _ (by rw [hx.cell, cell_set_far _ _ _ _ _ _ (by omega), g7 r hrm]; rfl)
  · intro j hj; rw [cell_set_far _ _ _ _ _ _ (by omega), cell_set_other _ _ _ _ _ hj, hx.cell, cell_set_far _ _ _ _ _ _ (by omega)]

set_option maxRecDepth 100000 in
set_option maxHeartbeats 2000000 in
theorem qBack_any {S : Nat → Prop} {qb m f : Nat} {a : Option Addr} {ys xs : List Int} {w : World} (x : Int) (hS : ∀ k, w.heap.size ≤ k → S k) (h : QS S w qb xs a m f ys) (hn : xs.length ≤ 10000) :
    Calls Try.prog 17 #[.pointer (some ⟨qb, 0, none⟩), .int .i64 x] w fun e w' => e = .returned (.tuple #[]) ∧ QP S w w' qb (x :: xs) := by
  have HQ := Lib.hid h
  clear h
  go_enter Try.func17, Try.ntmps17
  go_wp2_with fail
  refine (qGrow_any hS HQ.out hn).mono ?_
  rintro e w1 ⟨rfl, hb, a1, m1, f1, ys1, hq, hlt⟩
  have HB := Lib.hid hb
  have HQ1 := Lib.hid hq
  obtain ⟨h1, h2, c0, c1, c2, hfz, hy, hxm, hm, hf, hring, hval⟩ := hq
  obtain ⟨g1, lb, rfl, g3, g4, g5, g6, g7⟩ := hring (by omega)
  obtain ⟨r, hr, hrm, hrd⟩ : ∃ r : Nat, ((f1 : Int) + ((m1 : Int) - 1)) % m1 = r ∧ r < m1 ∧ r = (f1 + (m1 - 1)) % m1 :=
    ⟨(f1 + (m1 - 1)) % m1, by rw [show (f1 : Int) + ((m1 : Int) - 1) = ((f1 + (m1 - 1) : Nat) : Int) by omega]; simp, Nat.mod_lt _ (by omega), rfl⟩
  have er := g7 r hrm
  have HD := Lib.hid (fun wx hx => back_done (x := x) HB.out HQ1.out hlt hrd (wx := wx) hx)
  have HR := Lib.hid hr
  have hri : (r : Int) < m1 := by omega
  have hri0 : (0 : Int) ≤ (r : Int) := by omega
  clear hb hring hval hr hrd g7 hy
  generalize xs.length = n at *
  go_wp2_with (first | (go_at_call 81; refine (qAt_is qb m1 m1 f1 r _ (m1 - 1) _ (by simpa using c0) (by simpa using c1) (by omega) (by omega) (by omega) (by omega) (by omega) HR.out).mono ?_; rintro e w' ⟨rfl, nq', rfl⟩))
  go_region
  go_wp2
  go_end0
  exact ⟨rfl, HD.out (((w1.drewN nq').setCell ⟨qb, 1, none⟩ (.int .i64 r)).drew) ⟨rfl, rfl, rfl, rfl⟩⟩

theorem pop_done {S : Nat → Prop} {qb m f lb r : Nat} {ys xs : List Int} {x : Int} {w0 w wx : World} (hb : Far S w0 w) (h : QS S w qb (x :: xs) (some ⟨lb, 0, none⟩) m f ys) (hr : r = (f + 1) % m)
    (hx : Dr (w.setCell ⟨lb, f, none⟩ (.int .i64 0)) wx) :
    QP S w0 ((wx.setCell ⟨qb, 1, none⟩ (.int .i64 r)).setCell ⟨qb, 2, none⟩ (.int .i64 xs.length)) qb xs := by
  have h' := h
  obtain ⟨h1, h2, c0, c1, c2, hfz, hy, hxm, hm, hf, hring, hval⟩ := h'
  rw [List.length_cons] at hxm
  obtain ⟨g1, lb', g2, g3, g4, g5, g6, g7⟩ := hring (by omega)
  cases g2
  have hrm : r < m := by rw [hr]; exact Nat.mod_lt _ (by omega)
  refine ⟨((hx.far (hb.setCell (p := ⟨lb, f, none⟩) g3 _)).setCell (p := ⟨qb, 1, none⟩) h1 _).setCell (p := ⟨qb, 2, none⟩) h1 _, _, m, r, _, QS.store (r := f) (x := 0) (f' := r) h (by omega) g1 hrm (by omega) ?_ ?_ ?_ ?_ ?_ ?_ ?_ ?_⟩
  · intro i hi
    rw [getD_set _ _ _ _ (by omega)]
    have e : (r + i) % m = (f + (i + 1)) % m := by
      rw [mod_two r i m hrm (by omega), mod_two f (i + 1) m g1 (by omega), hr, mod_two f 1 m g1 (by omega)]
      split <;> split <;> split <;> omega
    have hne : ¬ (f + (i + 1)) % m = f := by
      rw [mod_two f (i + 1) m g1 (by omega)]; split <;> omega
    rw [e, if_neg hne, ← hval (i + 1) (by rw [List.length_cons]; omega)]; rfl
  · simp only [World.setCell, Array.size_modify, hx.1]; exact Nat.le_refl _
  · rw [cell_set_other _ _ _ _ _ (by decide), cell_set_other _ _ _ _ _ (by decide), hx.cell, cell_set_far _ _ _ _ _ _ (by omega)]
  · rw [cell_set_other _ _ _ _ _ (by decide)]; exact cell_set_same _ _ _ _ (by rw [hx.cell, cell_set_far _ _ _ _ _ _ (by omega), c1]; rfl)
  · exact cell_set_same _ _ _ _ (by rw [cell_set_other _ _ _ _ _ (by decide), hx.cell, cell_set_far _ _ _ _ _ _ (by omega), c2]; rfl)
  · intro a; rw [World.frozen?_setCell, World.frozen?_setCell, hx.frozen, World.frozen?_setCell]
  · rw [cell_set_far _ _ _ _ _ _ (by omega), cell_set_far _ _ _ _ _ _ (by omega), hx.cell]; exact cell_set_same _ _ _ _ (by rw [g7 f g1]; rfl)
  · intro j hj; rw [cell_set_far _ _ _ _ _ _ (by omega), cell_set_far _ _ _ _ _ _ (by omega), hx.cell, cell_set_other _ _ _ _ _ hj]

set_option maxRecDepth 100000 in
set_option maxHeartbeats 2000000 in
theorem qPop_some {S : Nat → Prop} {qb m f : Nat} {a : Option Addr} {ys xs : List Int} {w : World} (x : Int) (h : QS S w qb (x :: xs) a m f ys) (hn : xs.length ≤ 20000) :
    Calls Try.prog 19 #[.pointer (some ⟨qb, 0, none⟩)] w fun e w' => e = .returned (.tuple #[.int .i64 x, .bool true]) ∧ QP S w w' qb xs := by
  have HQ1 := Lib.hid h
  have HB := Lib.hid (Far.refl S w)
  obtain ⟨h1, h2, c0, c1, c2, hfz, hy, hxm, hm, hf, hring, hval⟩ := h
  rw [List.length_cons] at c2 hxm
  obtain ⟨g1, lb, rfl, g3, g4, g5, g6, g7⟩ := hring (by omega)
  obtain ⟨r, hr, hrm, hrd⟩ : ∃ r : Nat, ((f : Int) + 1) % m = r ∧ r < m ∧ r = (f + 1) % m := ⟨(f + 1) % m, by simp, Nat.mod_lt _ (by omega), rfl⟩
  have er := g7 f g1
  have ev := hval 0 (by simp)
  rw [Nat.add_zero, Nat.mod_eq_of_lt g1] at ev
  rw [← ev] at er
  have HD := Lib.hid (fun wx hx => pop_done HB.out HQ1.out hrd (wx := wx) hx)
  have HR := Lib.hid hr
  have hri : (f : Int) < m := by omega
  have hri0 : (0 : Int) ≤ (f : Int) := by omega
  have hfar : ∀ (u : World) (v : Value) (o : Nat), (u.setCell ⟨lb, f, none⟩ v).cell? ⟨qb, o, none⟩ = u.cell? ⟨qb, o, none⟩ := fun u v o => cell_set_far _ _ _ _ _ _ (Ne.symm g4)
  have hne : (((xs.length + 1 : Nat) : Int) == 0) = false := by rw [beq_eq_false_iff_ne]; omega
  have er' : w.cell? ⟨lb, f, none⟩ = some (.int .i64 x) := er
  clear hring hval hr hrd g7 hy er ev
  generalize xs.length = n at *
  go_enter Try.func19, Try.ntmps19
  go_wp2_with (go_at_call 23; refine (qLen_any _ (n + 1) _ c2).mono ?_; rintro e w' ⟨rfl, rfl⟩)
  go_quiet (fail)
  go_wp2
  go_region
  go_wp2_with (first | (go_at_call 81; refine (qAt_is qb m m f r _ 1 _ (by rw [hfar]; simpa using c0) (by rw [hfar]; simpa using c1) (by omega) (by omega) (by omega) (by omega) (by omega) HR.out).mono ?_; rintro e w' ⟨rfl, nq', rfl⟩))
  go_ret2
  exact ⟨rfl, HD.out (((w.drewN (nq + 1)).setCell ⟨lb, f, none⟩ (.int .i64 0)).drewN nq') ⟨rfl, rfl, rfl, rfl⟩⟩

theorem qPop_none {S : Nat → Prop} {qb m f : Nat} {a : Option Addr} {ys : List Int} {w : World} (h : QS S w qb [] a m f ys) :
    Calls Try.prog 19 #[.pointer (some ⟨qb, 0, none⟩)] w fun e w' => e = .returned (.tuple #[.int .i64 0, .bool false]) ∧ w = w' := by
  obtain ⟨h1, h2, c0, c1, c2, hfz, hy, hxm, hm, hf, hring, hval⟩ := h
  go_enter Try.func19, Try.ntmps19
  go_wp2_with (go_at_call 23; refine (qLen_any _ 0 _ c2).mono ?_; rintro e w' ⟨rfl, rfl⟩)
  go_ret2
  exact ⟨rfl, rfl⟩
theorem qPop_nil (w : World) :
    Calls Try.prog 19 #[.pointer none] w fun e w' => e = .returned (.tuple #[.int .i64 0, .bool false]) ∧ w = w' := by
  go_enter Try.func19, Try.ntmps19
  go_wp2_with (go_at_call 23; refine (qLen_nil _).mono ?_; rintro e w' ⟨rfl, rfl⟩)
  go_ret2
  exact ⟨rfl, rfl⟩
theorem qPush_nil (x : Int) (w : World) :
    Calls Try.prog 18 #[.pointer none, .int .i64 x] w fun e w' => e = .returned (.tuple #[]) ∧ w = w' := by
  go_enter Try.func18, Try.ntmps18
  go_wp2
  refine bodyPost_ret (results_none rfl _ _ _) rfl ?_
  exact ⟨rfl, rfl⟩
theorem qBack_nil (x : Int) (w : World) :
    Calls Try.prog 17 #[.pointer none, .int .i64 x] w fun e w' => e = .returned (.tuple #[]) ∧ w = w' := by
  go_enter Try.func17, Try.ntmps17
  go_wp2
  refine bodyPost_ret (results_none rfl _ _ _) rfl ?_
  exact ⟨rfl, rfl⟩
theorem qTurn_nil (w : World) :
    Calls Try.prog 22 #[.pointer none] w fun e w' => e = .returned (.bool false) ∧ w = w' := by
  go_enter Try.func22, Try.ntmps22
  go_wp2_with (go_at_call 19; refine (qPop_nil _).mono ?_; rintro e w' ⟨rfl, rfl⟩)
  go_ret
  exact ⟨rfl, rfl⟩
theorem qTurn_none {S : Nat → Prop} {qb m f : Nat} {a : Option Addr} {ys : List Int} {w : World} (h : QS S w qb [] a m f ys) :
    Calls Try.prog 22 #[.pointer (some ⟨qb, 0, none⟩)] w fun e w' => e = .returned (.bool false) ∧ w = w' := by
  have H := Lib.hid h
  clear h
  go_enter Try.func22, Try.ntmps22
  go_wp2_with (go_at_call 19; refine (qPop_none H.out).mono ?_; rintro e w' ⟨rfl, rfl⟩)
  go_ret
  exact ⟨rfl, rfl⟩
theorem qTurn_some {S : Nat → Prop} {qb m f : Nat} {a : Option Addr} {ys xs : List Int} {w : World} (x : Int) (hS : ∀ k, w.heap.size ≤ k → S k) (h : QS S w qb (x :: xs) a m f ys) (hn : xs.length ≤ 10000) :
    Calls Try.prog 22 #[.pointer (some ⟨qb, 0, none⟩)] w fun e w' => e = .returned (.bool true) ∧ QP S w w' qb (xs ++ [x]) := by
  have H := Lib.hid h
  clear h
  go_enter Try.func22, Try.ntmps22
  go_wp2_with fail
  refine (qPop_some x H.out (by omega)).mono ?_
  rintro e w1 ⟨rfl, hb, a1, m1, f1, ys1, hq⟩
  have HB := Lib.hid hb
  have HQ := Lib.hid hq
  clear hb hq
  go_wp2_with fail
  refine (qPush_any x (fun k hk => hS k (Nat.le_trans HB.out.size hk)) HQ.out hn).mono ?_
  rintro e w2 ⟨rfl, hb, hq⟩
  have HB2 := Lib.hid hb
  have HQ2 := Lib.hid hq
  clear hb hq
  go_wp2
  go_ret
  exact ⟨rfl, HB.out.trans HB2.out, HQ2.out⟩
end Go.Proofs.Ytemkpecagflafaa
