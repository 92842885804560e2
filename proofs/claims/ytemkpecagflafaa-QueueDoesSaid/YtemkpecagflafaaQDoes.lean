/-
  The walk of the law QueueDoes: it answers true at every input. No condition but how the slices lie.
-/
import Derived.Test.YtemkpecagflafaaQEnds
import Derived.Test.YtemkpecagflafaaCopy
namespace Go.Proofs.Ytemkpecagflafaa
open Go.RowKit

/-- The queue holds qs, and beside it lies a slice that reads xs; nothing that lay in W has turned. -/
def QX (W w : World) (qb : Nat) (qs xs : List Int) (a : Option Addr) (n cap : Nat) : Prop :=
  Below W.heap.size W w ∧ Rd w.heap.size w a n cap 1 (ints xs) ∧ ∃ S : Nat → Prop, (∀ k, S k → W.heap.size ≤ k ∧ k < w.heap.size) ∧ (∀ ad, a = some ad → ad.block < w.heap.size ∧ ¬ S ad.block) ∧ ∃ a' m f ys, QS S w qb qs a' m f ys

theorem QX.toB {W w : World} {qb : Nat} {qs xs : List Int} {a : Option Addr} {n cap : Nat} (h : QX W w qb qs xs a n cap) : Below W.heap.size W w := h.1
theorem QX.toR {W w : World} {qb : Nat} {qs xs : List Int} {a : Option Addr} {n cap : Nat} (h : QX W w qb qs xs a n cap) : Rd w.heap.size w a n cap 1 (ints xs) := h.2.1

theorem QS.shrink {S : Nat → Prop} {w : World} {qb m f : Nat} {a : Option Addr} {qs ys : List Int} (h : QS S w qb qs a m f ys) : QS (fun k => S k ∧ k < w.heap.size) w qb qs a m f ys := by
  obtain ⟨h1, h2, c0, c1, c2, hfz, hy, hxm, hm, hf, hring, hval⟩ := h
  refine ⟨⟨h1, h2⟩, h2, c0, c1, c2, hfz, hy, hxm, hm, hf, fun h0 => ?_, hval⟩
  obtain ⟨g1, lb, g2, g3, g4, g5, g6⟩ := hring h0
  exact ⟨g1, lb, g2, ⟨g3, g5⟩, g4, g5, g6⟩
theorem QS.widen {S T : Nat → Prop} {w : World} {qb m f : Nat} {a : Option Addr} {qs ys : List Int} (h : QS S w qb qs a m f ys) (hST : ∀ k, S k → T k) : QS T w qb qs a m f ys := by
  obtain ⟨h1, h2, c0, c1, c2, hfz, hy, hxm, hm, hf, hring, hval⟩ := h
  refine ⟨hST _ h1, h2, c0, c1, c2, hfz, hy, hxm, hm, hf, fun h0 => ?_, hval⟩
  obtain ⟨g1, lb, g2, g3, g4, g5, g6⟩ := hring h0
  exact ⟨g1, lb, g2, hST _ g3, g4, g5, g6⟩

theorem Rd.far {S : Nat → Prop} {w w' : World} {a : Option Addr} {n cap sz : Nat} {xs : List Value} (h : Rd w.heap.size w a n cap sz xs) (hf : Far S w w') (ha : ∀ ad, a = some ad → ¬ S ad.block) : Rd w'.heap.size w' a n cap sz xs := by
  obtain ⟨h1, h2, h3, h4⟩ := h
  refine ⟨h1, h2, h3, ?_⟩
  rcases h4 with h4 | ⟨b, o, rfl, hb, hc⟩
  · exact .inl h4
  · exact .inr ⟨b, o, rfl, Nat.lt_of_lt_of_le hb hf.size, fun j hj => (hf.cell hb (ha _ rfl)).trans (hc j hj)⟩

/-- A deed on the queue leaves the slice beside it alone, and a block that was laid just now. -/
theorem QX.queueBox {W w : World} {qb : Nat} {qs xs : List Int} {a : Option Addr} {n cap : Nat} (h : QX W w qb qs xs a n cap) (w1 : World) (hw : Below w.heap.size w w1) :
    ∃ S : Nat → Prop, (∀ k, w1.heap.size ≤ k → S k) ∧ (∃ a' m f ys, QS S w1 qb qs a' m f ys) ∧ ∀ w' qs', QP S w1 w' qb qs' → QX W w' qb qs' xs a n cap ∧ ∀ k, w.heap.size ≤ k → k < w1.heap.size → w'.heap[k]? = w1.heap[k]? := by
  obtain ⟨hb, hR, S, hS, ha, a', m, f, ys, hq⟩ := h
  have hws := hw.size
  refine ⟨fun k => S k ∨ w1.heap.size ≤ k, fun k hk => .inr hk, ⟨a', m, f, ys, (hq.below hw).widen fun k hk => .inl hk⟩, fun w' qs' ⟨hf, a2, m2, f2, ys2, hq2⟩ => ⟨?_, fun k hk hk1 => hf.block k hk1 fun hor => ?_⟩⟩
  · have hbW := hb.size
    have hR1 := hR.mono' hw
    have hal : ∀ ad, a = some ad → ¬ (S ad.block ∨ w1.heap.size ≤ ad.block) := fun ad e hor => by
      obtain ⟨h1, h2⟩ := ha ad e
      rcases hor with h3 | h3
      · exact h2 h3
      · omega
    refine ⟨(Below.to hb hw).trans ⟨hf.os, hf.tape, hf.output, hf.size, fun k hk => hf.block k (by omega) fun hor => ?_⟩, hR1.far hf hal, _, ?_, ?_, a2, m2, f2, ys2, hq2.shrink⟩
    · rcases hor with h3 | h3
      · have := (hS k h3).1; omega
      · omega
    · intro k hk
      refine ⟨?_, hk.2⟩
      rcases hk.1 with h3 | h3
      · exact (hS k h3).1
      · omega
    · intro ad e
      exact ⟨Nat.lt_of_lt_of_le (ha ad e).1 (Nat.le_trans hws hf.size), fun hk => hal ad e hk.1⟩
  · rcases hor with h3 | h3
    · have := (hS k h3).2; omega
    · omega
theorem QX.queue {W w : World} {qb : Nat} {qs xs : List Int} {a : Option Addr} {n cap : Nat} (h : QX W w qb qs xs a n cap) :
    ∃ S : Nat → Prop, (∀ k, w.heap.size ≤ k → S k) ∧ (∃ a' m f ys, QS S w qb qs a' m f ys) ∧ ∀ w' qs', QP S w w' qb qs' → QX W w' qb qs' xs a n cap := by
  obtain ⟨S, h1, h2, h3⟩ := h.queueBox w (Below.refl _ _)
  exact ⟨S, h1, h2, fun w' qs' hp => (h3 w' qs' hp).1⟩

theorem QX.below {W w w' : World} {qb : Nat} {qs xs : List Int} {a : Option Addr} {n cap : Nat} (h : QX W w qb qs xs a n cap) (hb : Below w.heap.size w w') : QX W w' qb qs xs a n cap := by
  obtain ⟨h1, hR, S, hS, ha, a', m, f, ys, hq⟩ := h
  exact ⟨Below.to h1 hb, hR.mono' hb, S, fun k hk => ⟨(hS k hk).1, Nat.lt_of_lt_of_le (hS k hk).2 hb.size⟩, fun ad e => ⟨Nat.lt_of_lt_of_le (ha ad e).1 hb.size, (ha ad e).2⟩, a', m, f, ys, hq.below hb⟩
/-- Another slice, which is new. -/
theorem QX.fresh {W w w' : World} {qb g n' cap' : Nat} {qs xs xs' : List Int} {a : Option Addr} {n cap : Nat} (h : QX W w qb qs xs a n cap) (hb : Below w.heap.size w w') (hg : w.heap.size ≤ g) (hR' : Rd w'.heap.size w' (some ⟨g, 0, none⟩) n' cap' 1 (ints xs')) (hn' : 0 < n') : QX W w' qb qs xs' (some ⟨g, 0, none⟩) n' cap' := by
  obtain ⟨h1, hR, S, hS, ha, a', m, f, ys, hq⟩ := h
  refine ⟨Below.to h1 hb, hR', S, fun k hk => ⟨(hS k hk).1, Nat.lt_of_lt_of_le (hS k hk).2 hb.size⟩, fun ad e => ?_, a', m, f, ys, hq.below hb⟩
  cases e
  refine ⟨?_, fun hk => by have := (hS g hk).2; omega⟩
  rcases hR'.2.2.2 with h0 | ⟨b, o, e, hb', _⟩
  · omega
  · cases e; exact hb'
/-- The slice without its first. -/
theorem QX.tail {W w : World} {qb b o n cap : Nat} {qs xs : List Int} {x : Int} (h : QX W w qb qs (x :: xs) (some ⟨b, o, none⟩) (n + 1) cap) : QX W w qb qs xs (some ⟨b, o + 1, none⟩) n (cap - 1) := by
  obtain ⟨h1, ⟨r1, r2, r3, r4⟩, S, hS, ha, hq⟩ := h
  refine ⟨h1, ⟨by simp [ints] at r1 ⊢; omega, by omega, by omega, ?_⟩, S, hS, fun ad e => ?_, hq⟩
  · rcases r4 with r4 | ⟨b', o', e, hb, hc⟩
    · omega
    · cases e
      refine .inr ⟨b, o + 1, rfl, hb, fun j hj => ?_⟩
      have := hc (j + 1) (by simp [ints] at hj ⊢; omega)
      rw [show o + 1 + j = o + (j + 1) by omega, this]; rfl
  · cases e; exact ha ⟨b, o, none⟩ rfl

theorem push_qx {W w : World} {qb : Nat} {qs xs : List Int} {a : Option Addr} {n cap : Nat} (x : Int) (h : QX W w qb qs xs a n cap) (hn : qs.length ≤ 10000) :
    Calls Try.prog 18 #[.pointer (some ⟨qb, 0, none⟩), .int .i64 x] w fun e w' => e = .returned (.tuple #[]) ∧ QX W w' qb (qs ++ [x]) xs a n cap := by
  obtain ⟨S, hS, ⟨a', m, f, ys, hq⟩, hc⟩ := h.queue
  exact (qPush_any x hS hq hn).mono fun e w' ⟨he, hp⟩ => ⟨he, hc _ _ hp⟩
theorem back_qx {W w : World} {qb : Nat} {qs xs : List Int} {a : Option Addr} {n cap : Nat} (x : Int) (h : QX W w qb qs xs a n cap) (hn : qs.length ≤ 10000) :
    Calls Try.prog 17 #[.pointer (some ⟨qb, 0, none⟩), .int .i64 x] w fun e w' => e = .returned (.tuple #[]) ∧ QX W w' qb (x :: qs) xs a n cap := by
  obtain ⟨S, hS, ⟨a', m, f, ys, hq⟩, hc⟩ := h.queue
  exact (qBack_any x hS hq hn).mono fun e w' ⟨he, hp⟩ => ⟨he, hc _ _ hp⟩
theorem kept_box {w w' : World} {cs : Array Value} {t : TypeId} (h : ∀ k, w.heap.size ≤ k → k < (w.alloc (.cells cs t)).heap.size → w'.heap[k]? = (w.alloc (.cells cs t)).heap[k]?) (j : Nat) (v : Value) (hv : cs[j]? = some v) : w'.cell? ⟨w.heap.size, j, none⟩ = some v := by
  have hb : (w.alloc (.cells cs t)).heap[w.heap.size]? = some (.cells cs t) := (MapKept.heap_alloc w _).1
  have h1 := (h w.heap.size (Nat.le_refl _) (by simp)).trans hb
  simp only [World.cell?, h1]
  exact hv
theorem push_box {W w : World} {qb : Nat} {qs xs : List Int} {a : Option Addr} {n cap : Nat} {t : TypeId} (x y : Int) (h : QX W w qb qs xs a n cap) (hn : qs.length ≤ 10000) :
    Calls Try.prog 18 #[.pointer (some ⟨qb, 0, none⟩), .int .i64 x] (w.alloc (.cells #[.int .i64 y, .int .i64 x] t)) fun e w' => e = .returned (.tuple #[]) ∧ QX W w' qb (qs ++ [x]) xs a n cap ∧ w'.cell? ⟨w.heap.size, 1, none⟩ = some (.int .i64 x) := by
  obtain ⟨S, hS, ⟨a', m, f, ys, hq⟩, hc⟩ := h.queueBox _ (below_new w (.cells #[.int .i64 y, .int .i64 x] t))
  exact (qPush_any x hS hq hn).mono fun e w' ⟨he, hp⟩ => ⟨he, (hc _ _ hp).1, kept_box (hc _ _ hp).2 1 _ rfl⟩
theorem back_box {W w : World} {qb : Nat} {qs xs : List Int} {a : Option Addr} {n cap : Nat} {t : TypeId} (x y : Int) (h : QX W w qb qs xs a n cap) (hn : qs.length ≤ 10000) :
    Calls Try.prog 17 #[.pointer (some ⟨qb, 0, none⟩), .int .i64 x] (w.alloc (.cells #[.int .i64 y, .int .i64 x] t)) fun e w' => e = .returned (.tuple #[]) ∧ QX W w' qb (x :: qs) xs a n cap ∧ w'.cell? ⟨w.heap.size, 1, none⟩ = some (.int .i64 x) := by
  obtain ⟨S, hS, ⟨a', m, f, ys, hq⟩, hc⟩ := h.queueBox _ (below_new w (.cells #[.int .i64 y, .int .i64 x] t))
  exact (qBack_any x hS hq hn).mono fun e w' ⟨he, hp⟩ => ⟨he, (hc _ _ hp).1, kept_box (hc _ _ hp).2 1 _ rfl⟩
theorem pop_qx {W w : World} {qb : Nat} {qs xs : List Int} {a : Option Addr} {n cap : Nat} (x : Int) (h : QX W w qb (x :: qs) xs a n cap) (hn : qs.length ≤ 10000) :
    Calls Try.prog 19 #[.pointer (some ⟨qb, 0, none⟩)] w fun e w' => e = .returned (.tuple #[.int .i64 x, .bool true]) ∧ QX W w' qb qs xs a n cap := by
  obtain ⟨S, hS, ⟨a', m, f, ys, hq⟩, hc⟩ := h.queue
  exact (qPop_some x hq (by omega)).mono fun e w' ⟨he, hp⟩ => ⟨he, hc _ _ hp⟩
theorem pop0_qx {W w : World} {qb : Nat} {xs : List Int} {a : Option Addr} {n cap : Nat} (h : QX W w qb [] xs a n cap) :
    Calls Try.prog 19 #[.pointer (some ⟨qb, 0, none⟩)] w fun e w' => e = .returned (.tuple #[.int .i64 0, .bool false]) ∧ w = w' := by
  obtain ⟨S, hS, ⟨a', m, f, ys, hq⟩, hc⟩ := h.queue
  exact qPop_none hq
theorem turn_qx {W w : World} {qb : Nat} {qs xs : List Int} {a : Option Addr} {n cap : Nat} (x : Int) (h : QX W w qb (x :: qs) xs a n cap) (hn : qs.length ≤ 10000) :
    Calls Try.prog 22 #[.pointer (some ⟨qb, 0, none⟩)] w fun e w' => e = .returned (.bool true) ∧ QX W w' qb (qs ++ [x]) xs a n cap := by
  obtain ⟨S, hS, ⟨a', m, f, ys, hq⟩, hc⟩ := h.queue
  exact (qTurn_some x hS hq hn).mono fun e w' ⟨he, hp⟩ => ⟨he, hc _ _ hp⟩
theorem turn0_qx {W w : World} {qb : Nat} {xs : List Int} {a : Option Addr} {n cap : Nat} (h : QX W w qb [] xs a n cap) :
    Calls Try.prog 22 #[.pointer (some ⟨qb, 0, none⟩)] w fun e w' => e = .returned (.bool false) ∧ w = w' := by
  obtain ⟨S, hS, ⟨a', m, f, ys, hq⟩, hc⟩ := h.queue
  exact qTurn_none hq
theorem len_qx {W w : World} {qb : Nat} {qs xs : List Int} {a : Option Addr} {n cap : Nat} (h : QX W w qb qs xs a n cap) :
    Calls Try.prog 23 #[.pointer (some ⟨qb, 0, none⟩)] w fun e w' => e = .returned (.int .i64 qs.length) ∧ w = w' := by
  obtain ⟨S, hS, ⟨a', m, f, ys, hq⟩, hc⟩ := h.queue
  exact qLen_any _ _ _ hq.2.2.2.2.1
theorem all_qx {W w : World} {qb : Nat} {qs xs : List Int} {a : Option Addr} {n cap : Nat} (most : Int) (h : QX W w qb qs xs a n cap) (hn : qs.length ≤ 10000) :
    Calls Try.prog 20 #[.pointer (some ⟨qb, 0, none⟩), .int .i64 most] w fun e w' => (∃ a n cap, e = .returned (.slice a n cap) ∧ Hid (Rd w'.heap.size w' a n cap 1 (ints (qs.take most.toNat)))) ∧ QX W w' qb qs xs a n cap := by
  obtain ⟨S, hS, ⟨a', m, f, ys, hq⟩, hc⟩ := h.queue
  exact (lawAll_any most hq hn).mono fun e w' ⟨hb, a, n, cap, he, hr⟩ => ⟨⟨a, n, cap, he, hr⟩, h.below hb⟩
theorem ints_one (l : List Int) : ∀ u ∈ ints l, u.oneCell' = true := by
  intro u hu
  obtain ⟨x, _, rfl⟩ := List.mem_map.1 hu
  rfl
theorem rd_one (w : World) (x : Int) (t : TypeId) : Rd (w.heap.size + 1) (w.alloc (.cells #[.int .i64 x] t)) (some ⟨w.heap.size, 0, none⟩) 1 1 1 (ints [x]) := by
  have h := rd_new w #[.int .i64 x] t 1 1 rfl (by decide)
  exact h
/-- 'append([]int{x}, xs...)'. -/
theorem back_copy {W w : World} {qb n cap : Nat} {a : Option Addr} {x : Int} {qs xs : List Int} (h : QX W w qb qs xs a n cap) (hn : n ≤ 1000) :
    ∃ g cap' w', (Builtin.append_ #[22, 22] 22 #[.slice (some ⟨w.heap.size, 0, none⟩) 1 1, .slice a n cap]).run Try.prog (w.alloc (.cells #[.int .i64 x] 3)) = .ok (.slice (some ⟨g, 0, none⟩) (1 + n) cap') w' ∧ QX W w' qb qs (x :: xs) (some ⟨g, 0, none⟩) (1 + n) cap' := by
  obtain ⟨i0, hi, hz0, hz1, hz2⟩ := info_parts info_int
  have hb := below_new w (.cells #[.int .i64 x] 3)
  have hr1 := rd_one w x 3
  cases n with
  | zero =>
    have hl : xs = [] := List.eq_nil_of_length_eq_zero h.toR.intLen
    subst hl
    exact ⟨w.heap.size, 1, _, run_append_none _ Try.underlying22 hi (Nat.le_refl _), h.fresh hb (Nat.le_refl _) (by rw [World.size_alloc]; exact hr1) (by decide)⟩
  | succ n =>
    obtain ⟨g, cap', w', hr, h2, h3, h4⟩ := run_append_copy (P := Try.prog) (w := w.alloc (.cells #[.int .i64 x] 3)) 22 Try.underlying22 hi hz0 hz1 hz2 rfl hr1 rfl (h.toR.mono' hb) (ints_one xs) (by omega) (by omega) (by omega)
    exact ⟨g, cap', w', hr, h.fresh (Below.to hb h3) (Nat.le_trans hb.size h2) h4 (by omega)⟩
/-- 'append(xs[:len(xs):len(xs)], x)', in a world that has drawn. -/
theorem full_copy {W w wx : World} {qb n : Nat} {a : Option Addr} {x : Int} {qs xs : List Int} (h : QX W w qb qs xs a n n) (hd : Dr (w.alloc (.cells #[.int .i64 x] 3)) wx) (hn : n ≤ 1000) :
    ∃ v w', (Builtin.append_ #[22, 22] 22 #[.slice a n n, .slice (some ⟨w.heap.size, 0, none⟩) 1 1]).run Try.prog wx = .ok v w' ∧ ∃ g cap', v = .slice (some ⟨g, 0, none⟩) (n + 1) cap' ∧ QX W w' qb qs (xs ++ [x]) (some ⟨g, 0, none⟩) (n + 1) cap' ∧ Below w.heap.size w w' := by
  obtain ⟨i0, hi, hz0, hz1, hz2⟩ := info_parts info_int
  have hx := hd.below (Below.refl (w.heap.size + 1) _)
  have hb : Below w.heap.size w wx := hd.below (below_new w _)
  have hr1 := (rd_one w x 3).mono hx
  obtain ⟨g, cap', w', hr, h2, h3, h4⟩ := run_append_copy (P := Try.prog) (w := wx) 22 Try.underlying22 hi hz0 hz1 hz2 rfl (h.toR.mono' hb) rfl hr1 (ints_one [x]) (by omega) (by omega) (by omega)
  rw [show ints xs ++ ints [x] = ints (xs ++ [x]) by simp [ints]] at h4
  exact ⟨_, w', hr, g, cap', rfl, h.fresh (Below.to hb h3) (Nat.le_trans hb.size h2) h4 (by omega), Below.to hb h3⟩
theorem QX.full {W w : World} {qb : Nat} {qs xs : List Int} {a : Option Addr} {n cap : Nat} (h : QX W w qb qs xs a n cap) : QX W w qb qs xs a n n := by
  obtain ⟨h1, ⟨r1, r2, r3, r4⟩, h3⟩ := h
  exact ⟨h1, ⟨r1, Nat.le_refl _, by omega, r4⟩, h3⟩
theorem QX.empty {W w : World} {qb : Nat} {qs xs : List Int} {a : Option Addr} {n cap : Nat} (h : QX W w qb qs xs a n cap) : QX W w qb qs [] a 0 0 := ⟨h.1, ⟨rfl, Nat.le_refl _, by decide, .inl rfl⟩, h.2.2⟩
theorem QX.drew {W w wx : World} {qb : Nat} {qs xs : List Int} {a : Option Addr} {n cap : Nat} (h : QX W w qb qs xs a n cap) (hd : Dr w wx) : QX W wx qb qs xs a n cap := h.below (hd.below (Below.refl _ _))
theorem of_qx {B n cap : Nat} {a : Option Addr} {l : List Int} {W w : World} (hb : Below W.heap.size W w) (h : Rd B w a n cap 1 (ints l)) (hB : B ≤ w.heap.size) (hn : n ≤ 10000) :
    Calls Try.prog 16 #[.slice a n cap] w fun e w' => e = .returned (.pointer (some ⟨w.heap.size, 0, none⟩)) ∧ QX W w' w.heap.size l [] none 0 0 :=
  (of_st hb h hB hn).mono fun e w' ⟨he, hq⟩ => by
    obtain ⟨h1, h2, a, m, f, ys, hq⟩ := hq
    exact ⟨he, h1, ⟨rfl, Nat.le_refl _, by decide, .inl rfl⟩, _, fun k hk => hk, (fun ad e => by cases e), a, m, f, ys, hq.shrink⟩
end Go.Proofs.Ytemkpecagflafaa
