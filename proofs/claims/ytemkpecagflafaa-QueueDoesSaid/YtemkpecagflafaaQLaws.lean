/-
  What a queue is behind each of its deeds, as one running fact; the walk of the law's own check. No condition but sizes.
-/
import Derived.Test.YtemkpecagflafaaQAll
namespace Go.Proofs.Ytemkpecagflafaa
open Go.RowKit

/-- Behind all that was done: what lay below B lies as it lay, and the queue holds this. -/
def QB (B : Nat) (W w : World) (qb : Nat) (xs : List Int) : Prop := Below B W w ∧ B ≤ w.heap.size ∧ ∃ a m f ys, QS (fun k => B ≤ k) w qb xs a m f ys
theorem QB.size {B : Nat} {W w : World} {qb : Nat} {xs : List Int} (h : QB B W w qb xs) : B ≤ w.heap.size := h.2.1
theorem QB.step {B : Nat} {W w w' : World} {qb : Nat} {xs ys : List Int} (h : QB B W w qb xs) (h' : QP (fun k => B ≤ k) w w' qb ys) : QB B W w' qb ys :=
  ⟨h.1.trans (h'.1.toB h.size), Nat.le_trans h.size h'.1.size, h'.2⟩
theorem QB.below {B : Nat} {W w w' : World} {qb : Nat} {xs : List Int} (h : QB B W w qb xs) (hb : Below w.heap.size w w') : QB B W w' qb xs := by
  obtain ⟨h1, hs, a, m, f, ys, h2⟩ := h
  exact ⟨h1.trans (hb.mono hs), Nat.le_trans hs hb.size, a, m, f, ys, h2.below hb⟩

theorem of_st {B n cap : Nat} {a : Option Addr} {l : List Int} {W w : World} (hb : Below W.heap.size W w) (h : Rd B w a n cap 1 (ints l)) (hB : B ≤ w.heap.size) (hn : n ≤ 10000) :
    Calls Try.prog 16 #[.slice a n cap] w fun e w' => e = .returned (.pointer (some ⟨w.heap.size, 0, none⟩)) ∧ QB W.heap.size W w' w.heap.size l :=
  (qOf_any w h hB hn).mono fun e w' ⟨he, hq⟩ => by
    obtain ⟨h1, a, m, f, ys, h2⟩ := hq
    have hs := hb.size
    refine ⟨he, hb.trans ((h1.toB (Nat.le_refl _)).mono hs), Nat.le_trans hs h1.size, a, m, f, ys, ?_⟩
    obtain ⟨g1, g2, g3, g4, g5, g6, g7, g8, g9, g10, g11, g12⟩ := h2
    refine ⟨Nat.le_trans hs g1, g2, g3, g4, g5, g6, g7, g8, g9, g10, fun h0 => ?_, g12⟩
    obtain ⟨k1, lb, k2, k3, k4⟩ := g11 h0
    exact ⟨k1, lb, k2, Nat.le_trans hs k3, k4⟩
theorem push_st {B qb : Nat} {xs : List Int} {W w : World} (x : Int) (h : QB B W w qb xs) (hn : xs.length ≤ 10000) :
    Calls Try.prog 18 #[.pointer (some ⟨qb, 0, none⟩), .int .i64 x] w fun e w' => e = .returned (.tuple #[]) ∧ QB B W w' qb (xs ++ [x]) := by
  obtain ⟨a, m, f, ys, h2⟩ := h.2.2
  exact (qPush_any x (fun k hk => Nat.le_trans h.size hk) h2 hn).mono fun e w' ⟨he, hq⟩ => ⟨he, h.step hq⟩
theorem back_st {B qb : Nat} {xs : List Int} {W w : World} (x : Int) (h : QB B W w qb xs) (hn : xs.length ≤ 10000) :
    Calls Try.prog 17 #[.pointer (some ⟨qb, 0, none⟩), .int .i64 x] w fun e w' => e = .returned (.tuple #[]) ∧ QB B W w' qb (x :: xs) := by
  obtain ⟨a, m, f, ys, h2⟩ := h.2.2
  exact (qBack_any x (fun k hk => Nat.le_trans h.size hk) h2 hn).mono fun e w' ⟨he, hq⟩ => ⟨he, h.step hq⟩
theorem pop_st {B qb : Nat} {xs : List Int} {W w : World} (x : Int) (h : QB B W w qb (x :: xs)) (hn : xs.length ≤ 10000) :
    Calls Try.prog 19 #[.pointer (some ⟨qb, 0, none⟩)] w fun e w' => e = .returned (.tuple #[.int .i64 x, .bool true]) ∧ QB B W w' qb xs := by
  obtain ⟨a, m, f, ys, h2⟩ := h.2.2
  exact (qPop_some x h2 (by omega)).mono fun e w' ⟨he, hq⟩ => ⟨he, h.step hq⟩
theorem pop0_st {B qb : Nat} {W w : World} (h : QB B W w qb []) :
    Calls Try.prog 19 #[.pointer (some ⟨qb, 0, none⟩)] w fun e w' => e = .returned (.tuple #[.int .i64 0, .bool false]) ∧ QB B W w' qb [] := by
  obtain ⟨a, m, f, ys, h2⟩ := h.2.2
  exact (qPop_none h2).mono fun e w' ⟨he, hq⟩ => ⟨he, hq ▸ h⟩
theorem turn_st {B qb : Nat} {xs : List Int} {W w : World} (x : Int) (h : QB B W w qb (x :: xs)) (hn : xs.length ≤ 10000) :
    Calls Try.prog 22 #[.pointer (some ⟨qb, 0, none⟩)] w fun e w' => e = .returned (.bool true) ∧ QB B W w' qb (xs ++ [x]) := by
  obtain ⟨a, m, f, ys, h2⟩ := h.2.2
  exact (qTurn_some x (fun k hk => Nat.le_trans h.size hk) h2 hn).mono fun e w' ⟨he, hq⟩ => ⟨he, h.step hq⟩
theorem turn0_st {B qb : Nat} {W w : World} (h : QB B W w qb []) :
    Calls Try.prog 22 #[.pointer (some ⟨qb, 0, none⟩)] w fun e w' => e = .returned (.bool false) ∧ QB B W w' qb [] := by
  obtain ⟨a, m, f, ys, h2⟩ := h.2.2
  exact (qTurn_none h2).mono fun e w' ⟨he, hq⟩ => ⟨he, hq ▸ h⟩
theorem len_st {B qb : Nat} {xs : List Int} {W w : World} (h : QB B W w qb xs) :
    Calls Try.prog 23 #[.pointer (some ⟨qb, 0, none⟩)] w fun e w' => e = .returned (.int .i64 xs.length) ∧ w = w' := by
  obtain ⟨a, m, f, ys, h2⟩ := h.2.2
  exact qLen_any _ _ _ h2.2.2.2.2.1
theorem all_st {B qb : Nat} {xs : List Int} {W w : World} (most : Int) (h : QB B W w qb xs) (hn : xs.length ≤ 10000) :
    Calls Try.prog 20 #[.pointer (some ⟨qb, 0, none⟩), .int .i64 most] w fun e w' => (∃ a n cap, e = .returned (.slice a n cap) ∧ Hid (Rd w'.heap.size w' a n cap 1 (ints (xs.take most.toNat))) ∧ n = (xs.take most.toNat).length) ∧ QB B W w' qb xs := by
  obtain ⟨a, m, f, ys, h2⟩ := h.2.2
  exact (lawAll_any most h2 hn).mono fun e w' ⟨hb, a, n, cap, he, hr⟩ => ⟨⟨a, n, cap, he, hr, hr.intLen.symm⟩, h.below hb⟩

theorem rd_nil (w : World) : Rd 0 w none 0 0 1 (ints []) := ⟨rfl, Nat.le_refl _, by decide, .inl rfl⟩

theorem awake27_any (w : World) :
    Calls Try.prog 15 #[] w fun e w' => e = .returned (.bool true) ∧ Below w.heap.size w w' := by
  have HB := Lib.hid (Below.refl w.heap.size w)
  go_enter Try.func15, Try.ntmps15
  go_wp2_with (first | (go_at_call 16; refine (of_st HB.out (rd_nil w) (Nat.zero_le _) (by decide)).mono ?_; (rintro e w1 ⟨rfl, hq⟩; have HQ := Lib.hid hq; clear hq)) | (go_at_call 18; refine (push_st _ HQ.out (by simp)).mono ?_; (rintro e w2 ⟨rfl, hq⟩; replace HQ := Lib.hid hq; clear hq)) | (go_at_call 19; refine (pop_st 1 HQ.out (by simp)).mono ?_; (rintro e w2 ⟨rfl, hq⟩; replace HQ := Lib.hid hq; clear hq)) | (go_at_call 23; refine (len_st HQ.out).mono ?_; (rintro e w' ⟨rfl, rfl⟩)))
  go_ret
  exact ⟨rfl, HQ.out.1⟩
end Go.Proofs.Ytemkpecagflafaa
