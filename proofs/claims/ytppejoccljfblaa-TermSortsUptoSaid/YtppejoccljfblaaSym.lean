/-
  Plain laws of slices.SortStableFunc's parts: a rotation, and a merge in place (SymMerge). No program. No condition.
-/
import Derived.Test.YtppejoccljfblaaRows
import Derived.Sort.LotA
import Derived.Sort.Lot0
namespace Go.Proofs.Ytppejoccljfblaa
open Go.Sort
section
variable {α : Type} [Inhabited α]

/-- Two stretches of n elements, from a on and from b on, in one another's place. -/
def xch (f : Nat → α) (a b n k : Nat) : α := if a ≤ k ∧ k < a + n then f (k + (b - a)) else if b ≤ k ∧ k < b + n then f (k - (b - a)) else f k
/-- What lies from m to b stands ahead of what lies from a to m. -/
def rot (f : Nat → α) (a m b k : Nat) : α := if k < a ∨ b ≤ k then f k else if k < a + (b - m) then f (k + (m - a)) else f (k - (b - m))
omit [Inhabited α] in
theorem xch_zero (f : Nat → α) (a b k : Nat) : xch f a b 0 k = f k := by
  unfold xch; rw [if_neg (by omega), if_neg (by omega)]
theorem xch_step {d dk : Array α} {a b i : Nat} (hk : ∀ k, dk[k]! = xch (fun k => d[k]!) a b i k) (hs : dk.size = d.size) (hab : a + (i + 1) ≤ b) (hb : b + (i + 1) ≤ d.size) (k : Nat) :
    (swp dk (a + i) (b + i))[k]! = xch (fun k => d[k]!) a b (i + 1) k := by
  have e := swp_get dk (i := a + i) (j := b + i) (by omega) (by omega) k
  simp only [hk] at e
  rw [e]
  simp only [xch]
  repeat' split
  all_goals first | rfl | (exfalso; omega) | (congr 1; omega)
omit [Inhabited α] in
theorem rot_left {f g : Nat → α} {m i j : Nat} (hi : j < i) (him : i ≤ m) (hg : ∀ k, g k = xch f (m - i) m j k) (k : Nat) : rot g (m - (i - j)) m (m + j) k = rot f (m - i) m (m + j) k := by
  simp only [rot, hg, xch]
  repeat' split
  all_goals first | rfl | (exfalso; omega) | (congr 1; omega)
omit [Inhabited α] in
theorem rot_right {f g : Nat → α} {m i j : Nat} (hi : i < j) (him : i ≤ m) (hg : ∀ k, g k = xch f (m - i) (m + j - i) i k) (k : Nat) : rot g (m - i) m (m + (j - i)) k = rot f (m - i) m (m + j) k := by
  simp only [rot, hg, xch]
  repeat' split
  all_goals first | rfl | (exfalso; omega) | (congr 1; omega)
omit [Inhabited α] in
theorem rot_same {f g : Nat → α} {m i : Nat} (him : i ≤ m) (hg : ∀ k, g k = xch f (m - i) m i k) (k : Nat) : g k = rot f (m - i) m (m + i) k := by
  simp only [hg, rot, xch]
  repeat' split
  all_goals first | rfl | (exfalso; omega) | (congr 1; omega)
omit [Inhabited α] in
theorem rot_end (f : Nat → α) {a m : Nat} (h : a ≤ m) (k : Nat) : rot f a m m k = f k := by
  simp only [rot]
  repeat' split
  all_goals first | rfl | (exfalso; omega) | (congr 1; omega)
omit [Inhabited α] in
theorem rot_start (f : Nat → α) {m b : Nat} (h : m ≤ b) (k : Nat) : rot f m m b k = f k := by
  simp only [rot]
  repeat' split
  all_goals first | rfl | (exfalso; omega) | (congr 1; omega)

variable {lt : α → α → Bool}
omit [Inhabited α] in
theorem le_lt (hS : SWO lt) {x y z : α} (h1 : lt y x = false) (h2 : lt y z = true) : lt x z = true := by
  cases h : lt x z with
  | true => rfl
  | false => have := hS.ntrans _ _ _ h1 h; rw [h2] at this; cases this
omit [Inhabited α] in
theorem lt_le (hS : SWO lt) {x y z : α} (h1 : lt x y = true) (h2 : lt z y = false) : lt x z = true := by
  cases h : lt x z with
  | true => rfl
  | false => have := hS.ntrans _ _ _ h h2; rw [h1] at this; cases this
theorem SortedIn.le (hS : SWO lt) {a b i j : Nat} {d : Array α} (h : SortedIn lt a b d) (hi : a ≤ i) (hij : i ≤ j) (hj : j < b) : lt d[j]! d[i]! = false := by
  rcases Nat.lt_or_eq_of_le hij with h1 | rfl
  · exact h i j hi h1 hj
  · exact hS.irrefl _

/-- The merge's last step: both halves sorted by themselves. -/
theorem sym_join (hS : SWO lt) {d d1 d2 d3 : Array α} {a m b st en mid : Nat} (hb : b ≤ d.size) (h1 : SortedIn lt a m d) (h2 : SortedIn lt m b d) (ha : a ≤ st) (hst : st ≤ m) (hen : m ≤ en) (heb : en ≤ b) (hn : st + en = mid + m) (ham : a ≤ mid) (hmb : mid ≤ b)
    (hx : ∀ i j, a ≤ i → i < st → en ≤ j → j < b → lt d[j]! d[i]! = false) (hy : ∀ i j, m ≤ i → i < en → st ≤ j → j < m → lt d[j]! d[i]! = false)
    (hP1 : PermIn a b d d1) (hr : ∀ k, d1[k]! = rot (fun k => d[k]!) st m en k)
    (hP2 : PermIn a mid d1 d2) (hs2 : SortedIn lt a mid d2) (hP3 : PermIn mid b d2 d3) (hs3 : SortedIn lt mid b d3) : PermIn a b d d3 ∧ SortedIn lt a b d3 := by
  have hz1 : d1.size = d.size := hP1.1
  have hz2 : d2.size = d1.size := hP2.1
  have hP2' : PermIn a b d1 d2 := permIn_mono d1 d2 a mid a b (Nat.le_refl _) hmb (by omega) hP2
  have hP3' : PermIn a b d2 d3 := permIn_mono d2 d3 mid b a b ham (Nat.le_refl _) (by omega) hP3
  refine ⟨permIn_trans _ _ _ _ _ hP1 (permIn_trans _ _ _ _ _ hP2' hP3'), ?_⟩
  have cross1 : ∀ i j, a ≤ i → i < mid → mid ≤ j → j < b → lt d1[j]! d1[i]! = false := fun i j hi hi2 hj hj2 => by
    rw [hr, hr]; unfold rot
    by_cases c1 : i < st
    · rw [if_pos (c := i < st ∨ en ≤ i) (by omega)]
      by_cases c2 : en ≤ j
      · rw [if_pos (c := j < st ∨ en ≤ j) (by omega)]; exact hx i j hi c1 c2 hj2
      · rw [if_neg (by omega), if_neg (by omega)]
        exact h1 i (j - (en - m)) hi (by omega) (by omega)
    · rw [if_neg (c := i < st ∨ en ≤ i) (by omega), if_pos (c := i < st + (en - m)) (by omega)]
      by_cases c2 : en ≤ j
      · rw [if_pos (c := j < st ∨ en ≤ j) (by omega)]; exact h2 _ j (by omega) (by omega) hj2
      · rw [if_neg (by omega), if_neg (by omega)]
        exact hy _ _ (by omega) (by omega) (by omega) (by omega)
  have cross2 : ∀ i j, a ≤ i → i < mid → mid ≤ j → j < b → lt d2[j]! d2[i]! = false := fun i j hi hi2 hj hj2 => by
    rw [hP2.2.1 j (.inr hj)]
    exact permIn_all d1 d2 a mid (fun x => lt d1[j]! x = false) (by omega) hP2 (fun i hi hi2 => cross1 i j hi hi2 hj hj2) i hi hi2
  have cross3 : ∀ i j, a ≤ i → i < mid → mid ≤ j → j < b → lt d3[j]! d3[i]! = false := fun i j hi hi2 hj hj2 => by
    rw [hP3.2.1 i (.inl hi2)]
    exact permIn_all d2 d3 mid b (fun x => lt x d2[i]! = false) (by omega) hP3 (fun j hj hj2 => cross2 i j hi hi2 hj hj2) j hj hj2
  intro i j hi hij hj
  by_cases c1 : i < mid
  · by_cases c2 : j < mid
    · rw [hP3.2.1 i (.inl c1), hP3.2.1 j (.inl c2)]; exact hs2 i j hi hij c2
    · exact cross3 i j hi c1 (by omega) hj
  · exact hs3 i j (by omega) hij hj
/-- The halves are each made of two sorted stretches. -/
theorem sym_halves {d d1 : Array α} {a m b st en mid : Nat} (h1 : SortedIn lt a m d) (h2 : SortedIn lt m b d) (ha : a ≤ st) (hst : st ≤ m) (hen : m ≤ en) (heb : en ≤ b) (hn : st + en = mid + m) (hr : ∀ k, d1[k]! = rot (fun k => d[k]!) st m en k) :
    SortedIn lt a st d1 ∧ SortedIn lt st mid d1 ∧ SortedIn lt mid en d1 ∧ SortedIn lt en b d1 := by
  refine ⟨fun i j hi hij hj => ?_, fun i j hi hij hj => ?_, fun i j hi hij hj => ?_, fun i j hi hij hj => ?_⟩
  · rw [hr, hr]; unfold rot; rw [if_pos (by omega), if_pos (by omega)]; exact h1 i j hi hij (by omega)
  · rw [hr, hr]; unfold rot; rw [if_neg (by omega), if_neg (c := i < st ∨ en ≤ i) (by omega), if_pos (by omega), if_pos (by omega)]; exact h2 _ _ (by omega) (by omega) (by omega)
  · rw [hr, hr]; unfold rot; rw [if_neg (by omega), if_neg (c := i < st ∨ en ≤ i) (by omega), if_neg (by omega), if_neg (by omega)]; exact h1 _ _ (by omega) (by omega) (by omega)
  · rw [hr, hr]; unfold rot; rw [if_pos (by omega), if_pos (by omega)]; exact h2 i j (by omega) hij hj
end
end Go.Proofs.Ytppejoccljfblaa
