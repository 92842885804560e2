/-
  Plain laws of slices.SortStableFunc's parts: a rotation, and a merge in place (SymMerge). No program. No condition.
-/
import Derived.Test.YtppejoccljfblaaRows
import Derived.Sort.LotA
import Derived.Sort.Lot0
namespace Go.Proofs.Ytppejoccljfblaa
open Go.Sort
section
variable {α : Type} [Inhabited α]

/-- Two stretches of n elements, from a on and from b on, in one another's place. -/
def xch (f : Nat → α) (a b n k : Nat) : α := if a ≤ k ∧ k < a + n then f (k + (b - a)) else if b ≤ k ∧ k < b + n then f (k - (b - a)) else f k
/-- What lies from m to b stands ahead of what lies from a to m. -/
def rot (f : Nat → α) (a m b k : Nat) : α := if k < a ∨ b ≤ k then f k else if k < a + (b - m) then f (k + (m - a)) else f (k - (b - m))
omit [Inhabited α] in
theorem xch_zero (f : Nat → α) (a b k : Nat) : xch f a b 0 k = f k := by
  unfold xch; rw [if_neg (by omega), if_neg (by omega)]
theorem xch_step {d dk : Array α} {a b i : Nat} (hk : ∀ k, dk[k]! = xch (fun k => d[k]!) a b i k) (hs : dk.size = d.size) (hab : a + (i + 1) ≤ b) (hb : b + (i + 1) ≤ d.size) (k : Nat) :
    (swp dk (a + i) (b + i))[k]! = xch (fun k => d[k]!) a b (i + 1) k := by
  have e := swp_get dk (i := a + i) (j := b + i) (by omega) (by omega) k
  simp only [hk] at e
  rw [e]
  simp only [xch]
  repeat' split
  all_goals first | rfl | (exfalso; omega) | (congr 1; omega)
omit [Inhabited α] in
theorem rot_left {f g : Nat → α} {m i j : Nat} (hi : j < i) (him : i ≤ m) (hg : ∀ k, g k = xch f (m - i) m j k) (k : Nat) : rot g (m - (i - j)) m (m + j) k = rot f (m - i) m (m + j) k := by
  simp only [rot, hg, xch]
  repeat' split
  all_goals first | rfl | (exfalso; omega) | (congr 1; omega)
omit [Inhabited α] in
theorem rot_right {f g : Nat → α} {m i j : Nat} (hi : i < j) (him : i ≤ m) (hg : ∀ k, g k = xch f (m - i) (m + j - i) i k) (k : Nat) : rot g (m - i) m (m + (j - i)) k = rot f (m - i) m (m + j) k := by
  simp only [rot, hg, xch]
  repeat' split
  all_goals first | rfl | (exfalso; omega) | (congr 1; omega)
omit [Inhabited α] in
theorem rot_same {f g : Nat → α} {m i : Nat} (him : i ≤ m) (hg : ∀ k, g k = xch f (m - i) m i k) (k : Nat) : g k = rot f (m - i) m (m + i) k := by
  simp only [hg, rot, xch]
  repeat' split
  all_goals first | rfl | (exfalso; omega) | (congr 1; omega)
omit [Inhabited α] in
theorem rot_end (f : Nat → α) {a m : Nat} (h : a ≤ m) (k : Nat) : rot f a m m k = f k := by
  simp only [rot]
  repeat' split
  all_goals first | rfl | (exfalso; omega) | (congr 1; omega)
omit [Inhabited α] in
theorem rot_start (f : Nat → α) {m b : Nat} (h : m ≤ b) (k : Nat) : rot f m m b k = f k := by
  simp only [rot]
  repeat' split
  all_goals first | rfl | (exfalso; omega) | (congr 1; omega)

variable {lt : α → α → Bool}
omit [Inhabited α] in
theorem le_lt (hS : SWO lt) {x y z : α} (h1 : lt y x = false) (h2 : lt y z = true) : lt x z = true := by
  cases h : lt x z with
  | true => rfl
  | false => have := hS.ntrans _ _ _ h1 h; rw [h2] at this; cases this
omit [Inhabited α] in
theorem lt_le (hS : SWO lt) {x y z : α} (h1 : lt x y = true) (h2 : lt z y = false) : lt x z = true := by
  cases h : lt x z with
  | true => rfl
  | false => have := hS.ntrans _ _ _ h h2; rw [h1] at this; cases this
theorem SortedIn.le (hS : SWO lt) {a b i j : Nat} {d : Array α} (h : SortedIn lt a b d) (hi : a ≤ i) (hij : i ≤ j) (hj : j < b) : lt d[j]! d[i]! = false := by
  rcases Nat.lt_or_eq_of_le hij with h1 | rfl
  · exact h i j hi h1 hj
  · exact hS.irrefl _

/-- The merge's last step: both halves sorted by themselves. -/
theorem sym_join (hS : SWO lt) {d d1 d2 d3 : Array α} {a m b st en mid : Nat} (hb : b ≤ d.size) (h1 : SortedIn lt a m d) (h2 : SortedIn lt m b d) (ha : a ≤ st) (hst : st ≤ m) (hen : m ≤ en) (heb : en ≤ b) (hn : st + en = mid + m) (ham : a ≤ mid) (hmb : mid ≤ b)
    (hx : ∀ i j, a ≤ i → i < st → en ≤ j → j < b → lt d[j]! d[i]! = false) (hy : ∀ i j, m ≤ i → i < en → st ≤ j → j < m → lt d[j]! d[i]! = false)
    (hP1 : PermIn a b d d1) (hr : ∀ k, d1[k]! = rot (fun k => d[k]!) st m en k)
    (hP2 : PermIn a mid d1 d2) (hs2 : SortedIn lt a mid d2) (hP3 : PermIn mid b d2 d3) (hs3 : SortedIn lt mid b d3) : PermIn a b d d3 ∧ SortedIn lt a b d3 := by
  have hz1 : d1.size = d.size := hP1.1
  have hz2 : d2.size = d1.size := hP2.1
  have hP2' : PermIn a b d1 d2 := permIn_mono d1 d2 a mid a b (Nat.le_refl _) hmb (by omega) hP2
  have hP3' : PermIn a b d2 d3 := permIn_mono d2 d3 mid b a b ham (Nat.le_refl _) (by omega) hP3
  refine ⟨permIn_trans _ _ _ _ _ hP1 (permIn_trans _ _ _ _ _ hP2' hP3'), ?_⟩
  have cross1 : ∀ i j, a ≤ i → i < mid → mid ≤ j → j < b → lt d1[j]! d1[i]! = false := fun i j hi hi2 hj hj2 => by
    rw [hr, hr]; unfold rot
    by_cases c1 : i < st
    · rw [if_pos (c := i < st ∨ en ≤ i) (by omega)]
      by_cases c2 : en ≤ j
      · rw [if_pos (c := j < st ∨ en ≤ j) (by omega)]; exact hx i j hi c1 c2 hj2
      · rw [if_neg (by omega), if_neg (by omega)]
        exact h1 i (j - (en - m)) hi (by omega) (by omega)
    · rw [if_neg (c := i < st ∨ en ≤ i) (by omega), if_pos (c := i < st + (en - m)) (by omega)]
      by_cases c2 : en ≤ j
      · rw [if_pos (c := j < st ∨ en ≤ j) (by omega)]; exact h2 _ j (by omega) (by omega) hj2
      · rw [if_neg (by omega), if_neg (by omega)]
        exact hy _ _ (by omega) (by omega) (by omega) (by omega)
  have cross2 : ∀ i j, a ≤ i → i < mid → mid ≤ j → j < b → lt d2[j]! d2[i]! = false := fun i j hi hi2 hj hj2 => by
    rw [hP2.2.1 j (.inr hj)]
    exact permIn_all d1 d2 a mid (fun x => lt d1[j]! x = false) (by omega) hP2 (fun i hi hi2 => cross1 i j hi hi2 hj hj2) i hi hi2
  have cross3 : ∀ i j, a ≤ i → i < mid → mid ≤ j → j < b → lt d3[j]! d3[i]! = false := fun i j hi hi2 hj hj2 => by
    rw [hP3.2.1 i (.inl hi2)]
    exact permIn_all d2 d3 mid b (fun x => lt x d2[i]! = false) (by omega) hP3 (fun j hj hj2 => cross2 i j hi hi2 hj hj2) j hj hj2
  intro i j hi hij hj
  by_cases c1 : i < mid
  · by_cases c2 : j < mid
    · rw [hP3.2.1 i (.inl c1), hP3.2.1 j (.inl c2)]; exact hs2 i j hi hij c2
    · exact cross3 i j hi c1 (by omega) hj
  · exact hs3 i j (by omega) hij hj
/-- The halves are each made of two sorted stretches. -/
theorem sym_halves {d d1 : Array α} {a m b st en mid : Nat} (h1 : SortedIn lt a m d) (h2 : SortedIn lt m b d) (ha : a ≤ st) (hst : st ≤ m) (hen : m ≤ en) (heb : en ≤ b) (hn : st + en = mid + m) (hr : ∀ k, d1[k]! = rot (fun k => d[k]!) st m en k) :
    SortedIn lt a st d1 ∧ SortedIn lt st mid d1 ∧ SortedIn lt mid en d1 ∧ SortedIn lt en b d1 := by
  refine ⟨fun i j hi hij hj => ?_, fun i j hi hij hj => ?_, fun i j hi hij hj => ?_, fun i j hi hij hj => ?_⟩
  · rw [hr, hr]; unfold rot; rw [if_pos (by omega), if_pos (by omega)]; exact h1 i j hi hij (by omega)
  · rw [hr, hr]; unfold rot; rw [if_neg (by omega), if_neg (c := i < st ∨ en ≤ i) (by omega), if_pos (by omega), if_pos (by omega)]; exact h2 _ _ (by omega) (by omega) (by omega)
  · rw [hr, hr]; unfold rot; rw [if_neg (by omega), if_neg (c := i < st ∨ en ≤ i) (by omega), if_neg (by omega), if_neg (by omega)]; exact h1 _ _ (by omega) (by omega) (by omega)
  · rw [hr, hr]; unfold rot; rw [if_pos (by omega), if_pos (by omega)]; exact h2 i j (by omega) hij hj
end
end Go.Proofs.Ytppejoccljfblaa

/-
  Plain laws of the merge in place: its three ways. No program. No condition.
-/
namespace Go.Proofs.Ytppejoccljfblaa
open Go.Sort
section
variable {α : Type} [Inhabited α] {lt : α → α → Bool}
theorem rot_one {d dk : Array α} {a k : Nat} (hk : ∀ x, dk[x]! = rot (fun x => d[x]!) a (a + 1) (k + 1) x) (hs : dk.size = d.size) (hak : a ≤ k) (hb : k + 1 < d.size) (x : Nat) :
    (swp dk k (k + 1))[x]! = rot (fun x => d[x]!) a (a + 1) (k + 1 + 1) x := by
  have e := swp_get dk (i := k) (j := k + 1) (by omega) (by omega) x
  simp only [hk] at e
  rw [e]
  simp only [rot]
  repeat' split
  all_goals first | rfl | (exfalso; omega) | (congr 1; omega)
theorem rot_last {d dk : Array α} {m k : Nat} (hk : ∀ x, dk[x]! = rot (fun x => d[x]!) (k + 1) m (m + 1) x) (hs : dk.size = d.size) (hkm : k + 1 ≤ m) (hb : m < d.size) (x : Nat) :
    (swp dk (k + 1) k)[x]! = rot (fun x => d[x]!) k m (m + 1) x := by
  have e := swp_get dk (i := k + 1) (j := k) (by omega) (by omega) x
  simp only [hk] at e
  rw [e]
  simp only [rot]
  repeat' split
  all_goals first | rfl | (exfalso; omega) | (congr 1; omega)

/-- One element, and a sorted stretch. -/
theorem sym_A (hS : SWO lt) {d d1 : Array α} {a b i : Nat} (hb : b ≤ d.size) (h2 : SortedIn lt (a + 1) b d) (hi : a + 1 ≤ i) (hib : i ≤ b) (hlo : i = a + 1 ∨ lt d[i - 1]! d[a]! = true) (hhi : i = b ∨ lt d[i]! d[a]! = false)
    (hP : PermIn a b d d1) (hr : ∀ k, d1[k]! = rot (fun k => d[k]!) a (a + 1) i k) : PermIn a b d d1 ∧ SortedIn lt a b d1 := by
  have h1 : SortedIn lt a (a + 1) d := fun i j h1 h2 h3 => by omega
  obtain ⟨_, s2, _, _⟩ := sym_halves (mid := i - 1) h1 h2 (Nat.le_refl _) (Nat.le_succ _) hi hib (by omega) hr
  refine sym_join (mid := i - 1) hS hb h1 h2 (Nat.le_refl _) (Nat.le_succ _) hi hib (by omega) (by omega) (by omega) (fun x y h1 h2 => by omega) (fun x y hx hx2 hy hy2 => ?_) hP hr (permIn_refl _ _ _) s2 (permIn_refl _ _ _) (fun x y hx hxy hy => ?_)
  · obtain rfl : y = a := by omega
    rcases hlo with h | h
    · omega
    · exact hS.asymmA (le_lt hS (SortedIn.le hS h2 hx (show x ≤ i - 1 by omega) (by omega)) h)
  · rw [hr, hr]; unfold rot
    rw [if_pos (c := y < a ∨ i ≤ y) (by omega)]
    by_cases c : i ≤ x
    · rw [if_pos (c := x < a ∨ i ≤ x) (by omega)]; exact h2 x y (by omega) hxy hy
    · rw [if_neg (by omega), if_neg (by omega), show x - (i - (a + 1)) = a by omega]
      rcases hhi with h | h
      · omega
      · exact hS.ntrans _ _ _ (SortedIn.le hS h2 (show a + 1 ≤ i by omega) (show i ≤ y by omega) hy) h
/-- A sorted stretch, and one element. -/
theorem sym_B (hS : SWO lt) {d d1 : Array α} {a m i : Nat} (hb : m + 1 ≤ d.size) (h1 : SortedIn lt a m d) (hi : a ≤ i) (him : i ≤ m) (hlo : i = a ∨ lt d[m]! d[i - 1]! = false) (hhi : i = m ∨ lt d[m]! d[i]! = true)
    (hP : PermIn a (m + 1) d d1) (hr : ∀ k, d1[k]! = rot (fun k => d[k]!) i m (m + 1) k) : PermIn a (m + 1) d d1 ∧ SortedIn lt a (m + 1) d1 := by
  have h2 : SortedIn lt m (m + 1) d := fun i j h1 h2 h3 => by omega
  obtain ⟨_, _, s3, _⟩ := sym_halves (mid := i + 1) h1 h2 hi him (Nat.le_succ _) (Nat.le_refl _) (by omega) hr
  refine sym_join (mid := i + 1) hS hb h1 h2 hi him (Nat.le_succ _) (Nat.le_refl _) (by omega) (by omega) (by omega) (fun x y h1 h2 h3 h4 => by omega) (fun x y hx hx2 hy hy2 => ?_) hP hr (permIn_refl _ _ _) (fun x y hx hxy hy => ?_) (permIn_refl _ _ _) s3
  · obtain rfl : x = m := by omega
    rcases hhi with h | h
    · omega
    · exact hS.asymmA (lt_le hS h (SortedIn.le hS h1 (show a ≤ i by omega) hy hy2))
  · rw [hr, hr]; unfold rot
    rw [if_pos (c := x < i ∨ m + 1 ≤ x) (by omega)]
    by_cases c : y < i
    · rw [if_pos (c := y < i ∨ m + 1 ≤ y) (by omega)]; exact h1 x y hx hxy (by omega)
    · rw [if_neg (by omega), if_pos (by omega), show y + (m - i) = m by omega]
      rcases hlo with h | h
      · omega
      · exact hS.ntrans _ _ _ h (SortedIn.le hS h1 hx (show x ≤ i - 1 by omega) (by omega))
/-- Two sorted stretches: what the search tells. -/
theorem sym_C (hS : SWO lt) {d : Array α} {a m b mid st s0 r0 : Nat} (h1 : SortedIn lt a m d) (h2 : SortedIn lt m b d) (h0 : (mid < m ∧ s0 = mid + m - b ∧ r0 = mid) ∨ (m ≤ mid ∧ s0 = a ∧ r0 = m)) (ham : a < m) (hmb : m < b) (hmid : mid = (a + b) / 2) (hs : s0 ≤ st) (hr : st ≤ r0)
    (hlo : st = s0 ∨ lt d[mid + m - 1 - (st - 1)]! d[st - 1]! = false) (hhi : st = r0 ∨ lt d[mid + m - 1 - st]! d[st]! = true) :
    (∀ i j, a ≤ i → i < st → mid + m - st ≤ j → j < b → lt d[j]! d[i]! = false) ∧ (∀ i j, m ≤ i → i < mid + m - st → st ≤ j → j < m → lt d[j]! d[i]! = false) := by
  refine ⟨fun i j hi hi2 hj hj2 => ?_, fun i j hi hi2 hj hj2 => ?_⟩
  · rcases hlo with h | h
    · omega
    · have e1 := SortedIn.le hS h1 hi (show i ≤ st - 1 by omega) (by omega)
      have e2 := SortedIn.le hS h2 (show m ≤ mid + m - 1 - (st - 1) by omega) (show mid + m - 1 - (st - 1) ≤ j by omega) hj2
      exact hS.ntrans _ _ _ e2 (hS.ntrans _ _ _ h e1)
  · rcases hhi with h | h
    · omega
    · have e1 := SortedIn.le hS h2 hi (show i ≤ mid + m - 1 - st by omega) (by omega)
      have e2 := SortedIn.le hS h1 (show a ≤ st by omega) hj hj2
      exact hS.asymmA (le_lt hS e1 (lt_le hS h e2))
end
end Go.Proofs.Ytppejoccljfblaa
