/-
  Plain laws of the merge in place: its three ways. No program. No condition.
-/
import Derived.Test.YtppejoccljfblaaSym
namespace Go.Proofs.Ytppejoccljfblaa
open Go.Sort
section
variable {α : Type} [Inhabited α] {lt : α → α → Bool}
theorem rot_one {d dk : Array α} {a k : Nat} (hk : ∀ x, dk[x]! = rot (fun x => d[x]!) a (a + 1) (k + 1) x) (hs : dk.size = d.size) (hak : a ≤ k) (hb : k + 1 < d.size) (x : Nat) :
    (swp dk k (k + 1))[x]! = rot (fun x => d[x]!) a (a + 1) (k + 1 + 1) x := by
  have e := swp_get dk (i := k) (j := k + 1) (by omega) (by omega) x
  simp only [hk] at e
  rw [e]
  simp only [rot]
  repeat' split
  all_goals first | rfl | (exfalso; omega) | (congr 1; omega)
theorem rot_last {d dk : Array α} {m k : Nat} (hk : ∀ x, dk[x]! = rot (fun x => d[x]!) (k + 1) m (m + 1) x) (hs : dk.size = d.size) (hkm : k + 1 ≤ m) (hb : m < d.size) (x : Nat) :
    (swp dk (k + 1) k)[x]! = rot (fun x => d[x]!) k m (m + 1) x := by
  have e := swp_get dk (i := k + 1) (j := k) (by omega) (by omega) x
  simp only [hk] at e
  rw [e]
  simp only [rot]
  repeat' split
  all_goals first | rfl | (exfalso; omega) | (congr 1; omega)

/-- One element, and a sorted stretch. -/
theorem sym_A (hS : SWO lt) {d d1 : Array α} {a b i : Nat} (hb : b ≤ d.size) (h2 : SortedIn lt (a + 1) b d) (hi : a + 1 ≤ i) (hib : i ≤ b) (hlo : i = a + 1 ∨ lt d[i - 1]! d[a]! = true) (hhi : i = b ∨ lt d[i]! d[a]! = false)
    (hP : PermIn a b d d1) (hr : ∀ k, d1[k]! = rot (fun k => d[k]!) a (a + 1) i k) : PermIn a b d d1 ∧ SortedIn lt a b d1 := by
  have h1 : SortedIn lt a (a + 1) d := fun i j h1 h2 h3 => by omega
  obtain ⟨_, s2, _, _⟩ := sym_halves (mid := i - 1) h1 h2 (Nat.le_refl _) (Nat.le_succ _) hi hib (by omega) hr
  refine sym_join (mid := i - 1) hS hb h1 h2 (Nat.le_refl _) (Nat.le_succ _) hi hib (by omega) (by omega) (by omega) (fun x y h1 h2 => by omega) (fun x y hx hx2 hy hy2 => ?_) hP hr (permIn_refl _ _ _) s2 (permIn_refl _ _ _) (fun x y hx hxy hy => ?_)
  · obtain rfl : y = a := by omega
    rcases hlo with h | h
    · omega
    · exact hS.asymmA (le_lt hS (SortedIn.le hS h2 hx (show x ≤ i - 1 by omega) (by omega)) h)
  · rw [hr, hr]; unfold rot
    rw [if_pos (c := y < a ∨ i ≤ y) (by omega)]
    by_cases c : i ≤ x
    · rw [if_pos (c := x < a ∨ i ≤ x) (by omega)]; exact h2 x y (by omega) hxy hy
    · rw [if_neg (by omega), if_neg (by omega), show x - (i - (a + 1)) = a by omega]
      rcases hhi with h | h
      · omega
      · exact hS.ntrans _ _ _ (SortedIn.le hS h2 (show a + 1 ≤ i by omega) (show i ≤ y by omega) hy) h
/-- A sorted stretch, and one element. -/
theorem sym_B (hS : SWO lt) {d d1 : Array α} {a m i : Nat} (hb : m + 1 ≤ d.size) (h1 : SortedIn lt a m d) (hi : a ≤ i) (him : i ≤ m) (hlo : i = a ∨ lt d[m]! d[i - 1]! = false) (hhi : i = m ∨ lt d[m]! d[i]! = true)
    (hP : PermIn a (m + 1) d d1) (hr : ∀ k, d1[k]! = rot (fun k => d[k]!) i m (m + 1) k) : PermIn a (m + 1) d d1 ∧ SortedIn lt a (m + 1) d1 := by
  have h2 : SortedIn lt m (m + 1) d := fun i j h1 h2 h3 => by omega
  obtain ⟨_, _, s3, _⟩ := sym_halves (mid := i + 1) h1 h2 hi him (Nat.le_succ _) (Nat.le_refl _) (by omega) hr
  refine sym_join (mid := i + 1) hS hb h1 h2 hi him (Nat.le_succ _) (Nat.le_refl _) (by omega) (by omega) (by omega) (fun x y h1 h2 h3 h4 => by omega) (fun x y hx hx2 hy hy2 => ?_) hP hr (permIn_refl _ _ _) (fun x y hx hxy hy => ?_) (permIn_refl _ _ _) s3
  · obtain rfl : x = m := by omega
    rcases hhi with h | h
    · omega
    · exact hS.asymmA (lt_le hS h (SortedIn.le hS h1 (show a ≤ i by omega) hy hy2))
  · rw [hr, hr]; unfold rot
    rw [if_pos (c := x < i ∨ m + 1 ≤ x) (by omega)]
    by_cases c : y < i
    · rw [if_pos (c := y < i ∨ m + 1 ≤ y) (by omega)]; exact h1 x y hx hxy (by omega)
    · rw [if_neg (by omega), if_pos (by omega), show y + (m - i) = m by omega]
      rcases hlo with h | h
      · omega
      · exact hS.ntrans _ _ _ h (SortedIn.le hS h1 hx (show x ≤ i - 1 by omega) (by omega))
/-- Two sorted stretches: what the search tells. -/
theorem sym_C (hS : SWO lt) {d : Array α} {a m b mid st s0 r0 : Nat} (h1 : SortedIn lt a m d) (h2 : SortedIn lt m b d) (h0 : (mid < m ∧ s0 = mid + m - b ∧ r0 = mid) ∨ (m ≤ mid ∧ s0 = a ∧ r0 = m)) (ham : a < m) (hmb : m < b) (hmid : mid = (a + b) / 2) (hs : s0 ≤ st) (hr : st ≤ r0)
    (hlo : st = s0 ∨ lt d[mid + m - 1 - (st - 1)]! d[st - 1]! = false) (hhi : st = r0 ∨ lt d[mid + m - 1 - st]! d[st]! = true) :
    (∀ i j, a ≤ i → i < st → mid + m - st ≤ j → j < b → lt d[j]! d[i]! = false) ∧ (∀ i j, m ≤ i → i < mid + m - st → st ≤ j → j < m → lt d[j]! d[i]! = false) := by
  refine ⟨fun i j hi hi2 hj hj2 => ?_, fun i j hi hi2 hj hj2 => ?_⟩
  · rcases hlo with h | h
    · omega
    · have e1 := SortedIn.le hS h1 hi (show i ≤ st - 1 by omega) (by omega)
      have e2 := SortedIn.le hS h2 (show m ≤ mid + m - 1 - (st - 1) by omega) (show mid + m - 1 - (st - 1) ≤ j by omega) hj2
      exact hS.ntrans _ _ _ e2 (hS.ntrans _ _ _ h e1)
  · rcases hhi with h | h
    · omega
    · have e1 := SortedIn.le hS h2 hi (show i ≤ mid + m - 1 - st by omega) (by omega)
      have e2 := SortedIn.le hS h1 (show a ≤ st by omega) hj hj2
      exact hS.asymmA (le_lt hS e1 (lt_le hS h e2))
end
end Go.Proofs.Ytppejoccljfblaa
