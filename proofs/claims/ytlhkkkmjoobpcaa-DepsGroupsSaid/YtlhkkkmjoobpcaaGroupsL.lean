/-
  The plain law of the groups: the program's order and the document's are the same; each node is in just one. No condition.
-/
import Derived.Test.YtlhkkkmjoobpcaaGroups
namespace Go.Proofs.Ytlhkkkmjoobpcaa

def EqG (l : List (List Int)) (i k : Nat) : Prop := k = i ∨ (Rch l i k ∧ Rch l k i)
theorem Rch.then {l : List (List Int)} {a i k : Int} (h : Rch l a i) (h' : Rch l i k) : Rch l a k := by
  induction h' with
  | one h1 => exact .step h h1
  | step _ h1 ih => exact .step ih h1
theorem steps_ok {l : List (List Int)} {i k : Int} (h : k ∈ stepsG l i) : okN l.length i = true := by
  unfold stepsG at h
  split at h
  · assumption
  · cases h
theorem Rch.src {l : List (List Int)} {a k : Int} (h : Rch l a k) : okN l.length a = true := by
  induction h with
  | one h => exact steps_ok h
  | step _ _ ih => exact ih
theorem EqG.refl (l : List (List Int)) (i : Nat) : EqG l i i := .inl rfl
theorem EqG.symm {l : List (List Int)} {i k : Nat} (h : EqG l i k) : EqG l k i := h.elim (fun e => .inl e.symm) fun h => .inr ⟨h.2, h.1⟩
theorem EqG.trans {l : List (List Int)} {i j k : Nat} (h : EqG l i j) (h' : EqG l j k) : EqG l i k := by
  rcases h with rfl | h
  · exact h'
  · rcases h' with rfl | h'
    · exact .inr h
    · exact .inr ⟨h.1.then h'.1, h'.2.then h.2⟩
theorem EqG.rch {l : List (List Int)} {i j : Nat} {k : Int} (h : EqG l i j) (h' : Rch l j k) : Rch l i k := by
  rcases h with rfl | h
  · exact h'
  · exact h.1.then h'
theorem in_rising {l : List (List Int)} {i k : Nat} : ((k : Int) ∈ risingL (marksR l (i : Int))) ↔ Rch l i k := by
  rw [rising_mem]
  constructor
  · rintro ⟨k', e, h⟩
    obtain rfl : k = k' := by omega
    exact (marks_iff l i k).1 h
  · intro h; exact ⟨k, rfl, (marks_iff l i k).2 h⟩
theorem ownG_iff {l : List (List Int)} {i k : Nat} : ownG l i k = true ↔ EqG l i k := by
  unfold ownG EqG
  simp only [Bool.or_eq_true, Bool.and_eq_true, decide_eq_true_eq, in_rising]
theorem EqG.lt {l : List (List Int)} {i k : Nat} (h : EqG l i k) (hi : i < l.length) : k < l.length := by
  rcases h with rfl | h
  · exact hi
  · have := (okN_iff.1 h.1.ok).2; omega
theorem mem_grp {l : List (List Int)} {i : Nat} {x : Int} : x ∈ grpP l i l.length ↔ ∃ k : Nat, x = k ∧ k < l.length ∧ EqG l i k := by
  unfold grpP
  rw [List.mem_map]
  constructor
  · rintro ⟨k, hk, rfl⟩
    obtain ⟨h1, h2⟩ := List.mem_filter.1 hk
    exact ⟨k, rfl, List.mem_range.1 h1, ownG_iff.1 h2⟩
  · rintro ⟨k, rfl, h1, h2⟩
    exact ⟨k, List.mem_filter.2 ⟨List.mem_range.2 h1, ownG_iff.2 h2⟩, rfl⟩
/-- Least in its group. -/
def Least (l : List (List Int)) (i : Nat) : Prop := i < l.length ∧ ∀ k, k < i → ¬ EqG l i k
theorem least_of {l : List (List Int)} (i : Nat) : i < l.length → ∃ j, j ≤ i ∧ Least l j ∧ EqG l i j := by
  induction i using Nat.strongRecOn with
  | ind i ih =>
    intro hi
    by_cases h : ∃ k, k < i ∧ EqG l i k
    · obtain ⟨k, hk, he⟩ := h
      obtain ⟨j, h1, h2, h3⟩ := ih k hk (by omega)
      exact ⟨j, by omega, h2, he.trans h3⟩
    · exact ⟨i, Nat.le_refl _, ⟨hi, fun k hk he => h ⟨k, hk, he⟩⟩, .refl _ _⟩
theorem Least.eq {l : List (List Int)} {i j : Nat} (h : Least l i) (h' : Least l j) (he : EqG l i j) : i = j := by
  rcases Nat.lt_trichotomy i j with h1 | h1 | h1
  · exact absurd he.symm (h'.2 i h1)
  · exact h1
  · exact absurd he (h.2 j h1)
/-- What has been told is closed. -/
structure ClosedG (l : List (List Int)) (told : List Bool) : Prop where
  len : told.length = l.length
  same : ∀ i k : Nat, on told i = true → EqG l i k → on told k = true
  rch : ∀ i k : Nat, on told i = true → Rch l i k → on told k = true
def rdyP (l : List (List Int)) (told : List Bool) (i m : Nat) : Bool := (List.range m).all fun k => ownG l i k || !(on (marksR l (i : Int)) k && !on told k)
theorem rdy_iff {l : List (List Int)} {told : List Bool} {i : Nat} : rdyP l told i l.length = true ↔ ∀ k : Nat, Rch l i k → EqG l i k ∨ on told k = true := by
  unfold rdyP
  rw [List.all_eq_true]
  constructor
  · intro h k hk
    have hk2 := (okN_iff.1 hk.ok).2
    have h1 := h k (List.mem_range.2 (by omega))
    rw [Bool.or_eq_true, ownG_iff] at h1
    rcases h1 with h1 | h1
    · exact .inl h1
    · right
      rw [(marks_iff l i k).2 hk] at h1
      simpa using h1
  · intro h k _
    rw [Bool.or_eq_true, ownG_iff]
    by_cases hk : on (marksR l (i : Int)) k = true
    · rcases h k ((marks_iff l i k).1 hk) with h1 | h1
      · exact .inl h1
      · right; rw [h1]; simp
    · right
      rw [Bool.eq_false_iff.2 hk]; rfl
theorem ready_iff {l : List (List Int)} {told : List Bool} {i : Nat} (hi : i < l.length) (hc : ClosedG l told) : readyG l told (grpP l i l.length) = rdyP l told i l.length := by
  rw [Bool.eq_iff_iff, rdy_iff]
  unfold readyG
  rw [List.all_eq_true]
  constructor
  · intro h
    have key : ∀ a : Int, ∀ k : Int, Rch l a k → a = i → ∀ m : Nat, k = m → EqG l i m ∨ on told m = true := by
      intro a k hk
      induction hk with
      | one h1 =>
        intro ea m em
        subst ea em
        have h2 := h (i : Int) (mem_grp.2 ⟨i, rfl, hi, .refl _ _⟩)
        rw [List.all_eq_true] at h2
        have h3 := h2 _ h1
        rw [Bool.or_eq_true, decide_eq_true_eq, mem_grp] at h3
        rcases h3 with h3 | ⟨k', e, _, h3⟩
        · exact .inr (by simpa using h3)
        · obtain rfl : m = k' := by omega
          exact .inl h3
      | @step j k hj h1 ih =>
        intro ea m em
        subst ea em
        obtain ⟨hj0, hj1⟩ := okN_iff.1 hj.ok
        obtain ⟨j', rfl⟩ := Int.eq_ofNat_of_zero_le hj0
        rcases ih rfl j' rfl with h2 | h2
        · have h4 := h (j' : Int) (mem_grp.2 ⟨j', rfl, by omega, h2⟩)
          rw [List.all_eq_true] at h4
          have h3 := h4 _ h1
          rw [Bool.or_eq_true, decide_eq_true_eq, mem_grp] at h3
          rcases h3 with h3 | ⟨k', e, _, h3⟩
          · exact .inr (by simpa using h3)
          · obtain rfl : m = k' := by omega
            exact .inl h3
        · exact .inr (hc.rch j' m h2 (.one h1))
    intro k hk
    exact key _ _ hk rfl k rfl
  · intro h x hx
    obtain ⟨j, rfl, hj, he⟩ := mem_grp.1 hx
    rw [List.all_eq_true]
    intro y hy
    obtain ⟨hy0, hy1⟩ := okN_iff.1 (stepsG_ok hy)
    obtain ⟨k, rfl⟩ := Int.eq_ofNat_of_zero_le hy0
    rw [Bool.or_eq_true, decide_eq_true_eq, mem_grp]
    rcases h k (he.rch (.one hy)) with h1 | h1
    · exact .inr ⟨k, rfl, by omega, h1⟩
    · exact .inl (by simpa using h1)
theorem rdy_same {l : List (List Int)} {told : List Bool} {i j : Nat} (he : EqG l i j) (h : rdyP l told i l.length = true) : rdyP l told j l.length = true := by
  rw [rdy_iff] at h ⊢
  intro k hk
  rcases h k (he.rch hk) with h1 | h1
  · exact .inl (he.symm.trans h1)
  · exact .inr h1
theorem markT_on (g : List Int) : ∀ (told : List Bool) (k : Nat), on (markT told g) k = (on told k || (decide (k < told.length) && g.any fun x => decide (x.toNat = k))) := by
  unfold markT
  induction g with
  | nil => intro told k; simp
  | cons x g ih =>
    intro told k
    rw [List.foldl_cons, ih, on_set, List.length_set, List.any_cons]
    by_cases h1 : k < told.length
    · by_cases h2 : x.toNat = k
      · subst h2; simp [h1]
      · simp [h1, h2]
    · by_cases h2 : x.toNat = k
      · subst h2; simp [h1]
      · simp [h1, h2]
theorem markT_grp {l : List (List Int)} {told : List Bool} {i : Nat} (hi : i < l.length) (hl : told.length = l.length) (k : Nat) : on (markT told (grpP l i l.length)) k = true ↔ on told k = true ∨ EqG l i k := by
  rw [markT_on, Bool.or_eq_true, Bool.and_eq_true, decide_eq_true_eq, List.any_eq_true]
  constructor
  · rintro (h | ⟨_, x, hx, e⟩)
    · exact .inl h
    · obtain ⟨k', rfl, _, h2⟩ := mem_grp.1 hx
      have e := of_decide_eq_true e
      rw [Int.toNat_natCast] at e
      subst e
      exact .inr h2
  · rintro (h | h)
    · exact .inl h
    · have := h.lt hi
      exact .inr ⟨by omega, (k : Int), mem_grp.2 ⟨k, rfl, this, h⟩, by simp⟩
theorem ClosedG.mark {l : List (List Int)} {told : List Bool} {i : Nat} (hi : i < l.length) (h : ClosedG l told) (hr : rdyP l told i l.length = true) : ClosedG l (markT told (grpP l i l.length)) := by
  refine ⟨by rw [markT_len]; exact h.len, fun a k ha hk => ?_, fun a k ha hk => ?_⟩
  · rw [markT_grp hi h.len] at ha ⊢
    rcases ha with ha | ha
    · exact .inl (h.same a k ha hk)
    · exact .inr (ha.trans hk)
  · rw [markT_grp hi h.len] at ha ⊢
    rcases ha with ha | ha
    · exact .inl (h.rch a k ha hk)
    · exact (rdy_iff.1 hr k (ha.rch hk)).symm
end Go.Proofs.Ytlhkkkmjoobpcaa
