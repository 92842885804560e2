/-
  Plain laws of digits and numbers: what a number's digits are, and which texts are numbers. No program, no condition.
-/
import Derived.Test.YtppejoccljfblaaDigits
namespace Go.Proofs.Ytppejoccljfblaa

def isDig (c : UInt8) : Bool := decide (48 ≤ c.toNat) && decide (c.toNat ≤ 57)
def val (l : List UInt8) : Nat := l.foldl (fun a c => 10 * a + (c.toNat - 48)) 0
theorem val_snoc (l : List UInt8) (c : UInt8) : val (l ++ [c]) = 10 * val l + (c.toNat - 48) := by simp [val]
theorem dec_eq (n : Nat) : dec n = (if n < 10 then [] else dec (n / 10)) ++ [UInt8.ofNat (48 + n % 10)] := by
  unfold dec
  by_cases h : n < 10
  · rw [decR_small n h, if_pos h, Nat.mod_eq_of_lt h]; rfl
  · rw [decR_great n h, if_neg h]; simp
theorem digit_toNat (n : Nat) : (UInt8.ofNat (48 + n % 10)).toNat = 48 + n % 10 := by rw [UInt8.toNat_ofNat']; omega
theorem digit_isDig (n : Nat) : isDig (UInt8.ofNat (48 + n % 10)) = true := by
  simp only [isDig, digit_toNat, Bool.and_eq_true, decide_eq_true_eq]; omega
theorem val_dec : ∀ n, val (dec n) = n := by
  intro n
  induction n using Nat.strongRecOn with
  | ind n ih =>
    rw [dec_eq, val_snoc, digit_toNat]
    by_cases h : n < 10
    · rw [if_pos h]; simp [val]; omega
    · rw [if_neg h, ih (n / 10) (by omega)]; omega
theorem dec_digits : ∀ n, (dec n).all isDig = true := by
  intro n
  induction n using Nat.strongRecOn with
  | ind n ih =>
    rw [dec_eq, List.all_append, Bool.and_eq_true]
    refine ⟨?_, by rw [List.all_cons, digit_isDig]; rfl⟩
    by_cases h : n < 10
    · rw [if_pos h]; rfl
    · rw [if_neg h]; exact ih (n / 10) (by omega)
theorem dec_ne_nil (n : Nat) : dec n ≠ [] := by rw [dec_eq]; simp
theorem dec_inj {n m : Nat} (h : dec n = dec m) : n = m := by rw [← val_dec n, h, val_dec]
/-- The first digit of a great number is no nought. -/
theorem dec_head : ∀ n, 0 < n → (dec n).head (dec_ne_nil n) ≠ 48 := by
  intro n
  induction n using Nat.strongRecOn with
  | ind n ih =>
    intro h0
    by_cases h : n < 10
    · have e : dec n = [UInt8.ofNat (48 + n % 10)] := by rw [dec_eq, if_pos h]; rfl
      simp only [e, List.head_cons]
      intro h1
      have := congrArg UInt8.toNat h1
      rw [digit_toNat] at this
      have e2 : (48 : UInt8).toNat = 48 := rfl
      omega
    · have e : dec n = dec (n / 10) ++ [UInt8.ofNat (48 + n % 10)] := by rw [dec_eq, if_neg h]
      simp only [e, List.head_append_of_ne_nil (dec_ne_nil (n / 10))]
      exact ih (n / 10) (by omega) (by omega)
theorem dec_long (n : Nat) (h : 1 < (dec n).length) : 10 ≤ n := by
  by_cases h1 : n < 10
  · rw [dec_eq, if_pos h1] at h; simp at h
  · omega
/-- A text of digits whose first one is no nought is a number's. -/
theorem dec_val : ∀ (k : Nat) (l : List UInt8), l.length = k → l.all isDig = true → (hl : l ≠ []) → (1 < l.length → l.head hl ≠ 48) → dec (val l) = l ∧ (l.head hl ≠ 48 → 0 < val l) := by
  intro k
  induction k with
  | zero => intro l h _ hl; exact absurd (List.eq_nil_of_length_eq_zero h) hl
  | succ k ih =>
    intro l h hd hl hh
    obtain ⟨l', c, rfl⟩ : ∃ l' c, l = l' ++ [c] := ⟨l.dropLast, l.getLast hl, (List.dropLast_concat_getLast hl).symm⟩
    rw [List.all_append, Bool.and_eq_true] at hd
    have hc : 48 ≤ c.toNat ∧ c.toNat ≤ 57 := by
      have := hd.2; simp [isDig] at this; exact this
    have hof : UInt8.ofNat c.toNat = c := by simp
    rw [val_snoc]
    by_cases hn : l' = []
    · subst hn
      refine ⟨?_, ?_⟩
      · have e : 10 * val [] + (c.toNat - 48) = c.toNat - 48 := by simp [val]
        rw [e, dec_eq, if_pos (by omega), Nat.mod_eq_of_lt (by omega), show 48 + (c.toNat - 48) = c.toNat by omega, hof]
      · intro h1
        simp only [List.nil_append, List.head_cons] at h1
        have : c.toNat ≠ 48 := fun e => h1 (UInt8.toNat_inj.1 (by simpa using e))
        omega
    · have hhead : (l' ++ [c]).head hl = l'.head hn := List.head_append_of_ne_nil hn
      have hlen : 1 < (l' ++ [c]).length := by
        rw [List.length_append]; have := List.length_pos_iff.2 hn; simp; omega
      have h48 : l'.head hn ≠ 48 := by rw [← hhead]; exact hh hlen
      obtain ⟨i1, i2⟩ := ih l' (by rw [List.length_append] at h; simpa using h) hd.1 hn (fun _ => h48)
      have hp := i2 h48
      refine ⟨?_, fun _ => by omega⟩
      rw [dec_eq, if_neg (by omega), show (10 * val l' + (c.toNat - 48)) / 10 = val l' by omega, show (10 * val l' + (c.toNat - 48)) % 10 = c.toNat - 48 by omega, i1,
        show 48 + (c.toNat - 48) = c.toNat by omega, hof]
theorem dec_length (n : Nat) (h : n ≤ 2147483647) : (dec n).length ≤ 10 := by
  rw [dec, List.length_reverse]; exact decR_len 9 n (by omega)

/-- Whether a text is a number, and which. -/
def okN (l : List UInt8) : Bool := l.all isDig && decide (val l ≤ 2147483647) && (dec (val l) == l)
def numN (l : List UInt8) : Int := if okN l then (val l : Int) else 0
theorem okN_dec (n : Nat) : okN (dec n) = decide (n ≤ 2147483647) := by simp [okN, dec_digits, val_dec]
theorem numN_dec (n : Nat) (h : n ≤ 2147483647) : numN (dec n) = n := by rw [numN, okN_dec, if_pos (by simpa using h), val_dec]
theorem okN_bad (l : List UInt8) (h : l.all isDig = false) : okN l = false := by simp [okN, h]
theorem okN_great (l : List UInt8) (h : ¬ val l ≤ 2147483647) : okN l = false := by simp [okN, h]
theorem okN_other (l : List UInt8) (h : dec (val l) ≠ l) : okN l = false := by simp [okN, h]
theorem okN_ok (l : List UInt8) (h1 : l.all isDig = true) (h2 : val l ≤ 2147483647) (h3 : dec (val l) = l) : okN l = true := by
  rw [okN, h1, h3]; simp [h2]
theorem numN_ok (l : List UInt8) (h : okN l = true) : numN l = val l := by rw [numN, if_pos h]
theorem numN_no (l : List UInt8) (h : okN l = false) : numN l = 0 := by rw [numN, h]; rfl
theorem okN_nil : okN [] = false := by
  have : dec (val []) ≠ [] := dec_ne_nil _
  exact okN_other _ this
theorem okN_long (l : List UInt8) (h : 10 < l.length) : okN l = false := by
  by_cases h2 : val l ≤ 2147483647
  · refine okN_other _ fun e => ?_
    have := dec_length (val l) h2
    rw [e] at this; omega
  · exact okN_great l h2
theorem okN_nought (l : List UInt8) (hl : l ≠ []) (h : 1 < l.length) (h0 : l.head hl = 48) : okN l = false := by
  refine okN_other _ fun e => ?_
  have h10 := dec_long (val l) (by rw [e]; exact h)
  have h1 := dec_head (val l) (by omega)
  apply h1
  have : ∀ (a b : List UInt8) (ha : a ≠ []) (hb : b ≠ []), a = b → a.head ha = b.head hb := by intro a b ha hb e; subst e; rfl
  rw [this _ _ _ hl e, h0]
theorem digs_inj {n m : Int} (h : digs n = digs m) : n = m := by
  unfold digs at h
  have hm : ∀ k, (dec k).head? ≠ some 45 := by
    intro k hk
    have hd := dec_digits k
    have : (45 : UInt8) ∈ dec k := List.mem_of_mem_head? (by rw [hk]; rfl)
    rw [List.all_eq_true] at hd
    exact absurd (hd _ this) (by decide)
  split at h <;> split at h
  · have := dec_inj (List.cons.inj h).2; omega
  · exact absurd (by rw [← h]; rfl) (hm m.toNat)
  · exact absurd (by rw [h]; rfl) (hm n.toNat)
  · have := dec_inj h; omega
theorem okN_digs (n : Int) : okN (digs n) = (decide (0 ≤ n) && decide (n ≤ 2147483647)) := by
  by_cases h : n < 0
  · rw [digs, if_pos h, okN_bad _ (by simp [isDig])]
    have : ¬ 0 ≤ n := by omega
    simp [this]
  · rw [digs, if_neg h, okN_dec]
    have h0 : 0 ≤ n := by omega
    have : (n.toNat ≤ 2147483647) ↔ n ≤ 2147483647 := by omega
    simp [h0, this]
theorem numN_digs (n : Int) (h0 : 0 ≤ n) (h1 : n ≤ 2147483647) : numN (digs n) = n := by
  rw [digs, if_neg (by omega), numN_dec _ (by omega)]; omega
/-- As the loop goes: what is behind the digits so far. -/
theorem val_append (a : List UInt8) : ∀ b : List UInt8, val a ≤ val (a ++ b) := by
  have : ∀ (b : List UInt8) (x y : Nat), x ≤ y → x ≤ b.foldl (fun a c => 10 * a + (c.toNat - 48)) y := by
    intro b
    induction b with
    | nil => intro x y h; exact h
    | cons c b ih => intro x y h; rw [List.foldl_cons]; exact ih x _ (by omega)
  intro b
  rw [val, val, List.foldl_append]
  exact this b _ _ (Nat.le_refl _)
end Go.Proofs.Ytppejoccljfblaa
