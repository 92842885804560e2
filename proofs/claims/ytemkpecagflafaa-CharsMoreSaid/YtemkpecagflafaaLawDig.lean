/-
  The walk of the law CharsDigits: it answers true at every input. No condition.
-/
import Derived.Test.YtemkpecagflafaaNumber
namespace Go.Proofs.Ytemkpecagflafaa
open Go.RowKit
attribute [local go_sem] toList_beq empty_beq

theorem aw1 : okN [48, 48, 55] = false := okN_nought _ (by decide) (by decide) (by decide)
theorem aw2 : isWord ⟨#[120]⟩ 1 = true := by decide
theorem aw3 : isKey ⟨#[120]⟩ = false := by decide
theorem aw4 : isKey ⟨#[108, 101, 116]⟩ = true := by decide
theorem aw5 : digs (-5) = [45, 53] := by rw [digs, if_pos (by decide), dec_eq]; rfl

set_option maxHeartbeats 1000000 in
theorem awake01 (w : World) :
    Calls Try.prog 24 #[] w fun e w' => e = .returned (.bool true) ∧ Below w.heap.size w w' := by
  have a1 := aw1
  have a2 := aw2
  have a3 := aw3
  have a4 := aw4
  have a5 := aw5
  go_enter Try.func24, Try.ntmps24
  go_wp2_with fail
  refine (number_any _ _ (by decide)).mono ?_
  rintro e w1 ⟨rfl, hb1⟩
  go_wp2_with fail
  refine (name_any _ _ (by decide)).mono ?_
  rintro e w2 ⟨rfl, hb2⟩
  go_wp2_with fail
  refine (name_any _ _ (by decide)).mono ?_
  rintro e w3 ⟨rfl, hb3⟩
  go_wp2_with fail
  refine (Digits_any _ _ (by decide) (by decide)).mono ?_
  rintro e w4 ⟨rfl, hb4⟩
  go_wp2_with fail
  go_ret
  exact ⟨rfl, Below.to hb1 (Below.to hb2 (Below.to hb3 hb4))⟩

theorem lists_ne {n m : Int} (h : n ≠ m) : (digs n == digs m) = false := by rw [beq_eq_false_iff_ne]; exact fun e => h (digs_inj e)

set_option maxHeartbeats 1000000 in
theorem charsDigits_any (n m : Int) (w : World) (hn0 : -9223372036854775808 ≤ n) (hn1 : n ≤ 9223372036854775807) (hm0 : -9223372036854775808 ≤ m) (hm1 : m ≤ 9223372036854775807) :
    Calls Try.prog 6 #[.int .i64 n, .int .i64 m] w fun e w' => e = .returned (.bool true) ∧ Below w.heap.size w w' := by
  have hsz : ∀ k : Int, -9223372036854775808 ≤ k → k ≤ 9223372036854775807 → (digs k).length ≤ 21 := fun k h0 h1 => by
    unfold digs; split
    · rw [List.length_cons]; have := dec_len k.natAbs (by omega); omega
    · have := dec_len k.toNat (by omega); omega
  have h1 := hsz n hn0 hn1
  clear hsz
  have HO := Lib.hid (okN_digs n)
  obtain ⟨c1, hc1⟩ : ∃ c, okN (digs n) = c := ⟨_, rfl⟩
  have hcase : (0 ≤ n ∧ n ≤ 2147483647 ∧ c1 = true ∧ numN (digs n) = n) ∨ (n < 0 ∧ c1 = false) ∨ (2147483647 < n ∧ c1 = false) := by
    have hO := HO.out
    rw [hc1] at hO
    by_cases g0 : 0 ≤ n
    · by_cases g1 : n ≤ 2147483647
      · exact .inl ⟨g0, g1, by rw [hO]; simp [g0, g1], numN_digs n g0 g1⟩
      · exact .inr (.inr ⟨by omega, by rw [hO]; simp [g1]⟩)
    · exact .inr (.inl ⟨by omega, by rw [hO]; simp [g0]⟩)
  have hnm : (n = m) ∨ ((n == m) = false ∧ (digs n == digs m) = false) := by
    by_cases h : n = m
    · exact .inl h
    · exact .inr ⟨by rw [beq_eq_false_iff_ne]; exact h, lists_ne h⟩
  rcases hcase with ⟨g0, g1, rfl, g2⟩ | ⟨g0, rfl⟩ | ⟨g0, rfl⟩
  all_goals
    rcases hnm with rfl | ⟨e1, e2⟩
  all_goals
    go_enter Try.func6, Try.ntmps6
    go_wp2_with fail
    refine (awake01 _).mono ?_
    rintro e w1 ⟨rfl, hb1⟩
    go_wp2_with fail
    refine (Digits_any _ _ hn0 hn1).mono ?_
    rintro e w2 ⟨rfl, hb2⟩
    go_wp2_with fail
    refine (number_any _ _ (by simp only [ByteArray.size, List.size_toArray, maxLen]; omega)).mono ?_
    rintro e w3 ⟨rfl, hb3⟩
    go_wp2_with fail
    refine (rDigits_any _ _ hn0 hn1).mono ?_
    rintro e w4 ⟨rfl, hb4⟩
    go_wp2_with fail
    refine (Digits_any _ _ (by first | exact hm0 | exact hn0) (by first | exact hm1 | exact hn1)).mono ?_
    rintro e w5 ⟨rfl, hb5⟩
    go_wp2_with fail
    go_ret
    exact ⟨ret_bool (by first | rfl | (simp; done) | (simp; omega)), Below.to hb1 (Below.to hb2 (Below.to hb3 (Below.to hb4 hb5)))⟩
#print axioms charsDigits_any
end Go.Proofs.Ytemkpecagflafaa
