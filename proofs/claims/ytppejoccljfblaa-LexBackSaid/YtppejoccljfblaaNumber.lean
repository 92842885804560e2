/-
  The walks of Number, in chars and in the document's answer. No condition but sizes.
-/
import Derived.Test.YtppejoccljfblaaNum
import Derived.Test.YtppejoccljfblaaRev
namespace Go.Proofs.Ytppejoccljfblaa
open Go.RowKit
attribute [local go_sem] toList_beq empty_beq

theorem cls_dig (c : Int) : (cls c != 3) = !(decide (48 ≤ c) && decide (c ≤ 57)) := by
  have : cls c = 3 ↔ 48 ≤ c ∧ c ≤ 57 := by
    unfold cls; repeat' split
    all_goals omega
  rw [Bool.eq_iff_iff]; simp [this]; omega
theorem isDig_int (c : UInt8) : isDig c = (decide (48 ≤ (c.toNat : Int)) && decide ((c.toNat : Int) ≤ 57)) := by
  rw [isDig]; congr 1 <;> rw [Bool.eq_iff_iff, decide_eq_true_eq, decide_eq_true_eq] <;> omega
theorem val_take_snoc (s : ByteArray) (k : Nat) (h : k < s.size) : val (s.data.toList.take (k + 1)) = 10 * val (s.data.toList.take k) + (s[k].toNat - 48) := by
  rw [take_snoc s k h, val_snoc]
theorem val_take (s : ByteArray) (k : Nat) : val (s.data.toList.take k) ≤ val s.data.toList := by
  have := val_append (s.data.toList.take k) (s.data.toList.drop k)
  rwa [List.take_append_drop] at this
theorem str_of_list (s : ByteArray) (l : List UInt8) (h : l = s.data.toList) : (⟨l.toArray⟩ : ByteArray) = s := by subst h; exact str_eta s
theorem list_of_str (s : ByteArray) (l : List UInt8) (h : (⟨l.toArray⟩ : ByteArray) = s) : l = s.data.toList := by subst h; rfl

/-- What a round finds. -/
theorem num_bad (s : ByteArray) (k : Nat) (h : k < s.size) (hb : ¬ (48 ≤ (s[k].toNat : Int) ∧ (s[k].toNat : Int) ≤ 57)) : okN s.data.toList = false :=
  okN_bad _ (all_of_bad s isDig k h (by rw [isDig_int, Bool.and_eq_false_iff, decide_eq_false_iff_not, decide_eq_false_iff_not]; omega))
theorem num_on (s : ByteArray) (k : Nat) (h : k < s.size) (hd : (s.data.toList.take k).all isDig = true) (h1 : 48 ≤ (s[k].toNat : Int)) (h2 : (s[k].toNat : Int) ≤ 57) : (s.data.toList.take (k + 1)).all isDig = true := by
  rw [all_take_snoc s isDig k h, hd, isDig_int, decide_eq_true h1, decide_eq_true h2]; rfl

theorem ret_num {a b : Int} {c d : Bool} (h : a = b) (h' : c = d) : Ending.returned (.tuple #[.int .i64 a, .bool c]) = .returned (.tuple #[.int .i64 b, .bool d]) := by rw [h, h']

set_option maxHeartbeats 2000000 in
theorem number_any (s : ByteArray) (w : World) (hs : s.size ≤ maxLen) :
    Calls Try.prog 129 #[.string s] w fun e w' => e = .returned (.tuple #[.int .i64 (numN s.data.toList), .bool (okN s.data.toList)]) ∧ Below w.heap.size w w' := by
  unfold maxLen at hs
  go_enter Try.func129, Try.ntmps129
  go_wp2
  go_loop [4, 5, 8] (fun n _ i => ∃ k v : Nat, k ≤ s.size ∧ i = .int .i64 k ∧ n = .int .i64 v ∧ (v : Int) ≤ 21474836479 ∧ Hid (val (s.data.toList.take k) = v) ∧ Hid ((s.data.toList.take k).all isDig = true)) (fun _ _ i => s.size - (intOf i).toNat)
  case atStart => exact ⟨0, 0, Nat.zero_le _, rfl, rfl, by decide, rfl, rfl⟩
  case round =>
    obtain ⟨k, v, hk, rfl, rfl, hv, HV, HD⟩ := hrel
    by_cases hlt : k < s.size
    · by_cases hd : 48 ≤ (s[k].toNat : Int) ∧ (s[k].toNat : Int) ≤ 57
      · have h3 : (cls s[k].toNat != 3) = false := by rw [cls_dig]; simp only [hd.1, hd.2, decide_true, Bool.and_self, Bool.not_true]
        obtain ⟨hd1, hd2⟩ := hd
        by_cases hb : (v : Int) ≤ 2147483647
        · have HV2 : Hid (val (s.data.toList.take (k + 1)) = 10 * v + (s[k].toNat - 48)) := by rw [Hid, val_take_snoc s k hlt, HV.out]
          have HD2 := Lib.hid (num_on s k hlt HD.out hd1 hd2)
          go_wp2_with (go_at_call 124; refine (class_any _ _).mono ?_; rintro e w' ⟨rfl, rfl⟩)
          go_round
          case rel => exact ⟨k + 1, 10 * v + (s[k].toNat - 48), by omega, by go_num, by congr 1; omega, by omega, HV2.out, HD2.out⟩
          case measure => simp [intOf]; omega
        · have HF : Hid (okN s.data.toList = false) := okN_great _ (by have := val_take s k; rw [HV.out] at this; omega)
          go_wp2_with (go_at_call 124; refine (class_any _ _).mono ?_; rintro e w' ⟨rfl, rfl⟩)
          go_ret2
          exact ⟨ret_num (by rw [numN_no _ HF.out]) HF.out.symm, Below.refl _ _⟩
      · have HF := Lib.hid (num_bad s k hlt hd)
        have h3 : (cls s[k].toNat != 3) = true := by
          rw [cls_dig]; simp only [Bool.not_eq_true', Bool.and_eq_false_iff, decide_eq_false_iff_not]; omega
        clear hd
        go_wp2_with (go_at_call 124; refine (class_any _ _).mono ?_; rintro e w' ⟨rfl, rfl⟩)
        go_ret2
        exact ⟨ret_num (by rw [numN_no _ HF.out]) HF.out.symm, Below.refl _ _⟩
    · have HV2 : Hid (val s.data.toList = v) := by have := HV.out; rwa [take_all s k hlt] at this
      have HD2 : Hid (s.data.toList.all isDig = true) := by have := HD.out; rwa [take_all s k hlt] at this
      by_cases hb : (v : Int) ≤ 2147483647
      · by_cases he : dec v = s.data.toList
        · have hne : (digs v == s.toList) = true := by rw [beq_iff_eq, Lib.toList_data, digs_pos _ (by omega)]; simpa using he
          have HF : Hid (okN s.data.toList = true) := okN_ok _ HD2.out (by rw [HV2.out]; omega) (by rw [HV2.out]; exact he)
          have HG : Hid (numN s.data.toList = v) := by rw [Hid, numN_ok _ HF.out, HV2.out]
          clear he
          go_wp2_with (go_at_call 82; refine (Digits_any _ _ (by omega) (by omega)).mono ?_; rintro e w' ⟨rfl, hb'⟩)
          go_ret2
          exact ⟨ret_num HG.out.symm HF.out.symm, hb'⟩
        · have hne : (digs v == s.toList) = false := by
            rw [beq_eq_false_iff_ne, Lib.toList_data, digs_pos _ (by omega)]; simpa using he
          have HF : Hid (okN s.data.toList = false) := okN_other _ (by rw [HV2.out]; exact he)
          clear he
          go_wp2_with (go_at_call 82; refine (Digits_any _ _ (by omega) (by omega)).mono ?_; rintro e w' ⟨rfl, hb'⟩)
          go_ret2
          exact ⟨ret_num (by rw [numN_no _ HF.out]) HF.out.symm, hb'⟩
      · have HF : Hid (okN s.data.toList = false) := okN_great _ (by rw [HV2.out]; omega)
        go_wp2
        go_ret2
        exact ⟨ret_num (by rw [numN_no _ HF.out]) HF.out.symm, Below.refl _ _⟩

theorem pow_mono_ten (k : Nat) (h : k + 1 ≤ 10) : 10 ^ (k + 1) ≤ 10000000000 := Nat.le_trans (Nat.pow_le_pow_right (by decide) h) (by decide)
theorem data_nil (s : ByteArray) (h : ¬ 0 < s.size) : s.data.toList = [] := List.eq_nil_of_length_eq_zero (by rw [length_data]; omega)
theorem data_ne_nil (s : ByteArray) (h : 0 < s.size) : s.data.toList ≠ [] := fun e => by have := length_data s; rw [e] at this; simp at this; omega
theorem head_data (s : ByteArray) (h : 0 < s.size) : s.data.toList.head (data_ne_nil s h) = s[0] := by
  rw [List.head_eq_getElem]; rfl
theorem byte_eq (c : UInt8) : ((c.toNat : Int) == 48) = (c == 48) := by
  rw [Bool.eq_iff_iff, beq_iff_eq, beq_iff_eq, ← UInt8.toNat_inj]
  have : (48 : UInt8).toNat = 48 := rfl
  omega

set_option maxHeartbeats 2000000 in
theorem rnumber_any (s : ByteArray) (w : World) (hs : s.size ≤ maxLen) :
    Calls Try.prog 134 #[.string s] w fun e w' => e = .returned (.tuple #[.int .i64 (numN s.data.toList), .bool (okN s.data.toList)]) ∧ Below w.heap.size w w' := by
  unfold maxLen at hs
  by_cases h0 : 0 < s.size
  · have g0 : ((s.size : Int) == 0) = false := by rw [beq_eq_false_iff_ne]; omega
    by_cases h10 : 10 < s.size
    · have HF : Hid (okN s.data.toList = false) := okN_long _ (by rw [length_data]; exact h10)
      go_enter Try.func134, Try.ntmps134
      go_wp2
      go_ret2
      exact ⟨ret_num (by rw [numN_no _ HF.out]) HF.out.symm, Below.refl _ _⟩
    · by_cases hz : 1 < s.size ∧ ((s[0].toNat : Int) == 48) = true
      · obtain ⟨z1, z2⟩ := hz
        have HF : Hid (okN s.data.toList = false) := okN_nought _ (data_ne_nil s h0) (by rw [length_data]; exact z1) (by rw [head_data s h0]; rw [byte_eq, beq_iff_eq] at z2; exact z2)
        go_enter Try.func134, Try.ntmps134
        go_wp2
        go_ret2
        exact ⟨ret_num (by rw [numN_no _ HF.out]) HF.out.symm, Below.refl _ _⟩
      · have HZ : Hid (1 < s.size → s[0] ≠ 48) := fun h1 e => hz ⟨h1, by rw [byte_eq, e]; rfl⟩
        have hz' : ¬ 1 < s.size ∨ 1 < s.size ∧ ((s[0].toNat : Int) == 48) = false := by
          by_cases h1 : 1 < s.size
          · right; rw [← Bool.not_eq_true]; exact ⟨h1, fun h => hz ⟨h1, h⟩⟩
          · exact .inl h1
        clear hz
        rcases hz' with hz | ⟨hz, hz2⟩
        all_goals
          go_enter Try.func134, Try.ntmps134
          go_wp2
          go_loop [4, 5] (fun n i => ∃ k v : Nat, k ≤ s.size ∧ i = .int .i64 k ∧ n = .int .i64 v ∧ (v : Int) ≤ 9999999999 ∧ Hid (v < 10 ^ k) ∧ Hid (val (s.data.toList.take k) = v) ∧ Hid ((s.data.toList.take k).all isDig = true)) (fun _ i => s.size - (intOf i).toNat)
          case atStart => exact ⟨0, 0, Nat.zero_le _, rfl, rfl, by decide, Nat.zero_lt_one, rfl, rfl⟩
          case round =>
            obtain ⟨k, v, hk, rfl, rfl, hv, HP, HV, HD⟩ := hrel
            by_cases hlt : k < s.size
            · by_cases hd : 48 ≤ (s[k].toNat : Int) ∧ (s[k].toNat : Int) ≤ 57
              · have h3 : (cls s[k].toNat != 3) = false := by rw [cls_dig]; simp only [hd.1, hd.2, decide_true, Bool.and_self, Bool.not_true]
                obtain ⟨hd1, hd2⟩ := hd
                have HV2 : Hid (val (s.data.toList.take (k + 1)) = 10 * v + (s[k].toNat - 48)) := by rw [Hid, val_take_snoc s k hlt, HV.out]
                have HD2 := Lib.hid (num_on s k hlt HD.out hd1 hd2)
                have HP2 : Hid (10 * v + (s[k].toNat - 48) < 10 ^ (k + 1)) := by have := HP.out; show _ < _; rw [Nat.pow_succ]; omega
                have hb2 : 10 * (v : Int) + (s[k].toNat : Int) - 48 ≤ 9999999999 := by have := HP2.out; have := pow_mono_ten k (by omega); omega
                go_wp2_with (go_at_call 131; refine (rclass_any _ _).mono ?_; rintro e w' ⟨rfl, rfl⟩)
                go_round
                case rel => exact ⟨k + 1, 10 * v + (s[k].toNat - 48), by omega, by go_num, by congr 1; omega, by omega, HP2.out, HV2.out, HD2.out⟩
                case measure => simp [intOf]; omega
              · have HF := Lib.hid (num_bad s k hlt hd)
                have h3 : (cls s[k].toNat != 3) = true := by
                  rw [cls_dig]; simp only [Bool.not_eq_true', Bool.and_eq_false_iff, decide_eq_false_iff_not]; omega
                clear hd
                go_wp2_with (go_at_call 131; refine (rclass_any _ _).mono ?_; rintro e w' ⟨rfl, rfl⟩)
                go_ret2
                exact ⟨ret_num (by rw [numN_no _ HF.out]) HF.out.symm, Below.refl _ _⟩
            · have HV2 : Hid (val s.data.toList = v) := by have := HV.out; rwa [take_all s k hlt] at this
              have HD2 : Hid (s.data.toList.all isDig = true) := by have := HD.out; rwa [take_all s k hlt] at this
              by_cases hb : (v : Int) ≤ 2147483647
              · have HF : Hid (okN s.data.toList = true) := okN_ok _ HD2.out (by rw [HV2.out]; omega)
                  (dec_val _ s.data.toList rfl HD2.out (data_ne_nil s h0) (fun h => by rw [head_data s h0]; rw [length_data] at h; exact HZ.out h)).1
                have HG : Hid (numN s.data.toList = v) := by rw [Hid, numN_ok _ HF.out, HV2.out]
                go_wp2
                go_ret2
                exact ⟨ret_num HG.out.symm HF.out.symm, Below.refl _ _⟩
              · have HF : Hid (okN s.data.toList = false) := okN_great _ (by rw [HV2.out]; omega)
                go_wp2
                go_ret2
                exact ⟨ret_num (by rw [numN_no _ HF.out]) HF.out.symm, Below.refl _ _⟩
  · have g0 : ((s.size : Int) == 0) = true := by rw [beq_iff_eq]; omega
    have HF : Hid (okN s.data.toList = false) := by rw [Hid, data_nil s h0]; exact okN_nil
    go_enter Try.func134, Try.ntmps134
    go_wp2
    go_ret2
    exact ⟨ret_num (by rw [numN_no _ HF.out]) HF.out.symm, Below.refl _ _⟩
end Go.Proofs.Ytppejoccljfblaa
