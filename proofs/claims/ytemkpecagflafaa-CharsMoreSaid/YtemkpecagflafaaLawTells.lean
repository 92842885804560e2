/-
  The walks of the laws CharsTells and CharsMore: they answer true at every input. No condition but a text's size.
-/
import Derived.Test.YtemkpecagflafaaLawDig
import Derived.Test.YtemkpecagflafaaTexts
namespace Go.Proofs.Ytemkpecagflafaa
open Go.RowKit
attribute [local go_sem] toList_beq empty_beq conv_one

theorem rd_two (w : World) : Rd (w.heap.size + 2) ((w.alloc (.cells (strs symbols).toArray 9)).alloc (.cells (strs symbols).toArray 9)) (some ⟨w.heap.size, 0, none⟩) 11 11 1 (strs symbols) ∧
    Rd (w.heap.size + 2) ((w.alloc (.cells (strs symbols).toArray 9)).alloc (.cells (strs symbols).toArray 9)) (some ⟨w.heap.size + 1, 0, none⟩) 11 11 1 (strs symbols) := by
  have h1 := rd_new w (strs symbols).toArray 9 11 1 rfl (by decide)
  have h2 := rd_new (w.alloc (.cells (strs symbols).toArray 9)) (strs symbols).toArray 9 11 1 rfl (by decide)
  rw [World.size_alloc] at h2
  exact ⟨(h1.mono ((Below.refl _ _).alloc (by simp) _)).le (by omega), h2⟩

set_option maxHeartbeats 2000000 in
theorem charsTells_any (b : Int) (s : ByteArray) (w : World) (hs : s.size ≤ maxLen) :
    Calls Try.prog 8 #[.int .u8 b, .string s] w fun e w' => e = .returned (.bool true) ∧ Below w.heap.size w w' := by
  have hs2 := hs
  unfold maxLen at hs2
  have hb := Below.refl w.heap.size w
  by_cases h100 : 100 < s.size
  · go_enter Try.func8, Try.ntmps8
    go_wp2_with (first | (go_at_call 24; refine (awake01 _).mono ?_; (rintro e w' ⟨rfl, hb'⟩; (first | replace hb := Below.to hb hb' | replace hb := Below.toA hb hb' | replace hb := Below.to1 hb hb' | replace hb := Below.toN hb hb' | replace hb := Below.toAA hb hb' | replace hb := Below.toNA hb hb'); clear hb')))
    go_ret
    exact ⟨rfl, hb⟩
  · obtain ⟨c1, h1⟩ : ∃ c, isWord s 1 = c := ⟨_, rfl⟩
    obtain ⟨c2, h2⟩ : ∃ c, isKey s = c := ⟨_, rfl⟩
    have hrd := rd_two
    have HR := Lib.hid hrd
    clear hrd
    cases c1 <;> cases c2
    all_goals
      go_enter Try.func8, Try.ntmps8
      go_wp2_with (first | (go_at_call 24; refine (awake01 _).mono ?_; (rintro e w' ⟨rfl, hb'⟩; (first | replace hb := Below.to hb hb' | replace hb := Below.toA hb hb' | replace hb := Below.to1 hb hb' | replace hb := Below.toN hb hb' | replace hb := Below.toAA hb hb' | replace hb := Below.toNA hb hb'); clear hb')) | (go_at_call 26; refine (number_any _ _ hs).mono ?_; (rintro e w' ⟨rfl, hb'⟩; (first | replace hb := Below.to hb hb' | replace hb := Below.toA hb hb' | replace hb := Below.to1 hb hb' | replace hb := Below.toN hb hb' | replace hb := Below.toAA hb hb' | replace hb := Below.toNA hb hb'); clear hb')) | (go_at_call 32; refine (rnumber_any _ _ hs).mono ?_; (rintro e w' ⟨rfl, hb'⟩; (first | replace hb := Below.to hb hb' | replace hb := Below.toA hb hb' | replace hb := Below.to1 hb hb' | replace hb := Below.toN hb hb' | replace hb := Below.toAA hb hb' | replace hb := Below.toNA hb hb'); clear hb')) | (go_at_call 30; refine (class_any _ _).mono ?_; (rintro e w' ⟨rfl, rfl⟩)) | (go_at_call 33; refine (rclass_any _ _).mono ?_; (rintro e w' ⟨rfl, rfl⟩)) | (go_at_call 28; refine (name_any _ _ hs).mono ?_; (rintro e w' ⟨rfl, hb'⟩; (first | replace hb := Below.to hb hb' | replace hb := Below.toA hb hb' | replace hb := Below.to1 hb hb' | replace hb := Below.toN hb hb' | replace hb := Below.toAA hb hb' | replace hb := Below.toNA hb hb'); clear hb')) | (go_at_call 34; refine (rword_any _ _ _ hs).mono ?_; (rintro e w' ⟨rfl, rfl⟩)) | (go_at_call 29; refine (upper_any _ _ hs).mono ?_; (rintro e w' ⟨rfl, rfl⟩)) | (go_at_call 31; refine (key_any _ _).mono ?_; (rintro e w' ⟨rfl, hb'⟩; (first | replace hb := Below.to hb hb' | replace hb := Below.toA hb hb' | replace hb := Below.to1 hb hb' | replace hb := Below.toN hb hb' | replace hb := Below.toAA hb hb' | replace hb := Below.toNA hb hb'); clear hb')) | (go_at_call 35; refine (rkey_any _ _).mono ?_; (rintro e w' ⟨rfl, hb'⟩; (first | replace hb := Below.to hb hb' | replace hb := Below.toA hb hb' | replace hb := Below.to1 hb hb' | replace hb := Below.toN hb hb' | replace hb := Below.toAA hb hb' | replace hb := Below.toNA hb hb'); clear hb')))
    all_goals
      obtain ⟨r1, r2⟩ := HR.out w'
      go_wp2_with (first | (go_at_call 37; refine (symbols_any _).mono ?_; rintro e w2 ⟨rfl, rfl⟩) | (go_at_call 38; refine (rsymbols_any _).mono ?_; rintro e w2 ⟨rfl, rfl⟩) | (go_at_call 36; refine (texts_any _ r1 r2 (by simp) (by simp)).mono ?_; rintro e w2 ⟨rfl, hb'⟩))
      go_ret
      exact ⟨ret_bool (by simp), hb.trans ((((Below.refl _ _).alloc hb.size _).alloc (by simp; have := hb.size; omega) _).trans (hb'.mono (by simp; have := hb.size; omega)))⟩

theorem app_data (s : ByteArray) (c : UInt8) : (s ++ ⟨#[c]⟩).data.toList = s.data.toList ++ [c] := by
  show (s.append ⟨#[c]⟩).data.toList = _
  simp [ByteArray.append]
theorem app_size (s : ByteArray) (c : UInt8) : (s ++ ⟨#[c]⟩).size = s.size + 1 := by
  rw [← length_data, app_data, List.length_append, length_data]; rfl
theorem isWord_more (s : ByteArray) (c : UInt8) (f : Int) (h : 0 < s.size) : isWord (s ++ ⟨#[c]⟩) f = (decide (s.size + 1 ≤ 24) && isWord s f && part c.toNat) := by
  have h1 : (s.data.toList ++ [c]).getD 0 0 = s.data.toList.getD 0 0 := by
    have : 0 < s.data.toList.length := by rw [length_data]; exact h
    rw [List.getD_eq_getElem?_getD, List.getD_eq_getElem?_getD, List.getElem?_append_left this]
  have h2 : 0 < s.size + 1 := by omega
  unfold isWord
  rw [app_size, app_data, h1, List.all_append]
  by_cases h3 : s.size + 1 ≤ 24
  · have h4 : s.size ≤ 24 := by omega
    rw [decide_eq_true h2, decide_eq_true h3, decide_eq_true h, decide_eq_true h4]
    simp [Bool.and_assoc]
  · rw [decide_eq_false h3]; simp

theorem isWord_pos (s : ByteArray) (f : Int) (h : isWord s f = true) : 0 < s.size := by
  by_cases h0 : 0 < s.size
  · exact h0
  · rw [isWord_empty s f h0] at h; cases h
theorem isWord_both (s : ByteArray) (h : isWord s 1 = true) : isWord s 2 = false := by
  have h0 := isWord_pos s 1 h
  rw [← Bool.not_eq_true]
  intro h2
  simp only [isWord, Bool.and_eq_true, beq_iff_eq] at h h2
  rw [h.1.2] at h2
  exact absurd h2.1.2 (by decide)
theorem isWord_both' (s : ByteArray) (h : isWord s 2 = true) : isWord s 1 = false := by
  rw [← Bool.not_eq_true]; intro h1; rw [isWord_both s h1] at h; cases h
/-- The ways to be part of a word, or not. -/
theorem part_cases (b : Int) : ((b == 95) = true ∧ part b = true) ∨ ((b == 95) = false ∧ (cls b == 1) = true ∧ part b = true) ∨ ((b == 95) = false ∧ (cls b == 1) = false ∧ (cls b == 2) = true ∧ part b = true) ∨
    ((b == 95) = false ∧ (cls b == 1) = false ∧ (cls b == 2) = false ∧ (cls b == 3) = true ∧ part b = true) ∨ ((b == 95) = false ∧ (cls b == 1) = false ∧ (cls b == 2) = false ∧ (cls b == 3) = false ∧ part b = false) := by
  have hr := cls_range b
  by_cases h : b = 95
  · exact .inl ⟨by rw [beq_iff_eq]; exact h, part_yes' b (.inl h)⟩
  · have h' : (b == 95) = false := by rw [beq_eq_false_iff_ne]; exact h
    by_cases h1 : cls b = 1
    · exact .inr (.inl ⟨h', by rw [h1]; rfl, part_yes' b (by omega)⟩)
    · have h1' : (cls b == 1) = false := by rw [beq_eq_false_iff_ne]; exact h1
      by_cases h2 : cls b = 2
      · exact .inr (.inr (.inl ⟨h', h1', by rw [h2]; rfl, part_yes' b (by omega)⟩))
      · have h2' : (cls b == 2) = false := by rw [beq_eq_false_iff_ne]; exact h2
        by_cases h3 : cls b = 3
        · exact .inr (.inr (.inr (.inl ⟨h', h1', h2', by rw [h3]; rfl, part_yes' b (by omega)⟩)))
        · exact .inr (.inr (.inr (.inr ⟨h', h1', h2', by rw [beq_eq_false_iff_ne]; exact h3, part_no' b (by omega)⟩)))
theorem byte_of (b : Int) (h0 : 0 ≤ b) (h1 : b ≤ 255) : ((UInt8.ofNat b.toNat).toNat : Int) = b := by
  rw [UInt8.toNat_ofNat']; omega

set_option maxRecDepth 100000 in
set_option maxHeartbeats 4000000 in
theorem charsMore_any (b : Int) (s : ByteArray) (w : World) (hs : s.size ≤ maxLen) (hb0 : 0 ≤ b) (hb1 : b ≤ 255) :
    Calls Try.prog 7 #[.string s, .int .u8 b] w fun e w' => e = .returned (.bool true) ∧ Below w.heap.size w w' := by
  have hs2 := hs
  unfold maxLen at hs2
  have hb := Below.refl w.heap.size w
  by_cases h100 : 100 < s.size
  · go_enter Try.func7, Try.ntmps7
    go_wp2_with (first | (go_at_call 24; refine (awake01 _).mono ?_; (rintro e w' ⟨rfl, hb'⟩; (first | replace hb := Below.to hb hb' | replace hb := Below.toA hb hb' | replace hb := Below.to1 hb hb' | replace hb := Below.toN hb hb' | replace hb := Below.toAA hb hb' | replace hb := Below.toNA hb hb'); clear hb')))
    go_ret
    exact ⟨rfl, hb⟩
  · have hcase : (isWord s 1 = true ∧ isKey s = false ∧ isWord s 2 = false) ∨ (isWord s 2 = true ∧ isWord s 1 = false) ∨ ((isWord s 1 && !isKey s) = false ∧ isWord s 2 = false) := by
      cases h2 : isWord s 2
      · cases h1 : isWord s 1
        · exact .inr (.inr ⟨rfl, rfl⟩)
        · cases h3 : isKey s
          · exact .inl ⟨rfl, rfl, rfl⟩
          · exact .inr (.inr ⟨rfl, rfl⟩)
      · exact .inr (.inl ⟨rfl, isWord_both' s h2⟩)
    have hm1 := fun h => isWord_more s (UInt8.ofNat b.toNat) 1 h
    have hm2 := fun h => isWord_more s (UInt8.ofNat b.toNat) 2 h
    rw [byte_of b hb0 hb1] at hm1 hm2
    have hlt : (s ++ ⟨#[UInt8.ofNat b.toNat]⟩).size ≤ maxLen := by rw [app_size]; unfold maxLen; omega
    have hsz := app_size s (UInt8.ofNat b.toNat)
    have HP := part_cases b
    rcases hcase with ⟨c1, c2, c3⟩ | ⟨c1, c2⟩ | ⟨c1, c2⟩
    · have h0 := isWord_pos s 1 c1
      replace hm1 := hm1 h0
      replace hm2 := hm2 h0
      rw [c1] at hm1
      rw [c3] at hm2
      rcases HP with ⟨p1, p⟩ | ⟨p1, p2, p⟩ | ⟨p1, p2, p3, p⟩ | ⟨p1, p2, p3, p4, p⟩ | ⟨p1, p2, p3, p4, p⟩
      all_goals
        rw [p] at hm1 hm2
        simp only [Bool.and_true, Bool.and_false] at hm1 hm2
        go_enter Try.func7, Try.ntmps7
        go_wp2_with (first | (go_at_call 24; refine (awake01 _).mono ?_; (rintro e w' ⟨rfl, hb'⟩; (first | replace hb := Below.to hb hb' | replace hb := Below.toA hb hb' | replace hb := Below.to1 hb hb' | replace hb := Below.toN hb hb' | replace hb := Below.toAA hb hb' | replace hb := Below.toNA hb hb'); clear hb')) | (go_at_call 30; refine (class_any _ _).mono ?_; (rintro e w' ⟨rfl, rfl⟩)) | (go_at_call 28; refine (name_any _ _ (by assumption)).mono ?_; (rintro e w' ⟨rfl, hb'⟩; (first | replace hb := Below.to hb hb' | replace hb := Below.toA hb hb' | replace hb := Below.to1 hb hb' | replace hb := Below.toN hb hb' | replace hb := Below.toAA hb hb' | replace hb := Below.toNA hb hb'); clear hb')) | (go_at_call 29; refine (upper_any _ _ (by assumption)).mono ?_; (rintro e w' ⟨rfl, rfl⟩)) | (go_at_call 31; refine (key_any _ _).mono ?_; (rintro e w' ⟨rfl, hb'⟩; (first | replace hb := Below.to hb hb' | replace hb := Below.toA hb hb' | replace hb := Below.to1 hb hb' | replace hb := Below.toN hb hb' | replace hb := Below.toAA hb hb' | replace hb := Below.toNA hb hb'); clear hb')))
      all_goals
        go_ret
        refine ⟨ret_bool ?_, hb⟩
        first | rfl | (simp; done) | (simp; omega) | (simp; intro _; omega)
    · have h0 := isWord_pos s 2 c1
      replace hm1 := hm1 h0
      replace hm2 := hm2 h0
      rw [c2] at hm1
      rw [c1] at hm2
      rcases HP with ⟨p1, p⟩ | ⟨p1, p2, p⟩ | ⟨p1, p2, p3, p⟩ | ⟨p1, p2, p3, p4, p⟩ | ⟨p1, p2, p3, p4, p⟩
      all_goals
        rw [p] at hm1 hm2
        simp only [Bool.and_true, Bool.and_false] at hm1 hm2
        go_enter Try.func7, Try.ntmps7
        go_wp2_with (first | (go_at_call 24; refine (awake01 _).mono ?_; (rintro e w' ⟨rfl, hb'⟩; (first | replace hb := Below.to hb hb' | replace hb := Below.toA hb hb' | replace hb := Below.to1 hb hb' | replace hb := Below.toN hb hb' | replace hb := Below.toAA hb hb' | replace hb := Below.toNA hb hb'); clear hb')) | (go_at_call 30; refine (class_any _ _).mono ?_; (rintro e w' ⟨rfl, rfl⟩)) | (go_at_call 28; refine (name_any _ _ (by assumption)).mono ?_; (rintro e w' ⟨rfl, hb'⟩; (first | replace hb := Below.to hb hb' | replace hb := Below.toA hb hb' | replace hb := Below.to1 hb hb' | replace hb := Below.toN hb hb' | replace hb := Below.toAA hb hb' | replace hb := Below.toNA hb hb'); clear hb')) | (go_at_call 29; refine (upper_any _ _ (by assumption)).mono ?_; (rintro e w' ⟨rfl, rfl⟩)) | (go_at_call 31; refine (key_any _ _).mono ?_; (rintro e w' ⟨rfl, hb'⟩; (first | replace hb := Below.to hb hb' | replace hb := Below.toA hb hb' | replace hb := Below.to1 hb hb' | replace hb := Below.toN hb hb' | replace hb := Below.toAA hb hb' | replace hb := Below.toNA hb hb'); clear hb')))
      all_goals
        go_ret
        refine ⟨ret_bool ?_, hb⟩
        first | rfl | (simp; done) | (simp; omega) | (simp; intro _; omega)
    · clear hm1 hm2 HP hsz
      rw [Bool.and_eq_false_iff] at c1
      rcases c1 with c1 | c1
      all_goals
        go_enter Try.func7, Try.ntmps7
        go_wp2_with (first | (go_at_call 24; refine (awake01 _).mono ?_; (rintro e w' ⟨rfl, hb'⟩; (first | replace hb := Below.to hb hb' | replace hb := Below.toA hb hb' | replace hb := Below.to1 hb hb' | replace hb := Below.toN hb hb' | replace hb := Below.toAA hb hb' | replace hb := Below.toNA hb hb'); clear hb')) | (go_at_call 28; refine (name_any _ _ (by assumption)).mono ?_; (rintro e w' ⟨rfl, hb'⟩; (first | replace hb := Below.to hb hb' | replace hb := Below.toA hb hb' | replace hb := Below.to1 hb hb' | replace hb := Below.toN hb hb' | replace hb := Below.toAA hb hb' | replace hb := Below.toNA hb hb'); clear hb')) | (go_at_call 29; refine (upper_any _ _ (by assumption)).mono ?_; (rintro e w' ⟨rfl, rfl⟩)))
        all_goals
          go_ret
          exact ⟨rfl, hb⟩
end Go.Proofs.Ytemkpecagflafaa
