/-
  The walks of words: Key, Symbols, word, Word, Name, Upper. No condition but sizes.
-/
import Derived.Test.YtppejoccljfblaaChars
import Derived.Test.YtppejoccljfblaaBase2
namespace Go.Proofs.Ytppejoccljfblaa
open Go.RowKit
attribute [local go_sem] toList_beq empty_beq

def keyWords : List ByteArray := [⟨#[100, 97, 116, 97]⟩, ⟨#[108, 101, 116]⟩, ⟨#[102, 114, 101, 101]⟩, ⟨#[105, 110]⟩, ⟨#[105, 102]⟩, ⟨#[116, 104, 101, 110]⟩, ⟨#[101, 108, 115, 101]⟩]
def isKey (s : ByteArray) : Bool := keyWords.any (s == ·)

theorem key_any (s : ByteArray) (w : World) :
    Calls Try.prog 173 #[.string s] w fun e w' => e = .returned (.bool (isKey s)) ∧ Below w.heap.size w w' := by
  have hb := Lib.hid (below_new w (.cells (strs keyWords).toArray 9))
  go_enter Try.func173, Try.ntmps173
  go_wp2_with (go_at_call 189; refine (contains_str (l := keyWords) s _ (rd_new w (strs keyWords).toArray 9 7 1 rfl (by decide))).mono ?_; rintro e w' ⟨rfl, rfl⟩)
  go_ret
  exact ⟨rfl, hb.out⟩

theorem rkey_any (s : ByteArray) (w : World) :
    Calls Try.prog 132 #[.string s] w fun e w' => e = .returned (.bool (isKey s)) ∧ Below w.heap.size w w' := by
  have hb := Lib.hid (below_new w (.cells (strs keyWords).toArray 9))
  go_enter Try.func132, Try.ntmps132
  go_wp2_with (go_at_call 19; refine (in_str (l := keyWords) s _ (rd_new w (strs keyWords).toArray 9 7 1 rfl (by decide))).mono ?_; rintro e w' ⟨rfl, rfl⟩)
  go_ret
  exact ⟨rfl, hb.out⟩

def symbols : List ByteArray := [⟨#[61, 61]⟩, ⟨#[61]⟩, ⟨#[124]⟩, ⟨#[63]⟩, ⟨#[60]⟩, ⟨#[43]⟩, ⟨#[45]⟩, ⟨#[42]⟩, ⟨#[40]⟩, ⟨#[41]⟩, ⟨#[95]⟩]
theorem symbols_any (w : World) :
    Calls Try.prog 130 #[] w fun e w' => e = .returned (.slice (some ⟨w.heap.size, 0, none⟩) 11 11) ∧ w.alloc (.cells (strs symbols).toArray 9) = w' := by
  go_enter Try.func130, Try.ntmps130
  go_wp2
  go_ret
  exact ⟨rfl, rfl⟩
theorem rsymbols_any (w : World) :
    Calls Try.prog 135 #[] w fun e w' => e = .returned (.slice (some ⟨w.heap.size, 0, none⟩) 11 11) ∧ w.alloc (.cells (strs symbols).toArray 9) = w' := by
  go_enter Try.func135, Try.ntmps135
  go_wp2
  go_ret
  exact ⟨rfl, rfl⟩

def part (c : Int) : Bool := c == 95 || (decide (1 ≤ cls c) && decide (cls c ≤ 3))
def isWord (s : ByteArray) (first : Int) : Bool := decide (0 < s.size) && decide (s.size ≤ 24) && (cls (s.data.toList.getD 0 0).toNat == first) && s.data.toList.all fun c => part c.toNat

theorem cls_range (c : Int) : 0 ≤ cls c ∧ cls c ≤ 6 := by unfold cls; repeat' split <;> try omega


theorem isWord_empty (s : ByteArray) (first : Int) (h : ¬ 0 < s.size) : isWord s first = false := by simp [isWord, h]
theorem isWord_long (s : ByteArray) (first : Int) (h : 24 < s.size) : isWord s first = false := by
  have : ¬ s.size ≤ 24 := by omega
  simp [isWord, this]
theorem getD_zero (s : ByteArray) (h : 0 < s.size) : s.data.toList.getD 0 0 = s[0] := by
  have : 0 < s.data.toList.length := by rw [length_data]; exact h
  rw [List.getD_eq_getElem?_getD, List.getElem?_eq_getElem this]; rfl
theorem isWord_first (s : ByteArray) (first : Int) (h : 0 < s.size) (hc : (cls s[0].toNat == first) = false) : isWord s first = false := by
  unfold isWord; rw [getD_zero s h, hc]; simp
theorem isWord_main (s : ByteArray) (first : Int) (h : 0 < s.size) (h2 : ¬ 24 < s.size) (hc : (cls s[0].toNat == first) = true) : isWord s first = s.data.toList.all fun c => part c.toNat := by
  have h3 : s.size ≤ 24 := by omega
  unfold isWord; rw [getD_zero s h, hc]; simp [h, h3]
theorem all_take_snoc (s : ByteArray) (f : UInt8 → Bool) (k : Nat) (h : k < s.size) : (s.data.toList.take (k + 1)).all f = ((s.data.toList.take k).all f && f s[k]) := by
  rw [take_snoc s k h]; simp
theorem all_of_bad (s : ByteArray) (f : UInt8 → Bool) (k : Nat) (h : k < s.size) (hf : f s[k] = false) : s.data.toList.all f = false := by
  rw [List.all_eq_false]; exact ⟨_, mem_byte s k h, by rw [hf]; decide⟩
theorem part_yes (c : Int) (h : (c == 95) = true ∨ (1 ≤ cls c ∧ cls c ≤ 3)) : part c = true := by
  unfold part; rcases h with h | ⟨h1, h2⟩
  · rw [h]; rfl
  · simp [h1, h2]
theorem part_no (c : Int) (h : (c == 95) = false) (h2 : cls c < 1 ∨ 3 < cls c) : part c = false := by
  unfold part; rw [h]; simp; omega
theorem part_yes' (c : Int) (h : c = 95 ∨ (1 ≤ cls c ∧ cls c ≤ 3)) : part c = true := by
  simp only [part, Bool.or_eq_true, beq_iff_eq, Bool.and_eq_true, decide_eq_true_eq]; omega
theorem part_no' (c : Int) (h : ¬ c = 95 ∧ (cls c < 1 ∨ 3 < cls c)) : part c = false := by
  rw [← Bool.not_eq_true]; simp only [part, Bool.or_eq_true, beq_iff_eq, Bool.and_eq_true, decide_eq_true_eq]; omega

set_option maxHeartbeats 1000000 in
theorem word_any (s : ByteArray) (first : Int) (w : World) (hs : s.size ≤ maxLen) :
    Calls Try.prog 190 #[.string s, .int .i64 first] w fun e w' => e = .returned (.bool (isWord s first)) ∧ w = w' := by
  unfold maxLen at hs
  by_cases h0 : 0 < s.size
  · have h1 : (s == ⟨#[]⟩) = false := by rw [beq_eq_false_iff_ne]; rintro rfl; exact absurd h0 (by decide)
    by_cases h2 : 24 < s.size
    · have HF := Lib.hid (isWord_long s first h2)
      go_enter Try.func190, Try.ntmps190
      go_wp2
      go_step3
      go_wp2
      try rw [Exit.noGoto_ret]
      go_ret
      exact ⟨ret_bool HF.out.symm, rfl⟩
    · by_cases h3 : (cls s[0].toNat == first) = true
      · have h3' : (cls s[0].toNat != first) = false := by rw [bne, h3]; rfl
        have HF := Lib.hid (isWord_main s first h0 h2 h3)
        clear h3
        go_enter Try.func190, Try.ntmps190
        go_wp2
        go_step3
        go_wp2_with (go_at_call 124; refine (class_any _ _).mono ?_; rintro e w' ⟨rfl, rfl⟩)
        go_step3
        go_wp2
        go_loop [5, 6, 23] (fun _ _ i => ∃ k : Nat, k ≤ s.size ∧ i = .int .i64 k ∧ Hid ((s.data.toList.take k).all (fun c => part c.toNat) = true)) (fun _ _ i => s.size - (intOf i).toNat)
        case atStart => exact ⟨0, Nat.zero_le _, rfl, rfl⟩
        case round =>
          obtain ⟨k, hk, rfl, Hn⟩ := hrel
          by_cases hlt : k < s.size
          · have hcr := cls_range s[k].toNat
            go_wp2_with (go_at_call 124; refine (class_any _ _).mono ?_; rintro e w' ⟨rfl, rfl⟩)
            all_goals first
              | (go_round
                 case rel => exact ⟨k + 1, by omega, by go_num, by rw [all_take_snoc _ _ _ hlt, Hn.out, part_yes _ (by first | exact .inl ‹_› | exact .inr (by omega))]; rfl⟩
                 case measure => simp [intOf]; omega)
              | (try rw [Exit.noGoto_ret]
                 go_ret
                 exact ⟨ret_bool (by rw [HF.out]; exact (all_of_bad s _ k hlt (part_no _ ‹_› (by omega))).symm), rfl⟩)
          · go_wp2
            try rw [Exit.noGoto_ret]
            go_ret
            exact ⟨ret_bool (by rw [HF.out]; have := Hn.out; rw [take_all s k hlt] at this; exact this.symm), rfl⟩
      · have h3 : (cls s[0].toNat == first) = false := by simpa using h3
        have h3' : (cls s[0].toNat != first) = true := by rw [bne, h3]; rfl
        have HF := Lib.hid (isWord_first s first h0 h3)
        clear h3
        go_enter Try.func190, Try.ntmps190
        go_wp2
        go_step3
        go_wp2_with (go_at_call 124; refine (class_any _ _).mono ?_; rintro e w' ⟨rfl, rfl⟩)
        try rw [Exit.noGoto_ret]
        go_ret
        exact ⟨ret_bool HF.out.symm, rfl⟩
  · have h1 : (s == ⟨#[]⟩) = true := by
      rw [beq_iff_eq]; cases s with | mk d => simp only [ByteArray.mk.injEq]; exact Array.eq_empty_of_size_eq_zero (by have : d.size = (ByteArray.mk d).size := rfl; omega)
    have HF := Lib.hid (isWord_empty s first h0)
    go_enter Try.func190, Try.ntmps190
    go_wp2
    go_step3
    go_wp2
    try rw [Exit.noGoto_ret]
    go_ret
    exact ⟨ret_bool HF.out.symm, rfl⟩

theorem upper_any (s : ByteArray) (w : World) (hs : s.size ≤ maxLen) :
    Calls Try.prog 175 #[.string s] w fun e w' => e = .returned (.bool (isWord s 2)) ∧ w = w' := by
  go_enter Try.func175, Try.ntmps175
  go_wp2_with (go_at_call 190; refine (word_any _ _ _ hs).mono ?_; rintro e w' ⟨rfl, rfl⟩)
  go_ret
  exact ⟨rfl, rfl⟩
theorem name_any (s : ByteArray) (w : World) (hs : s.size ≤ maxLen) :
    Calls Try.prog 174 #[.string s] w fun e w' => e = .returned (.bool (isWord s 1 && !isKey s)) ∧ Below w.heap.size w w' := by
  by_cases h : isWord s 1 = true
  · go_enter Try.func174, Try.ntmps174
    go_wp2_with (first | (go_at_call 190; refine (word_any _ _ _ hs).mono ?_; rintro e w' ⟨rfl, rfl⟩) | (go_at_call 173; refine (key_any _ _).mono ?_; rintro e w' ⟨rfl, hb⟩))
    go_ret
    exact ⟨ret_bool (by rw [h]; rfl), hb⟩
  · have h : isWord s 1 = false := by simpa using h
    go_enter Try.func174, Try.ntmps174
    go_wp2_with (go_at_call 190; refine (word_any _ _ _ hs).mono ?_; rintro e w' ⟨rfl, rfl⟩)
    go_ret
    exact ⟨ret_bool (by rw [h]; rfl), Below.refl _ _⟩

set_option maxHeartbeats 2000000 in
theorem rword_any (s : ByteArray) (first : Int) (w : World) (hs : s.size ≤ maxLen) :
    Calls Try.prog 133 #[.string s, .int .i64 first] w fun e w' => e = .returned (.bool (isWord s first)) ∧ w = w' := by
  unfold maxLen at hs
  by_cases h0 : 0 < s.size
  · have h1 : ((s.size : Int) == 0) = false := by rw [beq_eq_false_iff_ne]; omega
    by_cases h2 : 24 < s.size
    · have HF := Lib.hid (isWord_long s first h2)
      go_enter Try.func133, Try.ntmps133
      go_wp2
      go_ret
      exact ⟨ret_bool HF.out.symm, rfl⟩
    · by_cases h3 : (cls s[0].toNat == first) = true
      · have h3' : (cls s[0].toNat != first) = false := by rw [bne, h3]; rfl
        have HF := Lib.hid (isWord_main s first h0 h2 h3)
        clear h3
        go_enter Try.func133, Try.ntmps133
        go_wp2_with (go_at_call 131; refine (rclass_any _ _).mono ?_; rintro e w' ⟨rfl, rfl⟩)
        go_loop [5, 6] (fun i _ => ∃ k : Nat, k ≤ s.size ∧ i = .int .i64 k ∧ Hid ((s.data.toList.take k).all (fun c => part c.toNat) = true)) (fun i _ => s.size - (intOf i).toNat)
        case atStart => exact ⟨0, Nat.zero_le _, rfl, rfl⟩
        case round =>
          obtain ⟨k, hk, rfl, Hn⟩ := hrel
          by_cases hlt : k < s.size
          · have hcr := cls_range s[k].toNat
            go_wp2_with (go_at_call 131; refine (rclass_any _ _).mono ?_; rintro e w' ⟨rfl, rfl⟩)
            all_goals first
              | (go_round
                 case rel => exact ⟨k + 1, by omega, by go_num, by rw [all_take_snoc _ _ _ hlt, Hn.out, part_yes' _ (by (try simp only [bne_iff_ne, bne_eq_false_iff_eq, ne_eq] at *); omega)]; rfl⟩
                 case measure => simp [intOf]; omega)
              | (go_ret
                 exact ⟨ret_bool (by rw [HF.out]; exact (all_of_bad s _ k hlt (part_no' _ (by (try simp only [bne_iff_ne, bne_eq_false_iff_eq, ne_eq] at *); omega))).symm), rfl⟩)
          · go_wp2
            go_ret
            exact ⟨ret_bool (by rw [HF.out]; have := Hn.out; rw [take_all s k hlt] at this; exact this.symm), rfl⟩
      · have h3 : (cls s[0].toNat == first) = false := by simpa using h3
        have h3' : (cls s[0].toNat != first) = true := by rw [bne, h3]; rfl
        have HF := Lib.hid (isWord_first s first h0 h3)
        clear h3
        go_enter Try.func133, Try.ntmps133
        go_wp2_with (go_at_call 131; refine (rclass_any _ _).mono ?_; rintro e w' ⟨rfl, rfl⟩)
        go_ret
        exact ⟨ret_bool HF.out.symm, rfl⟩
  · have h1 : ((s.size : Int) == 0) = true := by rw [beq_iff_eq]; omega
    have HF := Lib.hid (isWord_empty s first h0)
    go_enter Try.func133, Try.ntmps133
    go_wp2
    go_ret
    exact ⟨ret_bool HF.out.symm, rfl⟩
end Go.Proofs.Ytppejoccljfblaa
