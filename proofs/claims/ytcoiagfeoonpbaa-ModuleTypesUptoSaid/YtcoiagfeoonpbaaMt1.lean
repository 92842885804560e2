/-
  Numbers as texts: plain lemmas. No condition but sizes.
-/
import Derived.Test.YtcoiagfeoonpbaaMt0
namespace Go.Proofs.Ytcoiagfeoonpbaa
open Go.RowKit
attribute [local go_sem] toList_beq empty_beq
def decR (n : Nat) : List UInt8 := UInt8.ofNat (48 + n % 10) :: (if n < 10 then [] else decR (n / 10))
termination_by n
def dec (n : Nat) : List UInt8 := (decR n).reverse
theorem decR_small (n : Nat) (h : n < 10) : decR n = [UInt8.ofNat (48 + n)] := by
  rw [decR, if_pos h, Nat.mod_eq_of_lt h]
theorem decR_great (n : Nat) (h : ¬ n < 10) : decR n = UInt8.ofNat (48 + n % 10) :: decR (n / 10) := by
  rw [decR, if_neg h]
theorem decR_len (k : Nat) : ∀ n, n < 10 ^ (k + 1) → (decR n).length ≤ k + 1 := by
  induction k with
  | zero => intro n h; rw [decR_small n (by simpa using h)]; simp
  | succ k ih =>
    intro n h
    by_cases h1 : n < 10
    · rw [decR_small n h1]; simp
    · rw [decR_great n h1, List.length_cons]
      have := ih (n / 10) (by rw [Nat.div_lt_iff_lt_mul (by decide)]; rw [Nat.pow_succ] at h; exact h)
      omega
theorem decR_len64 (n : Nat) (h : n ≤ 18446744073709551615) : (decR n).length ≤ 20 := decR_len 19 n (by omega)
theorem decR_pos (n : Nat) : 1 ≤ (decR n).length := by rw [decR]; simp
theorem conv_one (w : World) (x : Int) : (convert 114 9 (.slice (some ⟨w.heap.size, 0, none⟩) 1 1)).run Try.prog (w.alloc (.cells #[.int .u8 x] 5)) =
    .ok (.string ⟨[UInt8.ofNat x.toNat].toArray⟩) (w.alloc (.cells #[.int .u8 x] 5)) := by
  have h := run_convert_bytes_arg (P := Try.prog) (w.alloc (.cells #[.int .u8 x] 5)) 114 5 Try.underlying114 Try.underlying5 w.heap.size 0 1 1 [x] rfl
    (fun i hi => by obtain rfl : i = 0 := by omega
                    exact (rd_new w #[.int .u8 x] 5 1 1 rfl (by decide)).2.2.2.resolve_left (by decide) |> fun ⟨b, o, hb, _, hc⟩ => by cases hb; exact hc 0 (by simp)) 9 Try.underlying9
  exact h
attribute [local go_sem] conv_one
def digs (n : Int) : List UInt8 := if n < 0 then 45 :: dec n.natAbs else dec n.toNat
theorem digs_neg (n m : Int) (h : n < 0) (hm : m = -n) : digs n = 45 :: dec m.toNat := by
  rw [digs, if_pos h, show n.natAbs = m.toNat by omega]
theorem digs_pos (n : Int) (h : ¬ n < 0) : digs n = dec n.toNat := by rw [digs, if_neg h]
end Go.Proofs.Ytcoiagfeoonpbaa

/-
  The walks of the package chars and of the document's answer for it (whimbrelref01): classes of bytes, words, digits, numbers. No condition but sizes.
-/
namespace Go.Proofs.Ytcoiagfeoonpbaa
open Go.RowKit
attribute [local go_sem] toList_beq empty_beq
def cls (b : Int) : Int :=
  if 97 ≤ b ∧ b ≤ 122 then 1 else if 65 ≤ b ∧ b ≤ 90 then 2 else if 48 ≤ b ∧ b ≤ 57 then 3 else if b = 32 then 4 else if b = 10 then 5
  else if b = 61 ∨ b = 124 ∨ b = 63 ∨ b = 60 ∨ b = 43 ∨ b = 45 ∨ b = 42 ∨ b = 40 ∨ b = 41 ∨ b = 95 then 6 else 0
set_option maxHeartbeats 1000000 in
theorem class_any (b : Int) (w : World) :
    Calls Try.prog 81 #[.int .u8 b] w fun e w' => e = .returned (.int .i64 (cls b)) ∧ w = w' := by
  go_enter Try.func81, Try.ntmps81
  go_wp2
  all_goals (try go_ret)
  all_goals (refine ⟨ret_int ?_, rfl⟩; (try simp only [beq_iff_eq, beq_eq_false_iff_ne, ne_eq] at *); unfold cls; (repeat (first | rw [if_pos (by omega)] | rw [if_neg (by omega)])))
def strs (l : List ByteArray) : List Value := l.map .string
theorem Rd.strAt {B : Nat} {w : World} {a : Option Addr} {n cap : Nat} {l : List ByteArray} (h : Rd B w a n cap 1 (strs l)) (k : Nat) (hk : k < n) :
    ∃ b o, a = some ⟨b, o, none⟩ ∧ ∃ hl : k < l.length, w.cell? ⟨b, o + k, none⟩ = some (.string l[k]) := by
  obtain ⟨h1, h2, h3, h4⟩ := h
  rcases h4 with h4 | ⟨b, o, ha, hbB, hc⟩
  · omega
  · have hl : k < l.length := by simp [strs] at h1; omega
    refine ⟨b, o, ha, hl, ?_⟩
    rw [hc k (by simpa [strs] using hl)]
    simp [strs]
theorem Rd.strLen {B : Nat} {w : World} {a : Option Addr} {n cap : Nat} {l : List ByteArray} (h : Rd B w a n cap 1 (strs l)) : l.length = n := by
  have := h.1; simp [strs] at this; exact this
set_option maxHeartbeats 400000 in
theorem index_str {B n cap : Nat} {a : Option Addr} {l : List ByteArray} (s : ByteArray) (w : World) (h : Rd B w a n cap 1 (strs l)) :
    Calls Try.prog 118 #[.slice a n cap, .string s] w fun e w' => e = .returned (.int .i64 (idxI l s)) ∧ w = w' := by
  have hcap := h.2.1
  have hm := h.2.2.1
  have hlen := h.strLen
  have H := Lib.hid h
  have HL := Lib.hid hlen
  clear h hlen
  go_enter Try.func118, Try.ntmps118
  go_wp2
  go_loop [5, 8] (fun _ i => ∃ k : Nat, k ≤ n ∧ i = .int .i64 k ∧ Hid (∀ (j : Nat) (hj : j < l.length), j < k → (s == l[j]) = false)) (fun _ i => n - (intOf i).toNat)
  case atStart => exact ⟨0, Nat.zero_le _, rfl, fun j hj h0 => by omega⟩
  case round =>
    obtain ⟨k, hk, rfl, Hn⟩ := hrel
    by_cases hlt : k < n
    · obtain ⟨b, o, rfl, hl, hc⟩ := H.out.strAt k hlt
      go_wp2
      · go_ret
        exact ⟨ret_int (idxI_at l s k hl ‹_› Hn.out).symm, rfl⟩
      · go_round
        case rel => exact ⟨k + 1, by omega, by go_num, fun j hj h1 => by rename_i hx; rcases Nat.lt_or_ge j k with h2 | h2; (exact Hn.out j hj h2); (obtain rfl : j = k := by omega); exact hx⟩
        case measure => simp [intOf]; omega
    · go_wp2
      go_ret
      exact ⟨ret_int (idxI_no l s fun j hj => Hn.out j hj (by have := HL.out; omega)).symm, rfl⟩
theorem contains_str {B n cap : Nat} {a : Option Addr} {l : List ByteArray} (s : ByteArray) (w : World) (h : Rd B w a n cap 1 (strs l)) :
    Calls Try.prog 115 #[.slice a n cap, .string s] w fun e w' => e = .returned (.bool (l.any (s == ·))) ∧ w = w' := by
  have H := Lib.hid h
  clear h
  have HG := Lib.hid (idxI_ge l s)
  go_enter Try.func115, Try.ntmps115
  go_wp2_with (go_at_call 118; refine (index_str s _ H.out).mono ?_; rintro e w' ⟨rfl, rfl⟩)
  go_ret
  exact ⟨ret_bool HG.out, rfl⟩
end Go.Proofs.Ytcoiagfeoonpbaa

/-
  The walks of words: Key, Symbols, word, Word, Name, Upper. No condition but sizes.
-/
namespace Go.Proofs.Ytcoiagfeoonpbaa
open Go.RowKit
attribute [local go_sem] toList_beq empty_beq
def keyWords : List ByteArray := [⟨#[100, 97, 116, 97]⟩, ⟨#[108, 101, 116]⟩, ⟨#[102, 114, 101, 101]⟩, ⟨#[105, 110]⟩, ⟨#[105, 102]⟩, ⟨#[116, 104, 101, 110]⟩, ⟨#[101, 108, 115, 101]⟩]
def isKey (s : ByteArray) : Bool := keyWords.any (s == ·)
theorem key_any (s : ByteArray) (w : World) :
    Calls Try.prog 105 #[.string s] w fun e w' => e = .returned (.bool (isKey s)) ∧ Below w.heap.size w w' := by
  have hb := Lib.hid (below_new w (.cells (strs keyWords).toArray 9))
  go_enter Try.func105, Try.ntmps105
  go_wp2_with (go_at_call 115; refine (contains_str (l := keyWords) s _ (rd_new w (strs keyWords).toArray 9 7 1 rfl (by decide))).mono ?_; rintro e w' ⟨rfl, rfl⟩)
  go_ret
  exact ⟨rfl, hb.out⟩
def symbols : List ByteArray := [⟨#[61, 61]⟩, ⟨#[61]⟩, ⟨#[124]⟩, ⟨#[63]⟩, ⟨#[60]⟩, ⟨#[43]⟩, ⟨#[45]⟩, ⟨#[42]⟩, ⟨#[40]⟩, ⟨#[41]⟩, ⟨#[95]⟩]
theorem symbols_any (w : World) :
    Calls Try.prog 87 #[] w fun e w' => e = .returned (.slice (some ⟨w.heap.size, 0, none⟩) 11 11) ∧ w.alloc (.cells (strs symbols).toArray 9) = w' := by
  go_enter Try.func87, Try.ntmps87
  go_wp2
  go_ret
  exact ⟨rfl, rfl⟩
def part (c : Int) : Bool := c == 95 || (decide (1 ≤ cls c) && decide (cls c ≤ 3))
def isWord (s : ByteArray) (first : Int) : Bool := decide (0 < s.size) && decide (s.size ≤ 24) && (cls (s.data.toList.getD 0 0).toNat == first) && s.data.toList.all fun c => part c.toNat
theorem cls_range (c : Int) : 0 ≤ cls c ∧ cls c ≤ 6 := by unfold cls; repeat' split <;> try omega
theorem isWord_empty (s : ByteArray) (first : Int) (h : ¬ 0 < s.size) : isWord s first = false := by simp [isWord, h]
theorem isWord_long (s : ByteArray) (first : Int) (h : 24 < s.size) : isWord s first = false := by
  have : ¬ s.size ≤ 24 := by omega
  simp [isWord, this]
theorem getD_zero (s : ByteArray) (h : 0 < s.size) : s.data.toList.getD 0 0 = s[0] := by
  have : 0 < s.data.toList.length := by rw [length_data]; exact h
  rw [List.getD_eq_getElem?_getD, List.getElem?_eq_getElem this]; rfl
theorem isWord_first (s : ByteArray) (first : Int) (h : 0 < s.size) (hc : (cls s[0].toNat == first) = false) : isWord s first = false := by
  unfold isWord; rw [getD_zero s h, hc]; simp
theorem isWord_main (s : ByteArray) (first : Int) (h : 0 < s.size) (h2 : ¬ 24 < s.size) (hc : (cls s[0].toNat == first) = true) : isWord s first = s.data.toList.all fun c => part c.toNat := by
  have h3 : s.size ≤ 24 := by omega
  unfold isWord; rw [getD_zero s h, hc]; simp [h, h3]
theorem all_take_snoc (s : ByteArray) (f : UInt8 → Bool) (k : Nat) (h : k < s.size) : (s.data.toList.take (k + 1)).all f = ((s.data.toList.take k).all f && f s[k]) := by
  rw [take_snoc s k h]; simp
theorem all_of_bad (s : ByteArray) (f : UInt8 → Bool) (k : Nat) (h : k < s.size) (hf : f s[k] = false) : s.data.toList.all f = false := by
  rw [List.all_eq_false]; exact ⟨_, mem_byte s k h, by rw [hf]; decide⟩
theorem part_yes (c : Int) (h : (c == 95) = true ∨ (1 ≤ cls c ∧ cls c ≤ 3)) : part c = true := by
  unfold part; rcases h with h | ⟨h1, h2⟩
  · rw [h]; rfl
  · simp [h1, h2]
theorem part_no (c : Int) (h : (c == 95) = false) (h2 : cls c < 1 ∨ 3 < cls c) : part c = false := by
  unfold part; rw [h]; simp; omega
set_option maxHeartbeats 1000000 in
theorem word_any (s : ByteArray) (first : Int) (w : World) (hs : s.size ≤ maxLen) :
    Calls Try.prog 116 #[.string s, .int .i64 first] w fun e w' => e = .returned (.bool (isWord s first)) ∧ w = w' := by
  unfold maxLen at hs
  by_cases h0 : 0 < s.size
  · have h1 : (s == ⟨#[]⟩) = false := by rw [beq_eq_false_iff_ne]; rintro rfl; exact absurd h0 (by decide)
    by_cases h2 : 24 < s.size
    · have HF := Lib.hid (isWord_long s first h2)
      go_enter Try.func116, Try.ntmps116
      go_wp2
      go_step3
      go_wp2
      try rw [Exit.noGoto_ret]
      go_ret
      exact ⟨ret_bool HF.out.symm, rfl⟩
    · by_cases h3 : (cls s[0].toNat == first) = true
      · have h3' : (cls s[0].toNat != first) = false := by rw [bne, h3]; rfl
        have HF := Lib.hid (isWord_main s first h0 h2 h3)
        clear h3
        go_enter Try.func116, Try.ntmps116
        go_wp2
        go_step3
        go_wp2_with (go_at_call 81; refine (class_any _ _).mono ?_; rintro e w' ⟨rfl, rfl⟩)
        go_step3
        go_wp2
        go_loop [5, 6, 23] (fun _ _ i => ∃ k : Nat, k ≤ s.size ∧ i = .int .i64 k ∧ Hid ((s.data.toList.take k).all (fun c => part c.toNat) = true)) (fun _ _ i => s.size - (intOf i).toNat)
        case atStart => exact ⟨0, Nat.zero_le _, rfl, rfl⟩
        case round =>
          obtain ⟨k, hk, rfl, Hn⟩ := hrel
          by_cases hlt : k < s.size
          · have hcr := cls_range s[k].toNat
            go_wp2_with (go_at_call 81; refine (class_any _ _).mono ?_; rintro e w' ⟨rfl, rfl⟩)
            all_goals first
              | (go_round
                 case rel => exact ⟨k + 1, by omega, by go_num, by rw [all_take_snoc _ _ _ hlt, Hn.out, part_yes _ (by first | exact .inl ‹_› | exact .inr (by omega))]; rfl⟩
                 case measure => simp [intOf]; omega)
              | (try rw [Exit.noGoto_ret]
                 go_ret
                 exact ⟨ret_bool (by rw [HF.out]; exact (all_of_bad s _ k hlt (part_no _ ‹_› (by omega))).symm), rfl⟩)
          · go_wp2
            try rw [Exit.noGoto_ret]
            go_ret
            exact ⟨ret_bool (by rw [HF.out]; have := Hn.out; rw [take_all s k hlt] at this; exact this.symm), rfl⟩
      · have h3 : (cls s[0].toNat == first) = false := by simpa using h3
        have h3' : (cls s[0].toNat != first) = true := by rw [bne, h3]; rfl
        have HF := Lib.hid (isWord_first s first h0 h3)
        clear h3
        go_enter Try.func116, Try.ntmps116
        go_wp2
        go_step3
        go_wp2_with (go_at_call 81; refine (class_any _ _).mono ?_; rintro e w' ⟨rfl, rfl⟩)
        try rw [Exit.noGoto_ret]
        go_ret
        exact ⟨ret_bool HF.out.symm, rfl⟩
  · have h1 : (s == ⟨#[]⟩) = true := by
      rw [beq_iff_eq]; cases s with | mk d => simp only [ByteArray.mk.injEq]; exact Array.eq_empty_of_size_eq_zero (by have : d.size = (ByteArray.mk d).size := rfl; omega)
    have HF := Lib.hid (isWord_empty s first h0)
    go_enter Try.func116, Try.ntmps116
    go_wp2
    go_step3
    go_wp2
    try rw [Exit.noGoto_ret]
    go_ret
    exact ⟨ret_bool HF.out.symm, rfl⟩
theorem upper_any (s : ByteArray) (w : World) (hs : s.size ≤ maxLen) :
    Calls Try.prog 107 #[.string s] w fun e w' => e = .returned (.bool (isWord s 2)) ∧ w = w' := by
  go_enter Try.func107, Try.ntmps107
  go_wp2_with (go_at_call 116; refine (word_any _ _ _ hs).mono ?_; rintro e w' ⟨rfl, rfl⟩)
  go_ret
  exact ⟨rfl, rfl⟩
theorem name_any (s : ByteArray) (w : World) (hs : s.size ≤ maxLen) :
    Calls Try.prog 106 #[.string s] w fun e w' => e = .returned (.bool (isWord s 1 && !isKey s)) ∧ Below w.heap.size w w' := by
  by_cases h : isWord s 1 = true
  · go_enter Try.func106, Try.ntmps106
    go_wp2_with (first | (go_at_call 116; refine (word_any _ _ _ hs).mono ?_; rintro e w' ⟨rfl, rfl⟩) | (go_at_call 105; refine (key_any _ _).mono ?_; rintro e w' ⟨rfl, hb⟩))
    go_ret
    exact ⟨ret_bool (by rw [h]; rfl), hb⟩
  · have h : isWord s 1 = false := by simpa using h
    go_enter Try.func106, Try.ntmps106
    go_wp2_with (go_at_call 116; refine (word_any _ _ _ hs).mono ?_; rintro e w' ⟨rfl, rfl⟩)
    go_ret
    exact ⟨ret_bool (by rw [h]; rfl), Below.refl _ _⟩
end Go.Proofs.Ytcoiagfeoonpbaa

/-
  Plain laws of digits and numbers: what a number's digits are, and which texts are numbers. No program, no condition.
-/
namespace Go.Proofs.Ytcoiagfeoonpbaa
def isDig (c : UInt8) : Bool := decide (48 ≤ c.toNat) && decide (c.toNat ≤ 57)
def val (l : List UInt8) : Nat := l.foldl (fun a c => 10 * a + (c.toNat - 48)) 0
theorem val_snoc (l : List UInt8) (c : UInt8) : val (l ++ [c]) = 10 * val l + (c.toNat - 48) := by simp [val]
def okN (l : List UInt8) : Bool := l.all isDig && decide (val l ≤ 2147483647) && (dec (val l) == l)
def numN (l : List UInt8) : Int := if okN l then (val l : Int) else 0
theorem okN_bad (l : List UInt8) (h : l.all isDig = false) : okN l = false := by simp [okN, h]
theorem okN_great (l : List UInt8) (h : ¬ val l ≤ 2147483647) : okN l = false := by simp [okN, h]
theorem okN_other (l : List UInt8) (h : dec (val l) ≠ l) : okN l = false := by simp [okN, h]
theorem okN_ok (l : List UInt8) (h1 : l.all isDig = true) (h2 : val l ≤ 2147483647) (h3 : dec (val l) = l) : okN l = true := by
  rw [okN, h1, h3]; simp [h2]
theorem numN_ok (l : List UInt8) (h : okN l = true) : numN l = val l := by rw [numN, if_pos h]
theorem numN_no (l : List UInt8) (h : okN l = false) : numN l = 0 := by rw [numN, h]; rfl
theorem val_append (a : List UInt8) : ∀ b : List UInt8, val a ≤ val (a ++ b) := by
  have : ∀ (b : List UInt8) (x y : Nat), x ≤ y → x ≤ b.foldl (fun a c => 10 * a + (c.toNat - 48)) y := by
    intro b
    induction b with
    | nil => intro x y h; exact h
    | cons c b ih => intro x y h; rw [List.foldl_cons]; exact ih x _ (by omega)
  intro b
  rw [val, val, List.foldl_append]
  exact this b _ _ (Nat.le_refl _)
end Go.Proofs.Ytcoiagfeoonpbaa
