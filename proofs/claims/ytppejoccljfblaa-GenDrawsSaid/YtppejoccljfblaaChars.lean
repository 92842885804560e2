/-
  The walks of the package chars and of the document's answer for it (whimbrelref01): classes of bytes, words, digits, numbers. No condition but sizes.
-/
import Derived.Test.YtppejoccljfblaaBase
namespace Go.Proofs.Ytppejoccljfblaa
open Go.RowKit
attribute [local go_sem] toList_beq empty_beq

def cls (b : Int) : Int :=
  if 97 ≤ b ∧ b ≤ 122 then 1 else if 65 ≤ b ∧ b ≤ 90 then 2 else if 48 ≤ b ∧ b ≤ 57 then 3 else if b = 32 then 4 else if b = 10 then 5
  else if b = 61 ∨ b = 124 ∨ b = 63 ∨ b = 60 ∨ b = 43 ∨ b = 45 ∨ b = 42 ∨ b = 40 ∨ b = 41 ∨ b = 95 then 6 else 0

def hasB (l : List UInt8) (b : Int) : Bool := l.any fun c => (c.toNat : Int) == b
theorem hasB_snoc (l : List UInt8) (c : UInt8) (b : Int) : hasB (l ++ [c]) b = (hasB l b || ((c.toNat : Int) == b)) := by simp [hasB]
theorem hasB_of_mem (s : ByteArray) (b : Int) (k : Nat) (h : k < s.size) (e : ((s[k].toNat : Int) == b) = true) : hasB s.data.toList b = true := by
  simp only [hasB, List.any_eq_true]
  exact ⟨_, mem_byte s k h, e⟩

set_option maxHeartbeats 400000 in
theorem has_any (s : ByteArray) (b : Int) (w : World) (hs : s.size ≤ maxLen) :
    Calls Try.prog 176 #[.string s, .int .u8 b] w fun e w' => e = .returned (.bool (hasB s.data.toList b)) ∧ w = w' := by
  unfold maxLen at hs
  go_enter Try.func176, Try.ntmps176
  go_wp2
  go_loop [5] (fun i => ∃ k : Nat, k ≤ s.size ∧ i = .int .i64 k ∧ hasB (s.data.toList.take k) b = false) (fun i => s.size - (intOf i).toNat)
  case atStart => exact ⟨0, Nat.zero_le _, rfl, rfl⟩
  case round =>
    obtain ⟨k, hk, rfl, hn⟩ := hrel
    have Hn := Lib.hid hn
    clear hn
    by_cases hlt : k < s.size
    · have HS : Hid (hasB (s.data.toList.take (k + 1)) b = (hasB (s.data.toList.take k) b || ((s[k].toNat : Int) == b))) := by rw [take_snoc s k hlt]; exact hasB_snoc _ _ _
      have HM := Lib.hid (hasB_of_mem s b k hlt)
      go_wp2
      · go_ret
        exact ⟨ret_bool (HM.out ‹_›).symm, rfl⟩
      · go_round
        case rel => exact ⟨k + 1, by omega, by go_num, by rw [HS.out, Hn.out]; rename_i hx; rw [hx]; rfl⟩
        case measure => simp [intOf]; omega
    · go_wp2
      go_ret
      exact ⟨ret_bool (by have := Hn.out; rw [take_all s k hlt] at this; exact this.symm), rfl⟩

set_option maxHeartbeats 1000000 in
theorem class_any (b : Int) (w : World) :
    Calls Try.prog 124 #[.int .u8 b] w fun e w' => e = .returned (.int .i64 (cls b)) ∧ w = w' := by
  go_enter Try.func124, Try.ntmps124
  go_wp2
  all_goals (try go_ret)
  all_goals (refine ⟨ret_int ?_, rfl⟩; (try simp only [beq_iff_eq, beq_eq_false_iff_ne, ne_eq] at *); unfold cls; (repeat (first | rw [if_pos (by omega)] | rw [if_neg (by omega)])))

theorem signs (b : Int) : hasB [61, 124, 63, 60, 43, 45, 42, 40, 41, 95] b = decide (b = 61 ∨ b = 124 ∨ b = 63 ∨ b = 60 ∨ b = 43 ∨ b = 45 ∨ b = 42 ∨ b = 40 ∨ b = 41 ∨ b = 95) := by
  rw [Bool.eq_iff_iff]; simp [hasB]; omega

set_option maxHeartbeats 1000000 in
theorem rclass_any (b : Int) (w : World) :
    Calls Try.prog 131 #[.int .u8 b] w fun e w' => e = .returned (.int .i64 (cls b)) ∧ w = w' := by
  go_enter Try.func131, Try.ntmps131
  go_wp2_with (go_at_call 176; refine (has_any _ _ _ (by decide)).mono ?_; rintro e w' ⟨rfl, rfl⟩; simp only [signs])
  all_goals (try go_ret)
  all_goals (refine ⟨ret_int ?_, rfl⟩; (try simp only [beq_iff_eq, beq_eq_false_iff_ne, ne_eq] at *); unfold cls; (repeat (first | rw [if_pos (by omega)] | rw [if_neg (by omega)])))

/-! ### Texts in a list -/
def strs (l : List ByteArray) : List Value := l.map .string

theorem Rd.strAt {B : Nat} {w : World} {a : Option Addr} {n cap : Nat} {l : List ByteArray} (h : Rd B w a n cap 1 (strs l)) (k : Nat) (hk : k < n) :
    ∃ b o, a = some ⟨b, o, none⟩ ∧ ∃ hl : k < l.length, w.cell? ⟨b, o + k, none⟩ = some (.string l[k]) := by
  obtain ⟨h1, h2, h3, h4⟩ := h
  rcases h4 with h4 | ⟨b, o, ha, hbB, hc⟩
  · omega
  · have hl : k < l.length := by simp [strs] at h1; omega
    refine ⟨b, o, ha, hl, ?_⟩
    rw [hc k (by simpa [strs] using hl)]
    simp [strs]
theorem Rd.strLen {B : Nat} {w : World} {a : Option Addr} {n cap : Nat} {l : List ByteArray} (h : Rd B w a n cap 1 (strs l)) : l.length = n := by
  have := h.1; simp [strs] at this; exact this

set_option maxHeartbeats 400000 in
theorem index_str {B n cap : Nat} {a : Option Addr} {l : List ByteArray} (s : ByteArray) (w : World) (h : Rd B w a n cap 1 (strs l)) :
    Calls Try.prog 195 #[.slice a n cap, .string s] w fun e w' => e = .returned (.int .i64 (idxI l s)) ∧ w = w' := by
  have hcap := h.2.1
  have hm := h.2.2.1
  have hlen := h.strLen
  have H := Lib.hid h
  have HL := Lib.hid hlen
  clear h hlen
  go_enter Try.func195, Try.ntmps195
  go_wp2
  go_loop [5, 8] (fun _ i => ∃ k : Nat, k ≤ n ∧ i = .int .i64 k ∧ Hid (∀ (j : Nat) (hj : j < l.length), j < k → (s == l[j]) = false)) (fun _ i => n - (intOf i).toNat)
  case atStart => exact ⟨0, Nat.zero_le _, rfl, fun j hj h0 => by omega⟩
  case round =>
    obtain ⟨k, hk, rfl, Hn⟩ := hrel
    by_cases hlt : k < n
    · obtain ⟨b, o, rfl, hl, hc⟩ := H.out.strAt k hlt
      go_wp2
      · go_ret
        exact ⟨ret_int (idxI_at l s k hl ‹_› Hn.out).symm, rfl⟩
      · go_round
        case rel => exact ⟨k + 1, by omega, by go_num, fun j hj h1 => by rename_i hx; rcases Nat.lt_or_ge j k with h2 | h2; (exact Hn.out j hj h2); (obtain rfl : j = k := by omega); exact hx⟩
        case measure => simp [intOf]; omega
    · go_wp2
      go_ret
      exact ⟨ret_int (idxI_no l s fun j hj => Hn.out j hj (by have := HL.out; omega)).symm, rfl⟩

theorem contains_str {B n cap : Nat} {a : Option Addr} {l : List ByteArray} (s : ByteArray) (w : World) (h : Rd B w a n cap 1 (strs l)) :
    Calls Try.prog 189 #[.slice a n cap, .string s] w fun e w' => e = .returned (.bool (l.any (s == ·))) ∧ w = w' := by
  have H := Lib.hid h
  clear h
  have HG := Lib.hid (idxI_ge l s)
  go_enter Try.func189, Try.ntmps189
  go_wp2_with (go_at_call 195; refine (index_str s _ H.out).mono ?_; rintro e w' ⟨rfl, rfl⟩)
  go_ret
  exact ⟨ret_bool HG.out, rfl⟩

set_option maxHeartbeats 400000 in
theorem in_str {B n cap : Nat} {a : Option Addr} {l : List ByteArray} (s : ByteArray) (w : World) (h : Rd B w a n cap 1 (strs l)) :
    Calls Try.prog 19 #[.slice a n cap, .string s] w fun e w' => e = .returned (.bool (l.any (s == ·))) ∧ w = w' := by
  have hcap := h.2.1
  have hm := h.2.2.1
  have hlen := h.strLen
  have H := Lib.hid h
  have HL := Lib.hid hlen
  clear h hlen
  go_enter Try.func19, Try.ntmps19
  go_wp2
  go_loop [6, 9] (fun _ i => ∃ k : Nat, k ≤ n ∧ i = .int .i64 k ∧ Hid (∀ (j : Nat) (hj : j < l.length), j < k → (s == l[j]) = false)) (fun _ i => n - (intOf i).toNat)
  case atStart => exact ⟨0, Nat.zero_le _, rfl, fun j hj h0 => by omega⟩
  case round =>
    obtain ⟨k, hk, rfl, Hn⟩ := hrel
    by_cases hlt : k < n
    · obtain ⟨b, o, rfl, hl, hc⟩ := H.out.strAt k hlt
      go_wp2
      · go_ret
        refine ⟨ret_bool ?_, rfl⟩
        have hx : (l[k] == s) = true := by assumption
        symm; rw [List.any_eq_true]; exact ⟨_, List.getElem_mem hl, beq_comm_bool _ _ _ hx⟩
      · go_round
        case rel => exact ⟨k + 1, by omega, by go_num, fun j hj h1 => by rename_i hx; rcases Nat.lt_or_ge j k with h2 | h2; (exact Hn.out j hj h2); (obtain rfl : j = k := by omega); exact beq_comm_bool _ _ _ hx⟩
        case measure => simp [intOf]; omega
    · go_wp2
      go_ret
      refine ⟨ret_bool ?_, rfl⟩
      symm; rw [List.any_eq_false]; intro x hx
      obtain ⟨j, hj, rfl⟩ := List.getElem_of_mem hx
      rw [Hn.out j hj (by have := HL.out; omega)]; decide
end Go.Proofs.Ytppejoccljfblaa
