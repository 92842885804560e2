/-
  The walks of digits and numbers, in chars and in the document's answer. No condition but sizes.
-/
import Derived.Test.YtmadfkofmehfkaaAt0
namespace Go.Proofs.Ytmadfkofmehfkaa
open Go.RowKit
attribute [local go_sem] toList_beq empty_beq

/-- A number's digits, the last one first. -/
def decR (n : Nat) : List UInt8 := UInt8.ofNat (48 + n % 10) :: (if n < 10 then [] else decR (n / 10))
termination_by n
def dec (n : Nat) : List UInt8 := (decR n).reverse
theorem decR_small (n : Nat) (h : n < 10) : decR n = [UInt8.ofNat (48 + n)] := by
  rw [decR, if_pos h, Nat.mod_eq_of_lt h]
theorem decR_great (n : Nat) (h : ¬ n < 10) : decR n = UInt8.ofNat (48 + n % 10) :: decR (n / 10) := by
  rw [decR, if_neg h]
theorem decR_len (k : Nat) : ∀ n, n < 10 ^ (k + 1) → (decR n).length ≤ k + 1 := by
  induction k with
  | zero => intro n h; rw [decR_small n (by simpa using h)]; simp
  | succ k ih =>
    intro n h
    by_cases h1 : n < 10
    · rw [decR_small n h1]; simp
    · rw [decR_great n h1, List.length_cons]
      have := ih (n / 10) (by rw [Nat.div_lt_iff_lt_mul (by decide)]; rw [Nat.pow_succ] at h; exact h)
      omega
theorem decR_len64 (n : Nat) (h : n ≤ 18446744073709551615) : (decR n).length ≤ 20 := decR_len 19 n (by omega)
theorem decR_pos (n : Nat) : 1 ≤ (decR n).length := by rw [decR]; simp
/-- What a round of the loop does to the digits. -/
theorem dec_round (N u : Nat) (l : List UInt8) (h : dec N = (decR u).reverse ++ l) (h10 : ¬ u < 10) : dec N = (decR (u / 10)).reverse ++ (UInt8.ofNat (48 + u % 10) :: l) := by
  rw [h, decR_great u h10]; simp
theorem dec_last (N u : Nat) (l : List UInt8) (h : dec N = (decR u).reverse ++ l) (h10 : u < 10) : dec N = UInt8.ofNat (48 + u % 10) :: l := by
  rw [h, decR_small u h10, Nat.mod_eq_of_lt h10]; simp
theorem dec_size (N u : Nat) (l : List UInt8) (h : dec N = (decR u).reverse ++ l) (hN : N ≤ 18446744073709551615) : l.length ≤ 19 := by
  have h1 := decR_len64 N hN
  have h2 := congrArg List.length h
  have h3 := decR_pos u
  simp [dec] at h2
  omega
theorem cons_str (x : Nat) (l m : List UInt8) (h : m = UInt8.ofNat (48 + x) :: l) : (⟨#[48 + UInt8.ofNat x]⟩ : ByteArray) ++ ⟨l.toArray⟩ = ⟨m.toArray⟩ := by
  rw [h, show (#[48 + UInt8.ofNat x] : Array UInt8) = [UInt8.ofNat (48 + x)].toArray by simp, ByteArray.mk_append_mk]; rfl

/-- '[]byte{x}' as a text. -/
theorem conv_one (w : World) (x : Int) : (convert 92 9 (.slice (some ⟨w.heap.size, 0, none⟩) 1 1)).run Try.prog (w.alloc (.cells #[.int .u8 x] 5)) =
    .ok (.string ⟨[UInt8.ofNat x.toNat].toArray⟩) (w.alloc (.cells #[.int .u8 x] 5)) := by
  have h := run_convert_bytes_arg (P := Try.prog) (w.alloc (.cells #[.int .u8 x] 5)) 92 5 Try.underlying92 Try.underlying5 w.heap.size 0 1 1 [x] rfl
    (fun i hi => by obtain rfl : i = 0 := by omega
                    exact (rd_new w #[.int .u8 x] 5 1 1 rfl (by decide)).2.2.2.resolve_left (by decide) |> fun ⟨b, o, hb, _, hc⟩ => by cases hb; exact hc 0 (by simp)) 9 Try.underlying9
  exact h
attribute [local go_sem] conv_one

set_option maxHeartbeats 1000000 in
theorem rdigits_any (N : Nat) (w : World) (hN : N ≤ 18446744073709551615) :
    Calls Try.prog 65 #[.int .u64 N] w fun e w' => e = .returned (.string ⟨(dec N).toArray⟩) ∧ Below w.heap.size w w' := by
  have HN := Lib.hid hN
  clear hN
  go_enter Try.func65, Try.ntmps65
  go_wp2
  go_loopw [0, 3] (fun u s wr => ∃ (n : Nat) (l : List UInt8), (n : Int) ≤ 18446744073709551615 ∧ l.length ≤ 19 ∧ u = .int .u64 n ∧ s = .string ⟨l.toArray⟩ ∧ Hid (dec N = (decR n).reverse ++ l) ∧ Hid (Below w.heap.size w wr)) (fun u _ _ => (intOf u).toNat)
  case atStart => exact ⟨N, [], by have := HN.out; omega, by decide, rfl, rfl, by simp [Hid, dec], Below.refl _ _⟩
  case round =>
    obtain ⟨n, l, hn, hl, rfl, rfl, HD, HB⟩ := hrel
    by_cases h10 : n < 10
    · clear hn
      have HF := Lib.hid (dec_last N n l HD.out h10)
      go_wp2
      go_ret
      exact ⟨ret_str (cons_str _ _ _ HF.out), HB.out.alloc HB.out.size _⟩
    · have HF := Lib.hid (dec_round N n l HD.out h10)
      have HL := Lib.hid (dec_size N (n / 10) _ HF.out HN.out)
      go_wp2
      go_round
      case rel => exact ⟨n / 10, _, by omega, HL.out, by go_num, congrArg Value.string (cons_str _ _ _ rfl), HF.out, HB.out.alloc HB.out.size _⟩
      case measure => simp [intOf]; omega

theorem rdigits_int (u : Int) (w : World) (h0 : 0 ≤ u) (h1 : u ≤ 18446744073709551615) :
    Calls Try.prog 65 #[.int .u64 u] w fun e w' => e = .returned (.string ⟨(dec u.toNat).toArray⟩) ∧ Below w.heap.size w w' := by
  obtain ⟨N, rfl⟩ := Int.eq_ofNat_of_zero_le h0
  exact rdigits_any N w (by omega)

/-- A number as a text: the document's digits. -/
def digs (n : Int) : List UInt8 := if n < 0 then 45 :: dec n.natAbs else dec n.toNat
theorem digs_neg (n m : Int) (h : n < 0) (hm : m = -n) : digs n = 45 :: dec m.toNat := by
  rw [digs, if_pos h, show n.natAbs = m.toNat by omega]
theorem digs_pos (n : Int) (h : ¬ n < 0) : digs n = dec n.toNat := by rw [digs, if_neg h]
theorem dec_len (n : Nat) (h : n ≤ 18446744073709551615) : (dec n).length ≤ 20 := by rw [dec, List.length_reverse]; exact decR_len64 n h
theorem minus_str (l m : List UInt8) (h : m = 45 :: l) : (⟨#[45]⟩ : ByteArray) ++ ⟨l.toArray⟩ = ⟨m.toArray⟩ := by
  rw [h, show (#[45] : Array UInt8) = [45].toArray by rfl, ByteArray.mk_append_mk]; rfl

set_option maxHeartbeats 1000000 in
theorem rDigits_any (n : Int) (w : World) (h0 : -9223372036854775808 ≤ n) (h1 : n ≤ 9223372036854775807) :
    Calls Try.prog 53 #[.int .i64 n] w fun e w' => e = .returned (.string ⟨(digs n).toArray⟩) ∧ Below w.heap.size w w' := by
  by_cases hn : n < 0
  · have HF := Lib.hid (digs_neg n (-(n + 1) + 1) hn (by omega))
    have hL : (dec (-(n + 1) + 1).toNat).length ≤ 20 := dec_len _ (by omega)
    go_enter Try.func53, Try.ntmps53
    go_wp2_with (go_at_call 65; refine (rdigits_int _ _ (by omega) (by omega)).mono ?_; rintro e w' ⟨rfl, hb⟩)
    go_ret
    exact ⟨ret_str (minus_str _ _ HF.out), hb⟩
  · have HF := Lib.hid (digs_pos n hn)
    go_enter Try.func53, Try.ntmps53
    go_wp2_with (go_at_call 65; refine (rdigits_int _ _ (by omega) (by omega)).mono ?_; rintro e w' ⟨rfl, hb⟩)
    go_ret
    exact ⟨ret_str (by rw [HF.out]), hb⟩
end Go.Proofs.Ytmadfkofmehfkaa
