/-
  The walk of slices.Reverse over bytes, and of chars.Digits. No condition but sizes.
-/
import Derived.Test.YtmadfkofmehfkaaAt2
import Derived.Test.YtmadfkofmehfkaaAt1
import Derived.RegionTactic
import Derived.ChangeAlike
import Derived.Maps.AppendAt
import Derived.RangeFuncBox
namespace Go.Proofs.Ytmadfkofmehfkaa
open Go.RowKit
attribute [local go_sem] toList_beq empty_beq

def RevSt (g n : Nat) (l : List UInt8) (w : World) (k : Nat) (wr : World) : Prop :=
  w.grownBy wr (some g) ∧ ∀ j, j < n → wr.cell? ⟨g, j, none⟩ = some (.int .u8 (if j < k ∨ n ≤ j + k then l.getD (n - 1 - j) 0 else l.getD j 0).toNat)
theorem rev_step {g n : Nat} {l : List UInt8} {w : World} {k m : Nat} {wr : World} (h : RevSt g n l w k wr) (hkm : k < m) (hn : k + m + 1 = n) :
    RevSt g n l w (k + 1) ((wr.setCell ⟨g, k, none⟩ (.int .u8 (l.getD m 0).toNat)).setCell ⟨g, m, none⟩ (.int .u8 (l.getD k 0).toNat)).drew := by
  obtain ⟨hg, hc⟩ := h
  refine ⟨grownBy_trans hg (grownBy_trans (grownBy_trans (grownBy_setCell _ _ _ _) (grownBy_setCell _ _ _ _)) (grownBy_drew _ _)), fun j hj => ?_⟩
  rw [World.cell?_drew]
  by_cases h1 : j = m
  · subst h1
    rw [if_pos (Or.inr (by omega)), show n - 1 - j = k by omega]
    exact cell_set_same _ _ _ _ (by rw [cell_set_other _ _ _ _ _ (by omega), hc j hj]; rfl)
  · rw [cell_set_other _ _ _ _ _ h1]
    by_cases h2 : j = k
    · subst h2
      rw [if_pos (Or.inl (by omega)), show n - 1 - j = m by omega]
      exact cell_set_same _ _ _ _ (by rw [hc j hj]; rfl)
    · rw [cell_set_other _ _ _ _ _ h2, hc j hj]
      by_cases h3 : j < k ∨ n ≤ j + k
      · rw [if_pos h3, if_pos (by omega)]
      · rw [if_neg h3, if_neg (by omega)]
theorem rev_end {g n : Nat} {l : List UInt8} {w : World} {k m : Nat} {wr : World} (h : RevSt g n l w k wr) (hkm : ¬ k < m) (hn : k + m + 1 = n) :
    ∀ j, j < n → wr.cell? ⟨g, j, none⟩ = some (.int .u8 (l.getD (n - 1 - j) 0).toNat) := by
  intro j hj
  rw [h.2 j hj]
  by_cases h3 : j < k ∨ n ≤ j + k
  · rw [if_pos h3]
  · rw [if_neg h3, show n - 1 - j = j by omega]

set_option maxHeartbeats 400000 in
theorem rev_any (g n cap : Nat) (l : List UInt8) (w : World) (hn : 0 < n) (hcap : n ≤ cap) (hmax : cap ≤ 9223372036854775807)
    (hc : ∀ j, j < n → w.cell? ⟨g, j, none⟩ = some (.int .u8 (l.getD j 0).toNat)) (hf : ∀ j, w.frozen? ⟨g, j, none⟩ = false) :
    Calls Try.prog 74 #[.slice (some ⟨g, 0, none⟩) n cap] w fun e w' => e = .returned (.tuple #[]) ∧ w.grownBy w' (some g) ∧
      ∀ j, j < n → w'.cell? ⟨g, j, none⟩ = some (.int .u8 (l.getD (n - 1 - j) 0).toNat) := by
  have HC := Lib.hid hc
  clear hc
  go_enter Try.func74, Try.ntmps74
  go_wp2
  go_loopw [2, 3] (fun i j wr => ∃ k m : Nat, k + m + 1 ≤ n ∧ n ≤ k + m + 1 ∧ i = .int .i64 k ∧ j = .int .i64 m ∧ (∀ j, wr.frozen? ⟨g, j, none⟩ = false) ∧ Hid (RevSt g n l w k wr)) (fun i j _ => (intOf j - intOf i).toNat)
  case atStart => exact ⟨0, n - 1, by omega, by omega, rfl, by go_num, hf, grownBy_refl _ _, fun j hj => by rw [HC.out j hj, if_neg (by omega)]⟩
  case round =>
    obtain ⟨k, m, hk1, hk2, rfl, rfl, hf', Hc⟩ := hrel
    by_cases hlt : k < m
    · have c1 : wr.cell? ⟨g, k, none⟩ = some (.int .u8 (l.getD k 0).toNat) := by rw [Hc.out.2 k (by omega), if_neg (by omega)]
      have c2 : wr.cell? ⟨g, m, none⟩ = some (.int .u8 (l.getD m 0).toNat) := by rw [Hc.out.2 m (by omega), if_neg (by omega)]
      have HS := Lib.hid (rev_step Hc.out hlt (by omega))
      generalize l.getD k 0 = x at c1 HS
      generalize l.getD m 0 = y at c2 HS
      go_wp2
      go_region
      go_wp2
      go_roundw
      case rel => exact ⟨k + 1, m - 1, by omega, by omega, by go_num, by go_num, by simpa using hf', HS.out⟩
      case measure => simp [intOf]; omega
    · have HE := Lib.hid (rev_end Hc.out hlt (by omega))
      have HG := Lib.hid Hc.out.1
      go_wp2
      go_end0
      exact ⟨rfl, HG.out, HE.out⟩
theorem info_u8 : (Try.prog.info? 5).map (fun i => (i.zero, i.size, i.bytes)) = some (some (.int .u8 0), 1, 1) := by kernel_rfl

def encB (l : List UInt8) : List Value := l.map fun c => .int .u8 c.toNat
theorem toNat_digit (x : Nat) : (UInt8.ofNat (48 + x % 10)).toNat = 48 + x % 10 := by
  rw [UInt8.toNat_ofNat']; omega
theorem encB_snoc (l : List UInt8) (x : Nat) : encB l ++ [.int .u8 (48 + (x : Int) % 10)] = encB (l ++ [UInt8.ofNat (48 + x % 10)]) := by
  rw [encB, encB, List.map_append]
  congr 1
  simp only [List.map_cons, List.map_nil, toNat_digit]
  congr 2
theorem encB_length (l : List UInt8) : (encB l).length = l.length := by simp [encB]
/-- A row of bytes of the call's own, cell by cell. -/
theorem owns_bytes {w : World} {base g n cap : Nat} {e : TypeId} {l : List UInt8} (h : w.ownsRow base e 1 (.slice (some ⟨g, 0, none⟩) n cap) n (encB l)) (hn : 0 < n) :
    n = l.length ∧ n ≤ cap ∧ cap ≤ 9223372036854775807 ∧ base ≤ g ∧ (∀ j, j < n → w.cell? ⟨g, j, none⟩ = some (.int .u8 (l.getD j 0).toNat)) ∧ (∀ j, w.frozen? ⟨g, j, none⟩ = false) := by
  have hl : n = l.length := by have := h.1; rw [encB_length] at this; omega
  have hc := h.cells (g := g) rfl
  rcases h.2 with ⟨_, h0⟩ | ⟨g', cap', cur, hv, hb, hg, h1, h2, h3, h4⟩
  · omega
  · cases hv
    refine ⟨hl, h1, h2, hb, fun j hj => ?_, fun j => ?_⟩
    · have hj' : j < l.length := by omega
      have := hc j (.int .u8 (l.getD j 0).toNat) (by simp [encB, hj'])
      rw [show ((⟨g, 0, none⟩ : Addr).add j) = ⟨g, j, none⟩ by unfold Addr.add; split <;> simp_all] at this
      exact this
    · simp only [World.frozen?, hg]; simp
theorem strOfNums_enc (l : List UInt8) : strOfNums (l.map fun c => (c.toNat : Int)) = ⟨l.toArray⟩ := by
  simp only [strOfNums, List.map_map]
  congr 2
  conv => rhs; rw [← List.map_id l]
  apply List.map_congr_left
  intro c _
  simp
/-- Bytes in memory as a text. -/
theorem conv_bytes (w : World) (b o n cap : Nat) (l : List UInt8) (hl : l.length = n) (hc : ∀ j, j < n → w.cell? ⟨b, o + j, none⟩ = some (.int .u8 (l.getD j 0).toNat)) :
    (convert 92 9 (.slice (some ⟨b, o, none⟩) n cap)).run Try.prog w = .ok (.string ⟨l.toArray⟩) w := by
  have h := run_convert_bytes_arg (P := Try.prog) w 92 5 Try.underlying92 Try.underlying5 b o n cap (l.map fun c => (c.toNat : Int)) (by simpa using hl)
    (fun i hi => by rw [hc i hi]; simp [hl ▸ hi]) 9 Try.underlying9
  rw [strOfNums_enc] at h
  exact h
theorem getD_rev (l : List UInt8) (n j : Nat) (hl : n = l.length) (hj : j < n) : l.reverse.getD j 0 = l.getD (n - 1 - j) 0 := by
  subst hl
  rw [List.getD_eq_getElem?_getD, List.getD_eq_getElem?_getD, List.getElem?_reverse hj]

theorem neg64 (n : Int) (h0 : -9223372036854775808 ≤ n) (h1 : n < 0) : IntKind.u64.wrap (-IntKind.u64.wrap n) = -n := by
  rw [IntKind.wrap_u64, IntKind.wrap_u64]; omega

theorem decR_round (N u : Nat) (l : List UInt8) (h : decR N = l ++ decR u) (h10 : ¬ u < 10) : decR N = (l ++ [UInt8.ofNat (48 + u % 10)]) ++ decR (u / 10) := by
  rw [h, decR_great u h10]; simp
theorem decR_last (N u : Nat) (l : List UInt8) (h : decR N = l ++ decR u) (h10 : u < 10) : decR N = l ++ [UInt8.ofNat (48 + u % 10)] := by
  rw [h, decR_small u h10, Nat.mod_eq_of_lt h10]
theorem decR_size (N u : Nat) (l : List UInt8) (h : decR N = l ++ decR u) (hN : (N : Int) ≤ 18446744073709551615) : l.length ≤ 19 := by
  have h1 := decR_len64 N (by omega)
  have h2 := congrArg List.length h
  have h3 := decR_pos u
  simp at h2
  omega

set_option maxRecDepth 100000 in
set_option maxHeartbeats 1000000 in
theorem Digits_any (n : Int) (w : World) (h0 : -9223372036854775808 ≤ n) (h1 : n ≤ 9223372036854775807) :
    Calls Try.prog 67 #[.int .i64 n] w fun e w' => e = .returned (.string ⟨(digs n).toArray⟩) ∧ Below w.heap.size w w' := by
  obtain ⟨i0, hi, hz0, hz1, hz2⟩ := info_parts info_u8
  rcases Int.lt_or_le n 0 with hn | hn
  case' inl =>
    obtain ⟨N, hN⟩ : ∃ N : Nat, -n = (N : Int) := ⟨(-n).toNat, by omega⟩
    have HF : Hid (digs n = [45] ++ dec N) := by rw [Hid, digs_neg n N hn hN.symm]; rfl
    have HN : Hid ((N : Int) ≤ 18446744073709551615) := by show _ ≤ _; omega
    have HE := Lib.hid (show IntKind.u64.wrap (-IntKind.u64.wrap n) = (N : Int) by rw [neg64 n h0 hn, hN])
    clear hN
    go_enter Try.func67, Try.ntmps67
    go_wp2
    rw [HE.out]
    clear HE
  case' inr =>
    obtain ⟨N, rfl⟩ := Int.eq_ofNat_of_zero_le hn
    have HF : Hid (digs N = [] ++ dec N) := by rw [Hid, digs_pos N (by omega)]; rfl
    have HN : Hid ((N : Int) ≤ 18446744073709551615) := by show _ ≤ _; omega
    go_enter Try.func67, Try.ntmps67
    go_wp2
  all_goals
    clear h0 h1 hn
    go_loopw [4, 5] (fun u b wr => ∃ (x : Nat) (l : List UInt8), (x : Int) ≤ 18446744073709551615 ∧ u = .int .u64 x ∧ l.length ≤ 19 ∧ Hid (decR N = l ++ decR x) ∧ Hid (Below w.heap.size w wr) ∧ wr.ownsRow w.heap.size 5 1 b l.length (encB l)) (fun u _ _ => (intOf u).toNat)
    case atStart => exact ⟨N, [], HN.out, rfl, by decide, rfl, Below.refl _ _, World.ownsRow_nil _ _ _ _⟩
    case round =>
      obtain ⟨x, l, hx, rfl, hl, HD, HB, hown⟩ := hrel
      by_cases h10 : x < 10
      · have HL := Lib.hid (decR_last N x l HD.out h10)
        have hsz := HB.out.size
        clear hx
        go_wp2_with (at_builtin; refine wpList_append_own _ rfl _ _ 92 rfl w.heap.size 5 i0 (.int .u8 0) 1 1 Try.underlying92 hi hz0 hz1 hz2 rfl (by decide) _ _ _ rfl (hown.alloc _) ⟨wr.heap.size, 0, none⟩ 1 1 [.int .u8 (48 + (x : Int) % 10)] rfl rfl (cell_one_new _ _ _) (by simp [Value.oneCell']) (by unfold maxLen; omega) (by omega) (by simp; omega) ?_; intro v' w1 hown' hgrow _; obtain ⟨g, cap, rfl⟩ := ownsRow_succ hown')
        have Hb1 : Hid (Below w.heap.size w w1) := (HB.out.alloc hsz _).grown hgrow (by simp; omega) (fun k hk => (hown.lt k hk).1)
        rw [encB_snoc] at hown'
        obtain ⟨hl1, hc1, hc2, hg0, hcell, hfr⟩ := owns_bytes hown' (by omega)
        have Hl1 := Lib.hid hl1
        have HCell := Lib.hid hcell
        clear hl1 hcell hown' hgrow hown
        refine (rev_any g (l.length + 1) cap _ _ (by omega) hc1 hc2 HCell.out hfr).mono ?_
        rintro e w2 ⟨rfl, hg2, hcell2⟩
        have Hb2 : Hid (Below w.heap.size w w2) := Hb1.out.grown hg2 (by have := Hb1.out.size; exact this) (fun k hk => by cases hk; exact hg0)
        have hconv := conv_bytes w2 g 0 (l.length + 1) cap (l ++ [UInt8.ofNat (48 + x % 10)]).reverse (by simp) (fun j hj => by rw [Nat.zero_add, hcell2 j hj, getD_rev _ _ j Hl1.out hj])
        obtain ⟨r, hr⟩ : ∃ r, (l ++ [UInt8.ofNat (48 + x % 10)]).reverse = r := ⟨_, rfl⟩
        have hrl : r.length ≤ 20 := by rw [← hr]; simp; omega
        rw [hr] at hconv
        have Hr : Hid (dec N = r) := by rw [Hid, dec, HL.out, hr]
        clear hr hg2 hcell2
        go_wp2
        go_ret
        refine ⟨ret_str ?_, Hb2.out⟩
        rw [HF.out, Hr.out]
        exact ByteArray.mk_append_mk _ r
      · have HL := Lib.hid (decR_round N x l HD.out h10)
        have HS := Lib.hid (decR_size N (x / 10) _ HL.out HN.out)
        have hsz := HB.out.size
        go_wp2_with (at_builtin; refine wpList_append_own _ rfl _ _ 92 rfl w.heap.size 5 i0 (.int .u8 0) 1 1 Try.underlying92 hi hz0 hz1 hz2 rfl (by decide) _ _ _ rfl (hown.alloc _) ⟨wr.heap.size, 0, none⟩ 1 1 [.int .u8 (48 + (x : Int) % 10)] rfl rfl (cell_one_new _ _ _) (by simp [Value.oneCell']) (by unfold maxLen; omega) (by omega) (by simp; omega) ?_; intro v' w1 hown' hgrow _; have Hown := Lib.hid hown'; have Hgrow := Lib.hid hgrow; clear hown' hgrow)
        go_roundw
        case rel => exact ⟨x / 10, l ++ [UInt8.ofNat (48 + x % 10)], by omega, by go_num, HS.out, HL.out, (HB.out.alloc hsz _).grown Hgrow.out (by simp; omega) (fun k hk => (hown.lt k hk).1), by have h := Hown.out; rw [encB_snoc] at h; simpa using h⟩
        case measure => simp [intOf]; omega
end Go.Proofs.Ytmadfkofmehfkaa
