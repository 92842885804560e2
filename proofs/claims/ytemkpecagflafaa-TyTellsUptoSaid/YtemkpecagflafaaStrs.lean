/-
  Lists of texts in memory; where a text stands in one. No condition but how they lie.
-/
import Derived.Test.YtemkpecagflafaaTree
namespace Go.Proofs.Ytemkpecagflafaa
open Go.RowKit
attribute [local go_sem] toList_beq

def strRows (l : List ByteArray) : List (List At) := l.map fun s => [.v (.string s)]
theorem strRows_len (l : List ByteArray) : (strRows l).length = l.length := by simp [strRows]
theorem str_at {S : Nat → Prop} {w : World} {l : List ByteArray} {a : Option Addr} {n cap : Nat} (h : Mem S w (.s 1 (strRows l)) (.slice a n cap)) (i : Nat) (hi : i < n) :
    ∃ b o s, a = some ⟨b, o, none⟩ ∧ S b ∧ Hid (l[i]? = some s) ∧ w.cell? ⟨b, o + i, none⟩ = some (.string s) := by
  have hl := h.len.1
  rw [strRows_len] at hl
  obtain ⟨b, o, ha, hS, _, cs, h2, hc⟩ := Mem.at h i (by rw [strRows_len]; omega)
  have e : (strRows l)[i]'(by rw [strRows_len]; omega) = [.v (.string (l[i]'(by omega)))] := by simp [strRows]
  rw [e] at h2
  cases h2 with
  | cons h0 h => cases h with
    | nil =>
      have := hc 0 (by simp)
      rw [Nat.mul_one, Nat.add_zero] at this
      exact ⟨b, o, l[i]'(by omega), ha, hS, Lib.hid (List.getElem?_eq_getElem (by omega)), by rw [this]; simp [h0.val]⟩

theorem idx_hit (l : List ByteArray) (s x : ByteArray) (k : Nat) (h : l[k]? = some x) (hx : x = s) (hn : ∀ j, j < k → l[j]? ≠ some s) : idxI l s = k := by
  obtain ⟨hk, rfl⟩ := List.getElem?_eq_some_iff.1 h
  refine idxI_at l s k hk (by rw [beq_iff_eq]; exact hx.symm) fun j hj hjk => ?_
  rw [beq_eq_false_iff_ne]
  intro e
  exact hn j hjk (by rw [List.getElem?_eq_getElem hj, e])
theorem idx_miss (l : List ByteArray) (s : ByteArray) (hn : ∀ j, j < l.length → l[j]? ≠ some s) : idxI l s = -1 := by
  refine idxI_no l s fun j hj => ?_
  rw [beq_eq_false_iff_ne]
  intro e
  exact hn j hj (by rw [List.getElem?_eq_getElem hj, e])

set_option maxRecDepth 100000 in
set_option maxHeartbeats 2000000 in
theorem place09_any {l : List ByteArray} {n cap : Nat} {a : Option Addr} (s : ByteArray) (w : World) (h : MemW w (.s 1 (strRows l)) (.slice a n cap)) :
    Calls Try.prog 47 #[.slice a n cap, .string s] w fun e w' => e = .returned (.int .i64 (idxI l s)) ∧ w = w' := by
  have hl := Mem.len h
  rw [strRows_len] at hl
  have HL := Lib.hid hl.1
  have hcap := hl.2.1
  have hmx := hl.2.2
  have H := Lib.hid h
  clear hl h
  go_enter Try.func47, Try.ntmps47
  go_wp2
  go_loop [5, 6, 9] (fun _ _ i => ∃ k : Nat, k ≤ n ∧ i = .int .i64 k ∧ Hid (∀ j, j < k → l[j]? ≠ some s)) (fun _ _ i => n - (intOf i).toNat)
  case atStart => exact ⟨0, Nat.zero_le _, rfl, fun j hj => by omega⟩
  case round =>
    obtain ⟨k, hk, rfl, Hn⟩ := hrel
    by_cases hlt : k < n
    · obtain ⟨b, o, x, rfl, _, Hx, hc⟩ := str_at H.out k hlt
      by_cases hx : x = s
      · have HF := Lib.hid (idx_hit l s x k Hx.out hx Hn.out)
        have e1 : (x == s) = true := by rw [beq_iff_eq]; exact hx
        clear hx
        go_wp2
        go_ret
        exact ⟨ret_int HF.out.symm, rfl⟩
      · have e1 : (x == s) = false := by rw [beq_eq_false_iff_ne]; exact hx
        have HN : Hid (∀ j, j < k + 1 → l[j]? ≠ some s) := fun j hj => by
          by_cases e : j = k
          · subst e; rw [Hx.out]; intro e; exact hx (Option.some.inj e)
          · exact Hn.out j (by omega)
        clear hx
        go_wp2
        go_round
        case rel => exact ⟨k + 1, by omega, by go_num, HN.out⟩
        case measure => simp [intOf]; omega
    · have HF := Lib.hid (idx_miss l s fun j hj => Hn.out j (by rw [HL.out] at hj; omega))
      go_wp2
      go_ret
      exact ⟨ret_int HF.out.symm, rfl⟩
set_option maxRecDepth 100000 in
set_option maxHeartbeats 2000000 in
theorem index_str_any {l : List ByteArray} {n cap : Nat} {a : Option Addr} (s : ByteArray) (w : World) (h : MemW w (.s 1 (strRows l)) (.slice a n cap)) :
    Calls Try.prog 91 #[.slice a n cap, .string s] w fun e w' => e = .returned (.int .i64 (idxI l s)) ∧ w = w' := by
  have hl := Mem.len h
  rw [strRows_len] at hl
  have HL := Lib.hid hl.1
  have hcap := hl.2.1
  have hmx := hl.2.2
  have H := Lib.hid h
  clear hl h
  go_enter Try.func91, Try.ntmps91
  go_wp2
  go_loop [5, 8] (fun _ i => ∃ k : Nat, k ≤ n ∧ i = .int .i64 k ∧ Hid (∀ j, j < k → l[j]? ≠ some s)) (fun _ i => n - (intOf i).toNat)
  case atStart => exact ⟨0, Nat.zero_le _, rfl, fun j hj => by omega⟩
  case round =>
    obtain ⟨k, hk, rfl, Hn⟩ := hrel
    by_cases hlt : k < n
    · obtain ⟨b, o, x, rfl, _, Hx, hc⟩ := str_at H.out k hlt
      by_cases hx : x = s
      · have HF := Lib.hid (idx_hit l s x k Hx.out hx Hn.out)
        have e1 : (s == x) = true := by rw [beq_iff_eq]; exact hx.symm
        clear hx
        go_wp2
        go_ret
        exact ⟨ret_int HF.out.symm, rfl⟩
      · have e1 : (s == x) = false := by rw [beq_eq_false_iff_ne]; exact fun e => hx e.symm
        have HN : Hid (∀ j, j < k + 1 → l[j]? ≠ some s) := fun j hj => by
          by_cases e : j = k
          · subst e; rw [Hx.out]; intro e; exact hx (Option.some.inj e)
          · exact Hn.out j (by omega)
        clear hx
        go_wp2
        go_round
        case rel => exact ⟨k + 1, by omega, by go_num, HN.out⟩
        case measure => simp [intOf]; omega
    · have HF := Lib.hid (idx_miss l s fun j hj => Hn.out j (by rw [HL.out] at hj; omega))
      go_wp2
      go_ret
      exact ⟨ret_int HF.out.symm, rfl⟩
end Go.Proofs.Ytemkpecagflafaa
