/-
  Slices of integers in memory; the walk of Ints. No condition but how they lie.
-/
import Derived.Test.YtppejoccljfblaaCells
import Derived.RegionTactic
import Derived.ChangeAlike
import Derived.Deep.QuietTactic
import Derived.BigQuiet
namespace Go.Proofs.Ytppejoccljfblaa
open Go.RowKit

def ints (l : List Int) : List Value := l.map (Value.int .i64)
theorem ints_length (l : List Int) : (ints l).length = l.length := by simp [ints]
theorem Rd.intAt {B : Nat} {w : World} {a : Option Addr} {n cap : Nat} {l : List Int} (h : Rd B w a n cap 1 (ints l)) (k : Nat) (hk : k < n) :
    ∃ b o, a = some ⟨b, o, none⟩ ∧ ∃ hl : k < l.length, w.cell? ⟨b, o + k, none⟩ = some (.int .i64 l[k]) := by
  obtain ⟨h1, h2, h3, h4⟩ := h
  rcases h4 with h4 | ⟨b, o, ha, hbB, hc⟩
  · omega
  · have hl : k < l.length := by simp [ints] at h1; omega
    refine ⟨b, o, ha, hl, ?_⟩
    rw [hc k (by simpa [ints] using hl)]
    simp [ints]
theorem Rd.intLen {B : Nat} {w : World} {a : Option Addr} {n cap : Nat} {l : List Int} (h : Rd B w a n cap 1 (ints l)) : l.length = n := by
  have := h.1; simp [ints] at this; exact this

theorem lists_same {α : Type} [BEq α] [LawfulBEq α] (l m : List α) (h : l.length = m.length) (h2 : ∀ (j : Nat) (h1 : j < l.length) (h3 : j < m.length), l[j] = m[j]) : (l == m) = true := by
  rw [beq_iff_eq]; exact List.ext_getElem h h2
theorem lists_differ {α : Type} [BEq α] [LawfulBEq α] (l m : List α) (j : Nat) (h1 : j < l.length) (h3 : j < m.length) (h2 : l[j] ≠ m[j]) : (l == m) = false := by
  rw [beq_eq_false_iff_ne]; rintro rfl; exact h2 rfl
theorem lists_long {α : Type} [BEq α] [LawfulBEq α] (l m : List α) (h : l.length ≠ m.length) : (l == m) = false := by
  rw [beq_eq_false_iff_ne]; rintro rfl; exact h rfl

set_option maxHeartbeats 1000000 in
theorem ints_any {B B' n n' cap cap' : Nat} {a a' : Option Addr} {l m : List Int} (w : World) (h : Rd B w a n cap 1 (ints l)) (h' : Rd B' w a' n' cap' 1 (ints m)) (hB : B ≤ w.heap.size) (hB' : B' ≤ w.heap.size) :
    Calls Try.prog 61 #[.slice a n cap, .slice a' n' cap'] w fun e w' => e = .returned (.bool (l == m)) ∧ Below w.heap.size w w' := by
  have hcap := h.2.1
  have hm := h.2.2.1
  have hcap' := h'.2.1
  have hm' := h'.2.2.1
  have HL := Lib.hid h.intLen
  have HL' := Lib.hid h'.intLen
  have H := Lib.hid (h.le hB)
  have H' := Lib.hid (h'.le hB')
  clear h h' hB hB'
  by_cases hnn : n = n'
  · subst hnn
    go_enter Try.func61, Try.ntmps61
    go_wp2
    go_loopw [5, 13] (fun _ i wr => ∃ k : Nat, k ≤ n ∧ i = .int .i64 k ∧ Hid (Below w.heap.size w wr) ∧ Hid (∀ (j : Nat) (h1 : j < l.length) (h3 : j < m.length), j < k → l[j] = m[j])) (fun _ i _ => n - (intOf i).toNat)
    case atStart => exact ⟨0, Nat.zero_le _, rfl, Below.refl _ _, fun j _ _ h0 => by omega⟩
    case round =>
      obtain ⟨k, hk, rfl, HB, Hn⟩ := hrel
      by_cases hlt : k < n
      · obtain ⟨b, o, rfl, hl, hc⟩ := (H.out.mono HB.out).intAt k hlt
        obtain ⟨b', o', rfl, hl', hc'⟩ := (H'.out.mono HB.out).intAt k hlt
        by_cases he : l[k] = m[k]
        · have he' : (l[k] != m[k]) = false := by rw [bne_eq_false_iff_eq]; exact he
          have HN : Hid (∀ (j : Nat) (h1 : j < l.length) (h3 : j < m.length), j < k + 1 → l[j] = m[j]) := fun j h1 h3 hj => by
            rcases Nat.lt_or_ge j k with h2 | h2
            · exact Hn.out j h1 h3 h2
            · obtain rfl : j = k := by omega
              exact he
          clear he
          generalize l[k] = x at *
          generalize m[k] = y at *
          go_wp2
          go_quiet (fail)
          go_wp2
          go_roundw
          case rel => exact ⟨k + 1, by omega, by go_num, below_drewN HB.out _, HN.out⟩
          case measure => simp [intOf]; omega
        · have he' : (l[k] != m[k]) = true := by rw [bne_iff_ne]; exact he
          have HF := Lib.hid (lists_differ l m k hl hl' he)
          clear he
          generalize l[k] = x at *
          generalize m[k] = y at *
          go_wp2
          go_quiet (fail)
          go_wp2
          go_ret
          exact ⟨ret_bool HF.out.symm, below_drewN HB.out _⟩
      · go_wp2
        go_ret
        exact ⟨ret_bool (lists_same l m (HL.out.trans HL'.out.symm) fun j h1 h3 => Hn.out j h1 h3 (by have := HL.out; omega)).symm, HB.out⟩
  · have hne : ((n : Int) != (n' : Int)) = true := by rw [bne_iff_ne]; omega
    have HF := Lib.hid (lists_long l m (by rw [HL.out, HL'.out]; exact hnn))
    go_enter Try.func61, Try.ntmps61
    go_wp2
    go_ret
    exact ⟨ret_bool HF.out.symm, Below.refl _ _⟩
end Go.Proofs.Ytppejoccljfblaa
