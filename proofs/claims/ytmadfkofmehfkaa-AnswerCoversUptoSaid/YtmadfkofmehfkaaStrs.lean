/-
  Lists of texts in memory; where a text stands in one. No condition but how they lie.
-/
import Derived.Test.YtmadfkofmehfkaaTree
namespace Go.Proofs.Ytmadfkofmehfkaa
open Go.RowKit
attribute [local go_sem] toList_beq

def strRows (l : List ByteArray) : List (List At) := l.map fun s => [.v (.string s)]
theorem strRows_len (l : List ByteArray) : (strRows l).length = l.length := by simp [strRows]
theorem str_at {S : Nat → Prop} {w : World} {l : List ByteArray} {a : Option Addr} {n cap : Nat} (h : Mem S w (.s 1 (strRows l)) (.slice a n cap)) (i : Nat) (hi : i < n) :
    ∃ b o s, a = some ⟨b, o, none⟩ ∧ S b ∧ Hid (l[i]? = some s) ∧ w.cell? ⟨b, o + i, none⟩ = some (.string s) := by
  have hl := h.len.1
  rw [strRows_len] at hl
  obtain ⟨b, o, ha, hS, _, cs, h2, hc⟩ := Mem.at h i (by rw [strRows_len]; omega)
  have e : (strRows l)[i]'(by rw [strRows_len]; omega) = [.v (.string (l[i]'(by omega)))] := by simp [strRows]
  rw [e] at h2
  cases h2 with
  | cons h0 h => cases h with
    | nil =>
      have := hc 0 (by simp)
      rw [Nat.mul_one, Nat.add_zero] at this
      exact ⟨b, o, l[i]'(by omega), ha, hS, Lib.hid (List.getElem?_eq_getElem (by omega)), by rw [this]; simp [h0.val]⟩

theorem idx_hit (l : List ByteArray) (s x : ByteArray) (k : Nat) (h : l[k]? = some x) (hx : x = s) (hn : ∀ j, j < k → l[j]? ≠ some s) : idxI l s = k := by
  obtain ⟨hk, rfl⟩ := List.getElem?_eq_some_iff.1 h
  refine idxI_at l s k hk (by rw [beq_iff_eq]; exact hx.symm) fun j hj hjk => ?_
  rw [beq_eq_false_iff_ne]
  intro e
  exact hn j hjk (by rw [List.getElem?_eq_getElem hj, e])
theorem idx_miss (l : List ByteArray) (s : ByteArray) (hn : ∀ j, j < l.length → l[j]? ≠ some s) : idxI l s = -1 := by
  refine idxI_no l s fun j hj => ?_
  rw [beq_eq_false_iff_ne]
  intro e
  exact hn j hj (by rw [List.getElem?_eq_getElem hj, e])
end Go.Proofs.Ytmadfkofmehfkaa
