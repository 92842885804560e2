/-
  Plain words and lemmas for the walks: how a slice reads in memory, what is kept when memory grows, small facts on lists. No condition.
-/
import Derived.Test.YtlhkkkmjoobpcaaRows
import Derived.WalkKit
import Derived.WalkSpells
import Derived.WalkLawsBesides
import Derived.Lib.Hide
import Derived.Lib.Strings
namespace Go.Proofs.Ytlhkkkmjoobpcaa
open Go.RowKit

theorem ret_int {k : IntKind} {a b : Int} (h : a = b) : Ending.returned (.int k a) = .returned (.int k b) := by rw [h]
theorem ret_bool {a b : Bool} (h : a = b) : Ending.returned (.bool a) = .returned (.bool b) := by rw [h]
theorem ret_str {a b : ByteArray} (h : a = b) : Ending.returned (.string a) = .returned (.string b) := by rw [h]

/-- A slice's place, length and capacity read as these cells (sz of them each), in a block below B. -/
def Rd (B : Nat) (w : World) (a : Option Addr) (n cap sz : Nat) (xs : List Value) : Prop :=
  xs.length = n * sz ∧ n ≤ cap ∧ cap ≤ 9223372036854775807 ∧ (n = 0 ∨ ∃ b o, a = some ⟨b, o, none⟩ ∧ b < B ∧ ∀ (j : Nat) (h : j < xs.length), w.cell? ⟨b, o + j, none⟩ = some xs[j])

theorem Rd.mono {B : Nat} {w w' : World} {a : Option Addr} {n cap sz : Nat} {xs : List Value} (h : Rd B w a n cap sz xs) (hb : Below B w w') : Rd B w' a n cap sz xs := by
  obtain ⟨h1, h2, h3, h4⟩ := h
  refine ⟨h1, h2, h3, ?_⟩
  rcases h4 with h4 | ⟨b, o, ha, hbB, hc⟩
  · exact .inl h4
  · exact .inr ⟨b, o, ha, hbB, fun j hj => (hb.cell (p := ⟨b, o + j, none⟩) hbB).trans (hc j hj)⟩

theorem Rd.le {B B' : Nat} {w : World} {a : Option Addr} {n cap sz : Nat} {xs : List Value} (h : Rd B w a n cap sz xs) (hb : B ≤ B') : Rd B' w a n cap sz xs := by
  obtain ⟨h1, h2, h3, h4⟩ := h
  refine ⟨h1, h2, h3, ?_⟩
  rcases h4 with h4 | ⟨b, o, ha, hbB, hc⟩
  · exact .inl h4
  · exact .inr ⟨b, o, ha, Nat.lt_of_lt_of_le hbB hb, hc⟩

/-- Grown worlds keep what was there: in the form that contracts hand on. -/
theorem Below.to {w w' w'' : World} (h : Below w.heap.size w w') (k : Below w'.heap.size w' w'') : Below w.heap.size w w'' := h.trans (k.mono h.size)

theorem take_snoc (s : ByteArray) (k : Nat) (h : k < s.size) : s.data.toList.take (k + 1) = s.data.toList.take k ++ [s[k]] := by
  rw [List.take_succ_eq_append_getElem (by simpa using h)]; rfl
theorem take_all (s : ByteArray) (k : Nat) (h : ¬ k < s.size) : s.data.toList.take k = s.data.toList := List.take_of_length_le (by simp; omega)
theorem mem_byte (s : ByteArray) (k : Nat) (h : k < s.size) : s[k] ∈ s.data.toList := Array.mem_toList_iff.2 (Array.getElem_mem (xs := s.data) h)
theorem size_data (s : ByteArray) : s.data.size = s.size := rfl
theorem length_data (s : ByteArray) : s.data.toList.length = s.size := by rw [Array.length_toList]; rfl
theorem str_eta (s : ByteArray) : (⟨s.data.toList.toArray⟩ : ByteArray) = s := by simp

theorem bytes_beq (a b : ByteArray) : (a == b) = (a.data == b.data) := by cases a; cases b; rfl
instance bytes_lawful : LawfulBEq ByteArray where
  eq_of_beq {a b} h := by rw [bytes_beq, beq_iff_eq] at h; cases a; cases b; simp at h; rw [h]
  rfl {a} := by rw [bytes_beq]; exact beq_self_eq_true _
/-- Two texts are alike: in the walk's spelling, and as texts. -/
theorem toList_beq (a b : ByteArray) : (a.toList == b.toList) = (a == b) := by
  rw [Bool.eq_iff_iff, beq_iff_eq, beq_iff_eq]
  constructor
  · intro h; rw [Lib.toList_data, Lib.toList_data] at h
    cases a; cases b; simp at h; rw [h]
  · intro h; rw [h]
theorem empty_beq (a : ByteArray) : a.toList.isEmpty = (a == ⟨#[]⟩) := by
  rw [← toList_beq, Bool.eq_iff_iff]; simp
theorem beq_comm_bool (a b : ByteArray) (c : Bool) (h : (a == b) = c) : (b == a) = c := by rw [← h, Bool.eq_iff_iff, beq_iff_eq, beq_iff_eq]; exact eq_comm

/-- The place of the first one that is alike, or -1. -/
def idxI {α : Type} [BEq α] (l : List α) (s : α) : Int := if l.any (s == ·) then (l.findIdx (s == ·) : Int) else -1
theorem idxI_at {α : Type} [BEq α] (l : List α) (s : α) (k : Nat) (hk : k < l.length) (h : (s == l[k]) = true) (hn : ∀ (j : Nat) (hj : j < l.length), j < k → (s == l[j]) = false) : idxI l s = k := by
  have ha : l.any (s == ·) = true := by rw [List.any_eq_true]; exact ⟨_, List.getElem_mem hk, h⟩
  rw [idxI, if_pos ha]
  have : l.findIdx (s == ·) = k := (List.findIdx_eq hk).2 ⟨h, fun j hj => hn j (by omega) hj⟩
  rw [this]
theorem idxI_no {α : Type} [BEq α] (l : List α) (s : α) (hn : ∀ (j : Nat) (hj : j < l.length), (s == l[j]) = false) : idxI l s = -1 := by
  have ha : ¬ l.any (s == ·) = true := by
    rw [List.any_eq_true]; rintro ⟨x, hx, hs⟩
    obtain ⟨j, hj, rfl⟩ := List.getElem_of_mem hx
    rw [hn j hj] at hs; cases hs
  rw [idxI, if_neg ha]
theorem idxI_ge {α : Type} [BEq α] (l : List α) (s : α) : decide (0 ≤ idxI l s) = l.any (s == ·) := by
  unfold idxI; split
  · rename_i h; rw [h]; simp
  · rename_i h; simp only [Bool.not_eq_true] at h; rw [h]; rfl
end Go.Proofs.Ytlhkkkmjoobpcaa
