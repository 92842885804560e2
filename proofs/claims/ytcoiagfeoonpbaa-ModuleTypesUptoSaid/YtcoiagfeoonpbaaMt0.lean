/-
  Plain words and lemmas for the walks: how a slice reads in memory, what is kept when memory grows, small facts on lists. No condition.
-/
import Derived.Test.YtcoiagfeoonpbaaRows
import Derived.WalkKit
import Derived.WalkSpells
import Derived.WalkLawsBesides
import Derived.Lib.Hide
import Derived.Lib.Strings
import Derived.Deep.Draws
namespace Go.Proofs.Ytcoiagfeoonpbaa
open Go.RowKit
theorem ret_int {k : IntKind} {a b : Int} (h : a = b) : Ending.returned (.int k a) = .returned (.int k b) := by rw [h]
theorem ret_bool {a b : Bool} (h : a = b) : Ending.returned (.bool a) = .returned (.bool b) := by rw [h]
theorem ret_str {a b : ByteArray} (h : a = b) : Ending.returned (.string a) = .returned (.string b) := by rw [h]
def Rd (B : Nat) (w : World) (a : Option Addr) (n cap sz : Nat) (xs : List Value) : Prop :=
  xs.length = n * sz ∧ n ≤ cap ∧ cap ≤ 9223372036854775807 ∧ (n = 0 ∨ ∃ b o, a = some ⟨b, o, none⟩ ∧ b < B ∧ ∀ (j : Nat) (h : j < xs.length), w.cell? ⟨b, o + j, none⟩ = some xs[j])
theorem Rd.mono {B : Nat} {w w' : World} {a : Option Addr} {n cap sz : Nat} {xs : List Value} (h : Rd B w a n cap sz xs) (hb : Below B w w') : Rd B w' a n cap sz xs := by
  obtain ⟨h1, h2, h3, h4⟩ := h
  refine ⟨h1, h2, h3, ?_⟩
  rcases h4 with h4 | ⟨b, o, ha, hbB, hc⟩
  · exact .inl h4
  · exact .inr ⟨b, o, ha, hbB, fun j hj => (hb.cell (p := ⟨b, o + j, none⟩) hbB).trans (hc j hj)⟩
theorem Rd.le {B B' : Nat} {w : World} {a : Option Addr} {n cap sz : Nat} {xs : List Value} (h : Rd B w a n cap sz xs) (hb : B ≤ B') : Rd B' w a n cap sz xs := by
  obtain ⟨h1, h2, h3, h4⟩ := h
  refine ⟨h1, h2, h3, ?_⟩
  rcases h4 with h4 | ⟨b, o, ha, hbB, hc⟩
  · exact .inl h4
  · exact .inr ⟨b, o, ha, Nat.lt_of_lt_of_le hbB hb, hc⟩
theorem Below.to {w w' w'' : World} (h : Below w.heap.size w w') (k : Below w'.heap.size w' w'') : Below w.heap.size w w'' := h.trans (k.mono h.size)
theorem take_snoc (s : ByteArray) (k : Nat) (h : k < s.size) : s.data.toList.take (k + 1) = s.data.toList.take k ++ [s[k]] := by
  rw [List.take_succ_eq_append_getElem (by simpa using h)]; rfl
theorem take_all (s : ByteArray) (k : Nat) (h : ¬ k < s.size) : s.data.toList.take k = s.data.toList := List.take_of_length_le (by simp; omega)
theorem mem_byte (s : ByteArray) (k : Nat) (h : k < s.size) : s[k] ∈ s.data.toList := Array.mem_toList_iff.2 (Array.getElem_mem (xs := s.data) h)
theorem length_data (s : ByteArray) : s.data.toList.length = s.size := by rw [Array.length_toList]; rfl
theorem str_eta (s : ByteArray) : (⟨s.data.toList.toArray⟩ : ByteArray) = s := by simp
theorem bytes_beq (a b : ByteArray) : (a == b) = (a.data == b.data) := by cases a; cases b; rfl
instance bytes_lawful : LawfulBEq ByteArray where
  eq_of_beq {a b} h := by rw [bytes_beq, beq_iff_eq] at h; cases a; cases b; simp at h; rw [h]
  rfl {a} := by rw [bytes_beq]; exact beq_self_eq_true _
theorem toList_beq (a b : ByteArray) : (a.toList == b.toList) = (a == b) := by
  rw [Bool.eq_iff_iff, beq_iff_eq, beq_iff_eq]
  constructor
  · intro h; rw [Lib.toList_data, Lib.toList_data] at h
    cases a; cases b; simp at h; rw [h]
  · intro h; rw [h]
theorem empty_beq (a : ByteArray) : a.toList.isEmpty = (a == ⟨#[]⟩) := by
  rw [← toList_beq, Bool.eq_iff_iff]; simp
def idxI {α : Type} [BEq α] (l : List α) (s : α) : Int := if l.any (s == ·) then (l.findIdx (s == ·) : Int) else -1
theorem idxI_at {α : Type} [BEq α] (l : List α) (s : α) (k : Nat) (hk : k < l.length) (h : (s == l[k]) = true) (hn : ∀ (j : Nat) (hj : j < l.length), j < k → (s == l[j]) = false) : idxI l s = k := by
  have ha : l.any (s == ·) = true := by rw [List.any_eq_true]; exact ⟨_, List.getElem_mem hk, h⟩
  rw [idxI, if_pos ha]
  have : l.findIdx (s == ·) = k := (List.findIdx_eq hk).2 ⟨h, fun j hj => hn j (by omega) hj⟩
  rw [this]
theorem idxI_no {α : Type} [BEq α] (l : List α) (s : α) (hn : ∀ (j : Nat) (hj : j < l.length), (s == l[j]) = false) : idxI l s = -1 := by
  have ha : ¬ l.any (s == ·) = true := by
    rw [List.any_eq_true]; rintro ⟨x, hx, hs⟩
    obtain ⟨j, hj, rfl⟩ := List.getElem_of_mem hx
    rw [hn j hj] at hs; cases hs
  rw [idxI, if_neg ha]
theorem idxI_ge {α : Type} [BEq α] (l : List α) (s : α) : decide (0 ≤ idxI l s) = l.any (s == ·) := by
  unfold idxI; split
  · rename_i h; rw [h]; simp
  · rename_i h; simp only [Bool.not_eq_true] at h; rw [h]; rfl
end Go.Proofs.Ytcoiagfeoonpbaa

/-
  More plain lemmas: new blocks read as what was put in. No condition.
-/
namespace Go.Proofs.Ytcoiagfeoonpbaa
open Go.RowKit
theorem rd_new (w : World) (cs : Array Value) (t : TypeId) (n sz : Nat) (h : cs.size = n * sz) (hn : n ≤ 9223372036854775807) :
    Rd (w.heap.size + 1) (w.alloc (.cells cs t)) (some ⟨w.heap.size, 0, none⟩) n n sz cs.toList := by
  refine ⟨by simpa using h, Nat.le_refl _, hn, .inr ⟨w.heap.size, 0, rfl, Nat.lt_succ_self _, fun j hj => ?_⟩⟩
  have hb : (w.alloc (.cells cs t)).heap[w.heap.size]? = some (.cells cs t) := (MapKept.heap_alloc w _).1
  simp only [World.cell?, hb]
  simp at hj ⊢
theorem below_new (w : World) (o : Obj) : Below w.heap.size w (w.alloc o) := (Below.refl _ w).alloc (Nat.le_refl _) o
theorem below_drewN {B : Nat} {a w : World} (h : Below B a w) (n : Nat) : Below B a (w.drewN n) := ⟨h.os, h.tape, h.output, h.size, h.block⟩
theorem Below.toA {w w1 w2 : World} {o : Obj} (h : Below w.heap.size w w1) (k : Below (w1.alloc o).heap.size (w1.alloc o) w2) : Below w.heap.size w w2 := Below.to (h.alloc h.size o) k
theorem Below.toAA {w w1 w2 : World} {o o' : Obj} (h : Below w.heap.size w w1) (k : Below ((w1.alloc o).alloc o').heap.size ((w1.alloc o).alloc o') w2) : Below w.heap.size w w2 :=
  Below.to ((h.alloc h.size o).alloc (by rw [World.size_alloc]; have := h.size; omega) o') k
end Go.Proofs.Ytcoiagfeoonpbaa

/-
  Plain lemmas on cells: what a store does to a cell, what lies beside one block. No condition.
-/
namespace Go.Proofs.Ytcoiagfeoonpbaa
open Go.RowKit
theorem grownBy_refl (w : World) (r : Option Nat) : w.grownBy w r := ⟨rfl, rfl, rfl, Nat.le_refl _, fun _ _ _ => rfl⟩
theorem grownBy_trans {w w' w'' : World} {r : Option Nat} (h : w.grownBy w' r) (k : w'.grownBy w'' r) : w.grownBy w'' r :=
  ⟨k.os.trans h.os, k.tape.trans h.tape, k.output.trans h.output, Nat.le_trans h.size k.size, fun i hi hr => (k.block i (Nat.lt_of_lt_of_le hi h.size) hr).trans (h.block i hi hr)⟩
theorem grownBy_setCell (w : World) (g o : Nat) (v : Value) : w.grownBy (w.setCell ⟨g, o, none⟩ v) (some g) :=
  ⟨rfl, rfl, rfl, by simp [World.setCell], fun k _ hk => Below.heap_setCell w ⟨g, o, none⟩ v k (fun e => hk (by rw [e]))⟩
theorem grownBy_drew (w : World) (r : Option Nat) : w.grownBy w.drew r := ⟨rfl, rfl, rfl, Nat.le_refl _, fun _ _ _ => rfl⟩
theorem cell_set_same (w : World) (g o : Nat) (v : Value) (h : (w.cell? ⟨g, o, none⟩).isSome = true) : (w.setCell ⟨g, o, none⟩ v).cell? ⟨g, o, none⟩ = some v := World.cell?_setCell_same' w _ v h
theorem cell_set_other (w : World) (g o j : Nat) (v : Value) (h : j ≠ o) : (w.setCell ⟨g, o, none⟩ v).cell? ⟨g, j, none⟩ = w.cell? ⟨g, j, none⟩ := World.cell?_setCell_other w _ _ _ (fun e => h (by injection e with _ h2; exact h2.symm))
def Dr (w w' : World) : Prop := w'.heap = w.heap ∧ w'.os = w.os ∧ w'.tape = w.tape ∧ w'.output = w.output
theorem Dr.refl (w : World) : Dr w w := ⟨rfl, rfl, rfl, rfl⟩
theorem Dr.below {w w' : World} (h : Dr w w') {B : Nat} {a : World} (k : Below B a w) : Below B a w' :=
  ⟨h.2.1.trans k.os, h.2.2.1.trans k.tape, h.2.2.2.trans k.output, by rw [h.1]; exact k.size, fun i hi => by rw [h.1]; exact k.block i hi⟩
theorem Dr.cell {w w' : World} (h : Dr w w') (a : Addr) : w'.cell? a = w.cell? a := by simp only [World.cell?, h.1]
theorem Dr.frozen {w w' : World} (h : Dr w w') (a : Addr) : w'.frozen? a = w.frozen? a := by simp only [World.frozen?, h.1]
end Go.Proofs.Ytcoiagfeoonpbaa

/-
  'All but these blocks lies as it lay': what a deed on something in memory leaves alone. Plain lemmas. No condition.
-/
namespace Go.Proofs.Ytcoiagfeoonpbaa
open Go.RowKit
structure Far (S : Nat → Prop) (w w' : World) : Prop where
  os : w'.os = w.os
  tape : w'.tape = w.tape
  output : w'.output = w.output
  size : w.heap.size ≤ w'.heap.size
  block : ∀ k, k < w.heap.size → ¬ S k → w'.heap[k]? = w.heap[k]?
theorem Far.refl (S : Nat → Prop) (w : World) : Far S w w := ⟨rfl, rfl, rfl, Nat.le_refl _, fun _ _ _ => rfl⟩
theorem Far.trans {S : Nat → Prop} {a b c : World} (h : Far S a b) (k : Far S b c) : Far S a c :=
  ⟨k.os.trans h.os, k.tape.trans h.tape, k.output.trans h.output, Nat.le_trans h.size k.size, fun i hi hs => (k.block i (Nat.lt_of_lt_of_le hi h.size) hs).trans (h.block i hi hs)⟩
theorem Far.mono {S T : Nat → Prop} {w w' : World} (h : Far S w w') (hST : ∀ k, S k → T k) : Far T w w' := ⟨h.os, h.tape, h.output, h.size, fun k hk hT => h.block k hk fun hS => hT (hST k hS)⟩
theorem Far.of {S : Nat → Prop} {w w' : World} (h : Below w.heap.size w w') : Far S w w' := ⟨h.os, h.tape, h.output, h.size, fun k hk _ => h.block k hk⟩
theorem Far.toB {B : Nat} {w w' : World} (h : Far (fun k => B ≤ k) w w') (hB : B ≤ w.heap.size) : Below B w w' := ⟨h.os, h.tape, h.output, h.size, fun k hk => h.block k (by omega) (by omega)⟩
theorem Far.drewN {S : Nat → Prop} {a w : World} (h : Far S a w) (n : Nat) : Far S a (w.drewN n) := ⟨h.os, h.tape, h.output, h.size, h.block⟩
theorem Far.setCell {S : Nat → Prop} {a w : World} (h : Far S a w) {p : Addr} (hp : S p.block) (u : Value) : Far S a (w.setCell p u) :=
  ⟨h.os, h.tape, h.output, by have := h.size; simpa [World.setCell] using this, fun k hk hS => (Below.heap_setCell w p u k (fun e => hS (e ▸ hp))).trans (h.block k hk hS)⟩
theorem Dr.far {w w' : World} (h : Dr w w') {S : Nat → Prop} {a : World} (k : Far S a w) : Far S a w' :=
  ⟨h.2.1.trans k.os, h.2.2.1.trans k.tape, h.2.2.2.trans k.output, by rw [h.1]; exact k.size, fun i hi hs => by rw [h.1]; exact k.block i hi hs⟩
theorem Far.cell {S : Nat → Prop} {w w' : World} (h : Far S w w') {b o : Nat} (hb : b < w.heap.size) (hs : ¬ S b) : w'.cell? ⟨b, o, none⟩ = w.cell? ⟨b, o, none⟩ := World.cell?_of_block (h.block b hb hs)
end Go.Proofs.Ytcoiagfeoonpbaa
