/-
  Plain lemmas on cells: what a store does to a cell, what lies beside one block. No condition.
-/
import Derived.Test.YtlhkkkmjoobpcaaBase2
namespace Go.Proofs.Ytlhkkkmjoobpcaa
open Go.RowKit

/-- What lay beside one block lies as it lay. -/
theorem grownBy_refl (w : World) (r : Option Nat) : w.grownBy w r := ⟨rfl, rfl, rfl, Nat.le_refl _, fun _ _ _ => rfl⟩
theorem grownBy_trans {w w' w'' : World} {r : Option Nat} (h : w.grownBy w' r) (k : w'.grownBy w'' r) : w.grownBy w'' r :=
  ⟨k.os.trans h.os, k.tape.trans h.tape, k.output.trans h.output, Nat.le_trans h.size k.size, fun i hi hr => (k.block i (Nat.lt_of_lt_of_le hi h.size) hr).trans (h.block i hi hr)⟩
theorem grownBy_setCell (w : World) (g o : Nat) (v : Value) : w.grownBy (w.setCell ⟨g, o, none⟩ v) (some g) :=
  ⟨rfl, rfl, rfl, by simp [World.setCell], fun k _ hk => Below.heap_setCell w ⟨g, o, none⟩ v k (fun e => hk (by rw [e]))⟩
theorem grownBy_drew (w : World) (r : Option Nat) : w.grownBy w.drew r := ⟨rfl, rfl, rfl, Nat.le_refl _, fun _ _ _ => rfl⟩

theorem cell_set_same (w : World) (g o : Nat) (v : Value) (h : (w.cell? ⟨g, o, none⟩).isSome = true) : (w.setCell ⟨g, o, none⟩ v).cell? ⟨g, o, none⟩ = some v := World.cell?_setCell_same' w _ v h
theorem cell_set_other (w : World) (g o j : Nat) (v : Value) (h : j ≠ o) : (w.setCell ⟨g, o, none⟩ v).cell? ⟨g, j, none⟩ = w.cell? ⟨g, j, none⟩ := World.cell?_setCell_other w _ _ _ (fun e => h (by injection e with _ h2; exact h2.symm))
theorem cell_set_far (w : World) (g o j b : Nat) (v : Value) (h : b ≠ g) : (w.setCell ⟨g, o, none⟩ v).cell? ⟨b, j, none⟩ = w.cell? ⟨b, j, none⟩ := World.cell?_setCell_other w _ _ _ (fun e => h (by injection e with h2 _; exact h2.symm))

theorem cell_alloc_old (w : World) (k : Nat) (ob : Obj) (b o : Nat) (h : b < w.heap.size) : ((w.drewN k).alloc ob).cell? ⟨b, o, none⟩ = w.cell? ⟨b, o, none⟩ :=
  ((below_drewN (Below.refl w.heap.size w) k).alloc (Nat.le_refl _) ob).cell (p := ⟨b, o, none⟩) h
/-- The same world, but for what has been drawn. -/
def Dr (w w' : World) : Prop := w'.heap = w.heap ∧ w'.os = w.os ∧ w'.tape = w.tape ∧ w'.output = w.output
theorem Dr.refl (w : World) : Dr w w := ⟨rfl, rfl, rfl, rfl⟩
theorem Dr.below {w w' : World} (h : Dr w w') {B : Nat} {a : World} (k : Below B a w) : Below B a w' :=
  ⟨h.2.1.trans k.os, h.2.2.1.trans k.tape, h.2.2.2.trans k.output, by rw [h.1]; exact k.size, fun i hi => by rw [h.1]; exact k.block i hi⟩
theorem Dr.cell {w w' : World} (h : Dr w w') (a : Addr) : w'.cell? a = w.cell? a := by simp only [World.cell?, h.1]
theorem Dr.frozen {w w' : World} (h : Dr w w') (a : Addr) : w'.frozen? a = w.frozen? a := by simp only [World.frozen?, h.1]
end Go.Proofs.Ytlhkkkmjoobpcaa
