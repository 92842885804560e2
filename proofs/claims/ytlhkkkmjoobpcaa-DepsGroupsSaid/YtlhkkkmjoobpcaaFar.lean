/-
  'All but these blocks lies as it lay': what a deed on something in memory leaves alone. Plain lemmas. No condition.
-/
import Derived.Test.YtlhkkkmjoobpcaaCells
namespace Go.Proofs.Ytlhkkkmjoobpcaa
open Go.RowKit

structure Far (S : Nat → Prop) (w w' : World) : Prop where
  os : w'.os = w.os
  tape : w'.tape = w.tape
  output : w'.output = w.output
  size : w.heap.size ≤ w'.heap.size
  block : ∀ k, k < w.heap.size → ¬ S k → w'.heap[k]? = w.heap[k]?

theorem Far.refl (S : Nat → Prop) (w : World) : Far S w w := ⟨rfl, rfl, rfl, Nat.le_refl _, fun _ _ _ => rfl⟩
theorem Far.trans {S : Nat → Prop} {a b c : World} (h : Far S a b) (k : Far S b c) : Far S a c :=
  ⟨k.os.trans h.os, k.tape.trans h.tape, k.output.trans h.output, Nat.le_trans h.size k.size, fun i hi hs => (k.block i (Nat.lt_of_lt_of_le hi h.size) hs).trans (h.block i hi hs)⟩
theorem Far.mono {S T : Nat → Prop} {w w' : World} (h : Far S w w') (hST : ∀ k, S k → T k) : Far T w w' := ⟨h.os, h.tape, h.output, h.size, fun k hk hT => h.block k hk fun hS => hT (hST k hS)⟩
theorem Far.of {S : Nat → Prop} {w w' : World} (h : Below w.heap.size w w') : Far S w w' := ⟨h.os, h.tape, h.output, h.size, fun k hk _ => h.block k hk⟩
theorem Far.toB {B : Nat} {w w' : World} (h : Far (fun k => B ≤ k) w w') (hB : B ≤ w.heap.size) : Below B w w' := ⟨h.os, h.tape, h.output, h.size, fun k hk => h.block k (by omega) (by omega)⟩
theorem Far.drewN {S : Nat → Prop} {a w : World} (h : Far S a w) (n : Nat) : Far S a (w.drewN n) := ⟨h.os, h.tape, h.output, h.size, h.block⟩
theorem Far.setCell {S : Nat → Prop} {a w : World} (h : Far S a w) {p : Addr} (hp : S p.block) (u : Value) : Far S a (w.setCell p u) :=
  ⟨h.os, h.tape, h.output, by have := h.size; simpa [World.setCell] using this, fun k hk hS => (Below.heap_setCell w p u k (fun e => hS (e ▸ hp))).trans (h.block k hk hS)⟩
theorem Dr.far {w w' : World} (h : Dr w w') {S : Nat → Prop} {a : World} (k : Far S a w) : Far S a w' :=
  ⟨h.2.1.trans k.os, h.2.2.1.trans k.tape, h.2.2.2.trans k.output, by rw [h.1]; exact k.size, fun i hi hs => by rw [h.1]; exact k.block i hi hs⟩
theorem Far.cell {S : Nat → Prop} {w w' : World} (h : Far S w w') {b o : Nat} (hb : b < w.heap.size) (hs : ¬ S b) : w'.cell? ⟨b, o, none⟩ = w.cell? ⟨b, o, none⟩ := World.cell?_of_block (h.block b hb hs)
end Go.Proofs.Ytlhkkkmjoobpcaa
