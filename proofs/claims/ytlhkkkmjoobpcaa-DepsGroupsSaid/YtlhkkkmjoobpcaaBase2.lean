/-
  More plain lemmas: new blocks read as what was put in. No condition.
-/
import Derived.Test.YtlhkkkmjoobpcaaBase
import Derived.Deep.Draws
namespace Go.Proofs.Ytlhkkkmjoobpcaa
open Go.RowKit

theorem rd_new (w : World) (cs : Array Value) (t : TypeId) (n sz : Nat) (h : cs.size = n * sz) (hn : n ≤ 9223372036854775807) :
    Rd (w.heap.size + 1) (w.alloc (.cells cs t)) (some ⟨w.heap.size, 0, none⟩) n n sz cs.toList := by
  refine ⟨by simpa using h, Nat.le_refl _, hn, .inr ⟨w.heap.size, 0, rfl, Nat.lt_succ_self _, fun j hj => ?_⟩⟩
  have hb : (w.alloc (.cells cs t)).heap[w.heap.size]? = some (.cells cs t) := (MapKept.heap_alloc w _).1
  simp only [World.cell?, hb]
  simp at hj ⊢
theorem below_new (w : World) (o : Obj) : Below w.heap.size w (w.alloc o) := (Below.refl _ w).alloc (Nat.le_refl _) o
theorem Below.to1 {w w1 w2 : World} {o : Obj} (h : Below w.heap.size w w1) (k : Below (w1.heap.size + 1) (w1.alloc o) w2) : Below w.heap.size w w2 :=
  (h.alloc h.size o).trans (k.mono (by have := h.size; omega))
theorem below_drewN {B : Nat} {a w : World} (h : Below B a w) (n : Nat) : Below B a (w.drewN n) := ⟨h.os, h.tape, h.output, h.size, h.block⟩
theorem Below.toN {w w1 w2 : World} {n : Nat} (h : Below w.heap.size w w1) (k : Below w1.heap.size (w1.drewN n) w2) : Below w.heap.size w w2 :=
  (below_drewN h n).trans (k.mono h.size)
theorem Below.toA {w w1 w2 : World} {o : Obj} (h : Below w.heap.size w w1) (k : Below (w1.alloc o).heap.size (w1.alloc o) w2) : Below w.heap.size w w2 := Below.to (h.alloc h.size o) k
theorem Below.toAA {w w1 w2 : World} {o o' : Obj} (h : Below w.heap.size w w1) (k : Below ((w1.alloc o).alloc o').heap.size ((w1.alloc o).alloc o') w2) : Below w.heap.size w w2 :=
  Below.to ((h.alloc h.size o).alloc (by rw [World.size_alloc]; have := h.size; omega) o') k
theorem Below.toNA {w w1 w2 : World} {o : Obj} {n : Nat} (h : Below w.heap.size w w1) (k : Below ((w1.alloc o).drewN n).heap.size ((w1.alloc o).drewN n) w2) : Below w.heap.size w w2 :=
  Below.to (below_drewN (h.alloc h.size o) n) k
end Go.Proofs.Ytlhkkkmjoobpcaa
