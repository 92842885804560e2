/-
  More plain lemmas: new blocks read as what was put in. No condition.
-/
import Derived.Test.YtemkpecagflafaaBase
namespace Go.Proofs.Ytemkpecagflafaa
open Go.RowKit

theorem rd_new (w : World) (cs : Array Value) (t : TypeId) (n sz : Nat) (h : cs.size = n * sz) (hn : n ≤ 9223372036854775807) :
    Rd (w.heap.size + 1) (w.alloc (.cells cs t)) (some ⟨w.heap.size, 0, none⟩) n n sz cs.toList := by
  refine ⟨by simpa using h, Nat.le_refl _, hn, .inr ⟨w.heap.size, 0, rfl, Nat.lt_succ_self _, fun j hj => ?_⟩⟩
  have hb : (w.alloc (.cells cs t)).heap[w.heap.size]? = some (.cells cs t) := (MapKept.heap_alloc w _).1
  simp only [World.cell?, hb]
  simp at hj ⊢
theorem below_new (w : World) (o : Obj) : Below w.heap.size w (w.alloc o) := (Below.refl _ w).alloc (Nat.le_refl _) o
end Go.Proofs.Ytemkpecagflafaa
