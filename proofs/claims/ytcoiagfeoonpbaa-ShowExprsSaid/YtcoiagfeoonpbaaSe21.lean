/-
  Stores of a whole block of eleven cells: the short words. Plain lemmas. No condition.
-/
import Derived.Test.YtcoiagfeoonpbaaSe20
import Derived.Test.YtcoiagfeoonpbaaSe18
namespace Go.Proofs.Ytcoiagfeoonpbaa
open Go.RowKit
set_option maxRecDepth 100000
section
variable {w w' a : World} {q g j B : Nat} {t : TypeId}
end
section
variable {w w' : World} {g : Nat} {A : Nat → Prop}
end
end Go.Proofs.Ytcoiagfeoonpbaa

/-
  Two rows of the call's own, side by side: each stays out of the other. Plain lemmas. No condition.
-/
namespace Go.Proofs.Ytcoiagfeoonpbaa
open Go.RowKit
section
variable {P : Program} {w : World} {t e : TypeId} {z : Value} {sz bytes : Nat} {o : Oper} {act : Act} {K : Act → World → Prop} {Q : Exit → Act → World → Prop}
end
structure OwnX (x : Option Nat) (base : Nat) (e : TypeId) (sz : Nat) (w : World) (y : Value) (rs : List (List At)) : Prop where
  ow : OwnS (fun b => base ≤ b ∧ x ≠ some b) base e sz w y rs
  ne : ∀ k, y.ownBlock = some k → x ≠ some k
section
variable {x : Option Nat} {base sz : Nat} {e t : TypeId} {w w' W : World} {y : Value} {rs : List (List At)}
theorem OwnX.nil (x : Option Nat) (base : Nat) (e : TypeId) (sz : Nat) (w : World) : OwnX x base e sz w (.slice none 0 0) [] := ⟨⟨[], World.ownsRow_nil w base e sz, .nil⟩, fun k h => by cases h⟩
theorem OwnX.lt (h : OwnX x base e sz w y rs) : ∀ k, y.ownBlock = some k → base ≤ k ∧ k < w.heap.size := h.ow.lt
theorem OwnX.far {Z : Nat → Prop} (h : OwnX x base e sz w y rs) (hf : Far Z w w') (hz : ∀ b, base ≤ b → ¬ Z b) : OwnX x base e sz w' y rs :=
  ⟨h.ow.farZ hf (fun b hb _ => hz b hb.1) fun b hb _ => hz b hb, h.ne⟩
theorem OwnX.alloc (h : OwnX x base e sz w y rs) (o : Obj) : OwnX x base e sz (w.alloc o) y rs := h.far (Z := fun _ => False) (Far.of (below_new w o)) fun _ _ h => h
theorem OwnX.drew (h : OwnX x base e sz w y rs) : OwnX x base e sz w.drew y rs := h.far (Z := fun _ => False) (Far.of (below_drew w)) fun _ _ h => h
theorem OwnX.farq {q : Nat} (h : OwnX x base e sz w y rs) (hf : FarQ q w w') (hq : q < base) : OwnX x base e sz w' y rs := h.far hf fun b hb e => by have : b = q := e; omega
theorem OwnX.set {g : Nat} (h : OwnX x base e sz w y rs) (hg : g < base) (j : Nat) (v : Value) : OwnX x base e sz (w.setCell ⟨g, j, none⟩ v) y rs :=
  h.far ((Far.refl (fun b => b = g) w).setCell (p := ⟨g, j, none⟩) rfl v) fun b h1 e => by have : b = g := e; omega
theorem OwnX.conv {x' : Option Nat} (h : OwnX x base e sz w y rs) (hx : x' = x ∨ ∀ k, x' = some k → w.heap.size ≤ k) : OwnX x' base e sz w y rs := by
  rcases hx with rfl | hx
  · exact h
  · obtain ⟨css, h1, h2⟩ := h.ow
    refine ⟨⟨css, h1, h2.imp fun r cs ⟨hc, hm⟩ => ⟨hc, hm.imp fun x y' hx' => hx'.mono (fun b hb => ⟨⟨⟨hb.1.1.1, fun e => by have := hx b e; have := hb.1.2; omega⟩, hb.1.2⟩, hb.2⟩) fun _ _ => rfl⟩⟩, fun k hk e => ?_⟩
    have := hx k e
    have := (h.lt k hk).2
    omega
theorem OwnX.other (h : OwnX x base e sz w y rs) (hg : w.grownBy w' x) : OwnX x base e sz w' y rs := by
  refine ⟨?_, h.ne⟩
  obtain ⟨css, h1, h2⟩ := h.ow
  refine ⟨css, ⟨h1.1, ?_⟩, h2.imp fun r cs ⟨hc, hm⟩ => ⟨hc, hm.imp fun x y' hx => hx.mono (fun b hb => ⟨⟨hb.1.1, Nat.lt_of_lt_of_le hb.1.2 hg.size⟩, hb.2⟩) fun b hb => hg.block b hb.1.2 fun e => hb.1.1.2 e.symm⟩⟩
  rcases h1.2 with hn | ⟨g, cap, cur, rfl, hb, hgg, rest⟩
  · exact .inl hn
  · have hg0 := (Array.getElem?_eq_some_iff.1 hgg).1
    exact .inr ⟨g, cap, cur, rfl, hb, (hg.block g hg0 (fun e => h.ne g rfl e.symm)).trans hgg, rest⟩
theorem OwnX.mem (h : OwnX x base e sz w y rs) : Mem (Nw 0 base w.heap.size) w (.s sz rs) y := memS_nw h.ow.mem fun _ hb => hb.elim (fun h => h.1) id
theorem OwnX.app {v : Value} {rs' : List (List At)} (h : OwnX x base e sz w y rs) (ho : OwnS (fun b => base ≤ b ∧ x ≠ some b) base e sz w' v rs') (hx : ∀ k, x = some k → k < w.heap.size) (hv : v.ownBlock = y.ownBlock ∨ ∀ k, v.ownBlock = some k → w.heap.size ≤ k) : OwnX x base e sz w' v rs' :=
  ⟨ho, fun k hk e => by
    rcases hv with hv | hv
    · exact h.ne k (hv ▸ hk) e
    · have := hv k hk
      have := hx k e
      omega⟩
end
section
variable {x : Option Nat} {base sz : Nat} {e : TypeId} {w w' : World} {y : Value} {rs : List (List At)}
end
end Go.Proofs.Ytcoiagfeoonpbaa
