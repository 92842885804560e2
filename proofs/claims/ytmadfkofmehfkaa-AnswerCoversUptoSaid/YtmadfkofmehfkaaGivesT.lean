/-
  What hands back a tree (a type, a term): said by where it lies. No condition.
-/
import Derived.Test.YtmadfkofmehfkaaTm
namespace Go.Proofs.Ytmadfkofmehfkaa
open Go.RowKit

/-- A function's type of these arguments. -/
def funT : List Tm → Tm → Tm
  | [], to => to
  | a :: l, to => Tm.mk 3 ⟨#[]⟩ 0 [a, funT l to]
/-- A type (a term) is handed back; it leads to what was led to, or to what is new. -/
def GivesT (B : Nat) (t : Tm) (w : World) (e : Ending) (w' : World) : Prop :=
  ∃ a n cap, e = .returned (.agg #[.int .i64 t.kind, .string t.name, .int .i64 t.n, .slice a n cap]) ∧ Below w.heap.size w w' ∧ Mem (Nw B w.heap.size w'.heap.size) w' (.s 4 (Tm.rows t.args)) (.slice a n cap)
theorem OwnD.cellAt {B base : Nat} {e : TypeId} {sz : Nat} {w : World} {y : Value} {rs : List (List At)} (h : OwnD B base e sz w y rs) (g j : Nat) (v : Value) (h1 : g < base) (h2 : B ≤ g) : OwnD B base e sz (w.setCell ⟨g, j, none⟩ v) y rs := by
  have hs : (w.setCell ⟨g, j, none⟩ v).heap.size = w.heap.size := by simp [World.setCell]
  obtain ⟨css, ho, hm⟩ := h
  refine ⟨css, ⟨ho.1, ?_⟩, hm.imp fun r cs' ⟨hc, hm⟩ => ⟨hc, hm.imp fun x y' hx => hx.mono (fun b ⟨⟨h1, h3⟩, h2⟩ => ⟨⟨h1, by rw [hs]; exact h3⟩, h2⟩) fun b ⟨⟨h3, _⟩, _⟩ => heap_setCell_other w ⟨g, j, none⟩ b v (by show b ≠ g; rcases h3 with h3 | h3 <;> omega)⟩⟩
  rcases ho.2 with hn | ⟨g', cap, cur, rfl, hb, hgg, rest⟩
  · exact .inl hn
  · exact .inr ⟨g', cap, cur, rfl, hb, (heap_setCell_other w ⟨g, j, none⟩ g' v (by show g' ≠ g; omega)).trans hgg, rest⟩
end Go.Proofs.Ytmadfkofmehfkaa
