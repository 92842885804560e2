/-
  What a loop's body over an iterator keeps: its variables, and the slices of its own. Plain lemmas. No condition.
-/
import Derived.Test.YtppejoccljfblaaSeqT
import Derived.Shelf.Abstract
import Derived.RangeFuncWrites
namespace Go.Proofs.Ytppejoccljfblaa
open Go.RowKit

theorem Bo.own {w w' : World} {q : Nat} {t : TypeId} {cs : Array Value} {row : Option Nat} (h : Bo w q t cs) (hg : w.grownBy w' row) (hr : ∀ r, row = some r → ∃ o : Obj, w.heap[r]? = some o ∧ o.isCells = false) : Bo w' q t cs :=
  (hg.block q h.lt (fun e => by obtain ⟨o, ho, hc⟩ := hr q e.symm; rw [show w.heap[q]? = _ from h] at ho; cases ho; cases hc)).trans h
/-- The tree's cells lie as they lay, and the body owns nothing yet, but its variables. -/
theorem Sd.new {vs bs : List Nat} {w0 W : World} (h : Below w0.heap.size w0 W) (hb : ∀ b, b ∈ bs → b < W.heap.size) (ho : ∀ k, ownB vs bs W k → w0.heap.size ≤ k ∧ k < W.heap.size) : Sd vs bs w0 W :=
  ⟨h.size, fun b j _ hv => (h.cell (p := ⟨b, j, none⟩) (World.block_lt_of_cell? w0 ⟨b, j, none⟩ hv)).trans hv, ho, hb⟩
theorem ownB_nil {W : World} {k : Nat} (h : ownB [] [] W k) : False := by
  rcases h with h | ⟨b, hb, _⟩
  · cases h
  · cases hb

theorem OwnD.own {B base : Nat} {e : TypeId} {sz : Nat} {w w' : World} {y : Value} {rs : List (List At)} {row : Option Nat} (h : OwnD B base e sz w y rs) (hg : w.grownBy w' row) (hr : ∀ r, row = some r → ∃ o : Obj, w.heap[r]? = some o ∧ o.isCells = false) : OwnD B base e sz w' y rs := by
  obtain ⟨css, h1, h2⟩ := h
  have hc : ∀ (b j : Nat) (v : Value), w.cell? ⟨b, j, none⟩ = some v → w'.cell? ⟨b, j, none⟩ = some v := fun b j v hv => by
    refine (World.cell?_of_block (hg.block b (World.block_lt_of_cell? w _ hv) fun e => ?_)).trans hv
    obtain ⟨o, ho, hno⟩ := hr b e.symm
    simp only [World.cell?, ho] at hv
    cases o <;> simp_all [Obj.isCells]
  refine ⟨css, ⟨h1.1, ?_⟩, h2.imp fun r cs ⟨hl, hm⟩ => ⟨hl, hm.imp fun a b hab => Mem.cells hab (fun k hk => ⟨⟨hk.1.1, Nat.lt_of_lt_of_le hk.1.2 hg.size⟩, hk.2⟩) fun b j v _ hv => hc b j v hv⟩⟩
  rcases h1.2 with hn | ⟨g, cap, cur, rfl, hb, hgg, rest⟩
  · exact .inl hn
  · refine .inr ⟨g, cap, cur, rfl, hb, (hg.block g (Array.getElem?_eq_some_iff.1 hgg).1 fun e => ?_).trans hgg, rest⟩
    obtain ⟨o, ho, hno⟩ := hr g e.symm
    rw [hgg] at ho; cases ho; cases hno
/-- A variable that holds a slice of the body's own. -/
def HoldsD {β : Type} (g B base : Nat) (T e : TypeId) (sz : Nat) (f : β → List (List At)) (p : β → Prop) (s : β) (W : World) : Prop := ∃ v, Boxed W g T v ∧ OwnD B base e sz W v (f s) ∧ p s
theorem holdsD_own {β : Type} (g B base : Nat) (T e : TypeId) (sz : Nat) (f : β → List (List At)) (p : β → Prop) : Own (HoldsD g B base T e sz f p) := fun s W W' row ⟨v, h1, h2, h3⟩ hg hr =>
  ⟨v, h1.kept hg (fun e => by obtain ⟨o, ho, hc⟩ := hr g e.symm; rw [show W.heap[g]? = _ from h1] at ho; cases ho; cases hc), h2.own hg hr, h3⟩
/-- What a round that turns the variable g and its row keeps. -/
theorem kpt_of {g : Nat} {W W' : World} {v v' : Value} {T : TypeId} (hv : Boxed W g T v) (hv' : Boxed W' g T v') (hs : W.heap.size ≤ W'.heap.size) (hsame : ∀ k, k < W.heap.size → k ≠ g → v.ownBlock ≠ some k → W'.heap[k]? = W.heap[k]?)
    (hown : ∀ k, v'.ownBlock = some k → (v.ownBlock = some k ∨ W.heap.size ≤ k) ∧ k < W'.heap.size) (hsl : v = .slice none 0 0 ∨ ∃ b n c, v = .slice (some ⟨b, 0, none⟩) n c) : KpT [g] [g] W W' := by
  have h1 : ∀ k, v.ownBlock = some k → ownB [g] [g] W k := fun k hk => by
    rcases hsl with rfl | ⟨b, n, c, rfl⟩
    · cases hk
    · have : b = k := by simpa [Value.ownBlock] using hk
      subst this
      exact .inr ⟨g, by simp, n, c, hv.cell⟩
  have h2 : ∀ k, ownB [g] [g] W' k → k = g ∨ v'.ownBlock = some k := fun k hk => by
    rcases hk with h | ⟨b, hb, n, c, hc⟩
    · exact .inl (by simpa using h)
    · obtain rfl : b = g := by simpa using hb
      rw [hv'.cell] at hc
      cases hc
      exact .inr rfl
  refine ⟨⟨hs, fun k o hk hn _ => ?_, fun k hk => ?_⟩, fun _ k hk => ?_⟩
  · have hlt := (Array.getElem?_eq_some_iff.1 hk).1
    exact (hsame k hlt (fun e => hn (.inl (by simp [e]))) (fun e => hn (h1 k e))).trans hk
  · rcases h2 k hk with rfl | h
    · exact .inl (.inl (by simp))
    · rcases (hown k h).1 with h3 | h3
      · exact .inl (h1 k h3)
      · exact .inr h3
  · rcases h2 k hk with rfl | h
    · exact hv'.lt
    · exact (hown k h).2
theorem keeps_of {g B : Nat} {W W' : World} {v : Value} {T e : TypeId} {b' base sz : Nat} {rs : List (List At)} (hv : Boxed W g T v) (hO : OwnD b' base e sz W v rs) (hs : W.heap.size ≤ W'.heap.size) (hsame : ∀ k, k < W.heap.size → k ≠ g → v.ownBlock ≠ some k → W'.heap[k]? = W.heap[k]?) : KeepsFrom B W W' := by
  refine ⟨hs, fun k o _ hk ho => (hsame k (Array.getElem?_eq_some_iff.1 hk).1 (fun e => ?_) (fun e => ?_)).trans hk⟩
  · subst e
    rw [show W.heap[k]? = _ from hv] at hk; cases hk; cases ho
  · obtain ⟨css, h1, _⟩ := hO
    rcases h1.2 with ⟨rfl, _⟩ | ⟨g', cap, cur, rfl, _, hgg, _⟩
    · cases e
    · have : g' = k := by simpa [Value.ownBlock] using e
      subst this
      rw [hgg] at hk; cases hk; cases ho
theorem OwnD.slice {B base : Nat} {e : TypeId} {sz : Nat} {w : World} {y : Value} {rs : List (List At)} (h : OwnD B base e sz w y rs) : y = .slice none 0 0 ∨ ∃ b n c, y = .slice (some ⟨b, 0, none⟩) n c := by
  obtain ⟨css, h1, _⟩ := h
  rcases h1.2 with ⟨rfl, _⟩ | ⟨g', cap, cur, rfl, _⟩
  · exact .inl rfl
  · exact .inr ⟨_, _, _, rfl⟩
theorem OwnD.cellFar {B base : Nat} {e : TypeId} {sz : Nat} {w : World} {y : Value} {rs : List (List At)} (h : OwnD B base e sz w y rs) (g : Nat) (v : Value) (h1 : g < base) (h2 : B ≤ g) : OwnD B base e sz (w.setCell ⟨g, 0, none⟩ v) y rs := by
  have hs : (w.setCell ⟨g, 0, none⟩ v).heap.size = w.heap.size := by simp [World.setCell]
  obtain ⟨css, ho, hm⟩ := h
  refine ⟨css, ⟨ho.1, ?_⟩, hm.imp fun r cs' ⟨hc, hm⟩ => ⟨hc, hm.imp fun x y' hx => hx.mono (fun b ⟨⟨h1, h3⟩, h2⟩ => ⟨⟨h1, by rw [hs]; exact h3⟩, h2⟩) fun b ⟨⟨h3, _⟩, _⟩ => heap_setCell_other w ⟨g, 0, none⟩ b v (by show b ≠ g; rcases h3 with h3 | h3 <;> omega)⟩⟩
  rcases ho.2 with hn | ⟨g', cap, cur, rfl, hb, hgg, rest⟩
  · exact .inl hn
  · exact .inr ⟨g', cap, cur, rfl, hb, (heap_setCell_other w ⟨g, 0, none⟩ g' v (by show g' ≠ g; omega)).trans hgg, rest⟩
theorem boxed_of {w w' : World} {g : Nat} {T : TypeId} {v : Value} (h : Boxed w g T v) (hb : w'.heap[g]? = w.heap[g]?) : Boxed w' g T v := hb.trans h
end Go.Proofs.Ytppejoccljfblaa
