/-
  Iterators ('range over a function') at the wide fence: what a round keeps when both the iterator and the loop's body make memory of their own. Plain lemmas. No condition.
-/
import Derived.Test.YtmadfkofmehfkaaAt1
import Derived.RangeFuncNested
import Derived.RangeFuncBound
import Derived.RangeFuncCalls
import Derived.RangeFuncLeaves
import Derived.RangeFuncBox
import Derived.OwnWalkIn
import Derived.TacticsInMore
import Derived.LoopNIn
import Derived.LoopIn
namespace Go.Proofs.Ytmadfkofmehfkaa
open Go.RowKit

/-- The body's own blocks: its variables, and the rows that its slices (in the variables bs) stand in. -/
def ownB (vs bs : List Nat) (W : World) (k : Nat) : Prop := k ∈ vs ∨ ∃ b, b ∈ bs ∧ ∃ n c, W.cell? ⟨b, 0, none⟩ = some (.slice (some ⟨k, 0, none⟩) n c)

/-- What a round keeps: all that is not the body's own; and what the body owns behind it, it owned, or it is new. -/
structure KpO (vs bs : List Nat) (W W' : World) : Prop where
  size : W.heap.size ≤ W'.heap.size
  same : ∀ (k : Nat) (o : Obj), W.heap[k]? = some o → ¬ ownB vs bs W k → (o.isCells = true ∨ o.isWalk = true) → W'.heap[k]? = some o
  own : ∀ k, ownB vs bs W' k → ownB vs bs W k ∨ W.heap.size ≤ k

theorem KpO.trans {vs bs : List Nat} {X Y Z : World} (h : KpO vs bs X Y) (k : KpO vs bs Y Z) : KpO vs bs X Z := by
  refine ⟨Nat.le_trans h.size k.size, fun i o hi hn ho => ?_, fun i hi => ?_⟩
  · have hlt := (Array.getElem?_eq_some_iff.1 hi).1
    refine k.same i o (h.same i o hi hn ho) (fun hY => ?_) ho
    rcases h.own i hY with h1 | h1
    · exact hn h1
    · omega
  · rcases k.own i hi with h1 | h1
    · exact h.own i h1
    · exact .inr (Nat.le_trans h.size h1)
theorem KpO.refl (vs bs : List Nat) (W : World) : KpO vs bs W W := ⟨Nat.le_refl _, fun _ _ h _ _ => h, fun _ h => .inl h⟩

theorem ownB_cells {vs bs : List Nat} {W W' : World} (h : ∀ b, b ∈ bs → W'.cell? ⟨b, 0, none⟩ = W.cell? ⟨b, 0, none⟩) (k : Nat) : ownB vs bs W' k ↔ ownB vs bs W k := by
  constructor
  · rintro (h1 | ⟨b, hb, n, c, hc⟩)
    · exact .inl h1
    · exact .inr ⟨b, hb, n, c, by rw [← h b hb]; exact hc⟩
  · rintro (h1 | ⟨b, hb, n, c, hc⟩)
    · exact .inl h1
    · exact .inr ⟨b, hb, n, c, by rw [h b hb]; exact hc⟩
theorem ownB_below {vs bs : List Nat} {W W' : World} {B : Nat} (h : Below B W W') (hb : ∀ b, b ∈ bs → b < B) (k : Nat) : ownB vs bs W' k ↔ ownB vs bs W k :=
  ownB_cells (fun b hm => h.cell (p := ⟨b, 0, none⟩) (hb b hm)) k

theorem KpO_b {vs bs : List Nat} {w : World} (hbs : ∀ b, b ∈ bs → b < w.heap.size) (W : World) (l : Nat) (o o' : Obj) (hl : w.heap.size ≤ l) (h : W.heap[l]? = some o) (hc : o.isCells = false) (hw : o.isWalk = false) : KpO vs bs W (W.putObj l o') := by
  refine ⟨by simp, fun k o2 hk _ ho => ?_, fun k hk => .inl ?_⟩
  · by_cases e : k = l
    · subst e; rw [h] at hk; cases hk; rcases ho with ho | ho
      · rw [hc] at ho; cases ho
      · rw [hw] at ho; cases ho
    · exact (World.putObj_heap_other e).trans hk
  · exact (ownB_cells (fun b hm => World.cell?_of_block (World.putObj_heap_other (show b ≠ l from fun e => by have := hbs b hm; omega))) k).1 hk

/-- A cell that is not the body's own is kept. -/
theorem KpO.cell {vs bs : List Nat} {W W' : World} (h : KpO vs bs W W') {k j : Nat} {v : Value} (hn : ¬ ownB vs bs W k) (hc : W.cell? ⟨k, j, none⟩ = some v) : W'.cell? ⟨k, j, none⟩ = some v := by
  have hc' := hc
  unfold World.cell? at hc
  cases ho : W.heap[k]? with
  | none => simp [ho] at hc
  | some o =>
    have hcells : o.isCells = true := by cases o <;> simp_all [Obj.isCells]
    exact (World.cell?_of_block ((h.same k o ho hn (.inl hcells)).trans ho.symm)).trans hc'
theorem KpO.frozen {vs bs : List Nat} {W W' : World} (h : KpO vs bs W W') {k j : Nat} {v : Value} (hn : ¬ ownB vs bs W k) (hc : W.cell? ⟨k, j, none⟩ = some v) : ∀ i, W'.frozen? ⟨k, i, none⟩ = W.frozen? ⟨k, i, none⟩ := by
  unfold World.cell? at hc
  cases ho : W.heap[k]? with
  | none => simp [ho] at hc
  | some o =>
    have hcells : o.isCells = true := by cases o <;> simp_all [Obj.isCells]
    intro i
    exact World.frozen?_of_block ((h.same k o ho hn (.inl hcells)).trans ho.symm)
theorem KpO.alien {vs bs : List Nat} {W W' : World} (h : KpO vs bs W W') {k : Nat} (hk : k < W.heap.size) (hn : ¬ ownB vs bs W k) : ¬ ownB vs bs W' k := fun hY => by
  rcases h.own k hY with h1 | h1
  · exact hn h1
  · omega

theorem Rd.kpo {vs bs : List Nat} {W W' : World} {a : Option Addr} {n cap sz : Nat} {xs : List Value} (h : Rd W.heap.size W a n cap sz xs) (hn : 0 < n) (k : KpO vs bs W W') (ha : ∀ b o, a = some ⟨b, o, none⟩ → ¬ ownB vs bs W b) :
    Rd W'.heap.size W' a n cap sz xs ∧ ∀ b o, a = some ⟨b, o, none⟩ → ¬ ownB vs bs W' b := by
  obtain ⟨h1, h2, h3, h4⟩ := h
  rcases h4 with h4 | ⟨b, o, rfl, hbB, hc⟩
  · omega
  · refine ⟨⟨h1, h2, h3, .inr ⟨b, o, rfl, Nat.lt_of_lt_of_le hbB k.size, fun j hj => k.cell (ha b o rfl) (hc j hj)⟩⟩, fun b' o' e => ?_⟩
    cases e
    exact k.alien hbB (ha b o rfl)

/-- What a loop's body must keep, out of what it does to blocks. -/
theorem body_keeps {vs bs : List Nat} {D : Nat} {W W' : World} (hs : W.heap.size ≤ W'.heap.size) (same : ∀ (k : Nat) (o : Obj), W.heap[k]? = some o → ¬ ownB vs bs W k → W'.heap[k]? = some o)
    (hc : ∀ (k : Nat) (o : Obj), ownB vs bs W k → W.heap[k]? = some o → o.isCells = true) (own : ∀ k, ownB vs bs W' k → ownB vs bs W k ∨ W.heap.size ≤ k) : KeepsFrom D W W' ∧ KpO vs bs W W' := by
  refine ⟨⟨hs, fun k o _ hk ho => same k o hk fun hY => ?_⟩, ⟨hs, fun k o hk hn _ => same k o hk hn, own⟩⟩
  rw [hc k o hY hk] at ho; cases ho

/-- The contract of an iterator: it gives these, one by one, to whatever loop whose body keeps what is not its own. -/
def Iter {α : Type} (P : Program) (g : Nat) (lb : Array Value) (encs : α → Array Value) (xs : List α) (vs bs : List Nat) (w : World) : Prop :=
  ∀ n, SeqStopsK Fence.wide n P g lb encs (KpO vs bs) (fun ys => ys = xs) (fun pre => pre <+: xs) xs.length w

theorem AbidesFrom.grows {β : Type} {B : Nat} {J : β → World → Prop} (h : AbidesFrom B J) {s : β} {W W' : World} (hs : J s W) (hb : Below W.heap.size W W') : J s W' :=
  h s W W' none hs ⟨hb.os, hb.tape, hb.output, hb.size, fun k hk _ => hb.block k hk⟩ (fun r e => by cases e)
end Go.Proofs.Ytmadfkofmehfkaa
