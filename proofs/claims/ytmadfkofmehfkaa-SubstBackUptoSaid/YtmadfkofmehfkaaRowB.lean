/-
  A row of terms that a call makes and fills, whose elements may lead to what lies below. Plain lemmas. No condition.
-/
import Derived.Test.YtmadfkofmehfkaaRowT
namespace Go.Proofs.Ytmadfkofmehfkaa
open Go.RowKit

/-- While the row is filled: its block is the call's own; what its elements lead to is new too, or lies below B. -/
structure RB (B base q : Nat) (d : Array El) (w : World) : Prop where
  hb : base ≤ q
  hq : q < w.heap.size
  row : Row w q 0 d
  ok : ∀ i, i < d.size → Mem (fun b => Nw B base w.heap.size b ∧ b ≠ q) w (.s 4 (Tm.rows d[i]!.t.args)) (.slice d[i]!.a d[i]!.n d[i]!.cap)
section
variable {w w' : World} {B base q : Nat} {d : Array El}
theorem RB.keep (h : RB B base q d w) (hb : Below w.heap.size w w') : RB B base q d w' :=
  ⟨h.hb, Nat.lt_of_lt_of_le h.hq hb.size, h.row.keep h.hq hb, fun i hi => (h.ok i hi).mono (fun _ hb' => ⟨⟨hb'.1.1, Nat.lt_of_lt_of_le hb'.1.2 hb.size⟩, hb'.2⟩) fun b hb' => hb.block b hb'.1.2⟩
theorem RB.alloc (h : RB B base q d w) (o : Obj) : RB B base q d (w.alloc o) := h.keep (below_new w o)
theorem RB.put (h : RB B base q d w) {i : Nat} (hi : i < d.size) (e : El) (he : Mem (fun b => Nw B base w.heap.size b ∧ b ≠ q) w (.s 4 (Tm.rows e.t.args)) (.slice e.a e.n e.cap)) : RB B base q (d.setIfInBounds i e) (w.setCells q (0 + i * 4) e.cells.toList) := by
  have hg := grownBy_setCells w q e.cells.toList (0 + i * 4)
  have hs := size_setCells' w q e.cells.toList (0 + i * 4)
  refine ⟨h.hb, by rw [hs]; exact h.hq, h.row.set hi e, fun k hk => ?_⟩
  rw [Array.size_setIfInBounds] at hk
  have hm : Mem (fun b => Nw B base w.heap.size b ∧ b ≠ q) w (.s 4 (Tm.rows (d.setIfInBounds i e)[k]!.t.args)) (.slice (d.setIfInBounds i e)[k]!.a (d.setIfInBounds i e)[k]!.n (d.setIfInBounds i e)[k]!.cap) := by
    by_cases hki : k = i
    · subst hki
      have e1 : (d.setIfInBounds k e)[k]! = e := by simp [hk]
      rw [e1]; exact he
    · have e1 : (d.setIfInBounds i e)[k]! = d[k]! := by simp [hk, Ne.symm hki]
      rw [e1]; exact h.ok k hk
  exact hm.mono (fun b hb => ⟨by rw [hs]; exact hb.1, hb.2⟩) fun b hb => hg.block b hb.1.2 (fun e => hb.2 (by cases e; rfl))
theorem RB.far (h : RB B base q d w) (g j : Nat) (v : Value) (hg : g < base) (hB : B ≤ g) : RB B base q d (w.setCell ⟨g, j, none⟩ v) := by
  have hs : (w.setCell ⟨g, j, none⟩ v).heap.size = w.heap.size := by simp [World.setCell]
  have hbl : ∀ b, b ≠ g → (w.setCell ⟨g, j, none⟩ v).heap[b]? = w.heap[b]? := fun b hb => heap_setCell_other w ⟨g, j, none⟩ b v hb
  have hbase := h.hb
  have hqg : (w.setCell ⟨g, j, none⟩ v).heap[q]? = w.heap[q]? := hbl q (by omega)
  refine ⟨h.hb, by rw [hs]; exact h.hq, fun i hi k hk => ?_, fun i hi => (h.ok i hi).mono (fun b hb => ⟨by rw [hs]; exact hb.1, hb.2⟩) fun b hb => hbl b (by have := hb.1.1; omega)⟩
  obtain ⟨h1, h2⟩ := h.row i hi k hk
  exact ⟨(by rw [← h1]; simp only [World.cell?, hqg]), by rw [← h2]; simp only [World.frozen?, hqg]⟩
theorem RB.rowFar (h : RB B base q d w) (g : Nat) (cs : Array Value) (hg : g < base) (hB : B ≤ g) : RB B base q d (w.setRow g cs) := by
  have hbase := h.hb
  have hqg : (w.setRow g cs).heap[q]? = w.heap[q]? := setRow_other w g q cs (by omega)
  refine ⟨h.hb, by rw [size_setRow]; exact h.hq, fun i hi k hk => ?_, fun i hi => (h.ok i hi).mono (fun b hb => ⟨by rw [size_setRow]; exact hb.1, hb.2⟩) fun b hb => setRow_other w g b cs (by have := hb.1.1; omega)⟩
  obtain ⟨h1, h2⟩ := h.row i hi k hk
  exact ⟨(by rw [← h1]; simp only [World.cell?, hqg]), by rw [← h2]; simp only [World.frozen?, hqg]⟩
theorem RB.memT (h : RB B base q d w) (hm : d.size ≤ 9223372036854775807) {ts : List Tm} (hts : d.toList.map (·.t) = ts) : Mem (Nw B base w.heap.size) w (.s 4 (Tm.rows ts)) (.slice (some ⟨q, 0, none⟩) d.size d.size) := by
  subst hts
  have hat : ∀ i (hi : i < (Tm.rows (d.toList.map (·.t))).length), (Tm.rows (d.toList.map (·.t)))[i] = d[i]!.t.row := fun i hi => by
    have hi' : i < d.size := by rw [Tm.rows_len, List.length_map] at hi; simpa using hi
    simp only [Tm.rows_eq, List.getElem_map]
    congr 1
    simp [hi']
  refine .s q 0 d.size d.size 4 _ (fun i j => (d[i]!.cells[j]?).getD undef) (by rw [Tm.rows_len, List.length_map]; simp) (Nat.le_refl _) hm ⟨.inr h.hb, h.hq⟩ (fun i hi => by rw [hat i hi, Tm.row_eq]; rfl) (fun i j hi hj => ?_) (fun i j hi hj => ?_)
  · rw [(h.row i (by omega) j hj).1, Array.getElem?_eq_getElem (by rw [El.size]; exact hj)]; rfl
  · have hi' : i < d.size := by rw [Tm.rows_len, List.length_map] at hi; simpa using hi
    have hr := row_mk d[i]!.t ((h.ok i hi').mono (fun b hb => hb.1) fun _ _ => rfl)
    have hrl : (d[i]!.t.row).length = 4 := by rw [Tm.row_eq]; rfl
    have e := hat i hi
    have hj4 : j < 4 := by rw [e, hrl] at hj; exact hj
    have h2 := hr.at j (by rw [hrl]; exact hj4) hj4
    have e2 : (Tm.rows (d.toList.map (·.t)))[i][j] = (d[i]!.t.row)[j]'(by rw [hrl]; exact hj4) := by simp only [e]
    rw [e2]
    have h3 : ∀ j (hj4 : j < 4), (d[i]!.cells[j]?).getD undef = [Value.int .i64 d[i]!.t.kind, .string d[i]!.t.name, .int .i64 d[i]!.t.n, .slice d[i]!.a d[i]!.n d[i]!.cap][j]'hj4 := fun j hj4 => by
      match j, hj4 with
      | 0, _ => rfl
      | 1, _ => rfl
      | 2, _ => rfl
      | 3, _ => rfl
    rw [h3 j hj4]
    exact h2
end
theorem RB.made (B : Nat) (w : World) (base n : Nat) (e : TypeId) (hb : base ≤ w.heap.size) : RB B base w.heap.size (Array.replicate n default) (w.alloc (.cells (madeT n) e)) := by
  have h := RR.made w base n e hb
  exact ⟨h.hb, h.hq, h.row, fun i hi => (h.ok i hi).mono (fun b hb => ⟨⟨.inr (by rcases hb.1.1 with h | h; exact absurd h (Nat.not_lt_zero _); exact h), hb.1.2⟩, hb.2⟩) fun _ _ => rfl⟩
end Go.Proofs.Ytmadfkofmehfkaa
