/-
  Arguments that are slices, as the walks want them. No condition.
-/
import Derived.Test.YtppejoccljfblaaInts
import Derived.ChangeSlices
import Derived.ProofKit
import Derived.OpenShut
import Derived.Deep.SlicePairs
namespace Go.Proofs.Ytppejoccljfblaa
open Go.ChangeShapes Go.WideShapes Go.ChangeAt Go.RowKit

theorem addr_plain {w : World} {a : Addr} {v : Value} (h : w.cell? a = some v) (i : Nat) : i = 0 → ∃ b o, a = ⟨b, o, none⟩ := by
  intro _
  obtain ⟨b, o, c⟩ := a
  cases c with
  | none => exact ⟨b, o, rfl⟩
  | some c =>
    exfalso
    unfold World.cell? at h
    split at h <;> simp at h
theorem add_plain (b o i : Nat) : (⟨b, o, none⟩ : Addr).add i = ⟨b, o + i, none⟩ := by
  unfold Addr.add; split <;> simp_all

/-- Cells that stand one behind the other, from an address on. -/
theorem rd_of_cells {w : World} {a : Addr} {n cap sz : Nat} {xs : List Value} (hl : xs.length = n * sz) (hn : n ≤ cap) (hc : cap ≤ 9223372036854775807) (h : ∀ i (hi : i < xs.length), w.cell? (a.add i) = some xs[i]) (h0 : 0 < sz) :
    Rd w.heap.size w (some a) n cap sz xs := by
  refine ⟨hl, hn, hc, ?_⟩
  by_cases hz : n = 0
  · exact .inl hz
  · have hpos : 0 < xs.length := by rw [hl]; exact Nat.mul_pos (by omega) h0
    have h1 := h 0 hpos
    have ha : a.add 0 = a := by unfold Addr.add; split <;> simp_all
    rw [ha] at h1
    obtain ⟨b, o, rfl⟩ := addr_plain h1 0 rfl
    refine .inr ⟨b, o, rfl, World.block_lt_of_cell? w _ h1, fun j hj => ?_⟩
    rw [← add_plain]; exact h j hj

theorem open_ints_rd {H : Type} {enc : TypeId × Value → H} {P : Program} {W : World} {r : Reach} {b0 t e : TypeId} {v : Value} {d : DataW H} {ps : List MemPlace} (ht : P.underlying t = some (.slice e)) (he : P.underlying e = some (.int .i64)) (hc : P.cellsOf e = 1)
    (hval : Value.okWide P W r b0 t v) (h : DataW.Trod enc P W 0 (fun _ => true) true t v d ps) :
    ∃ a n cap l, v = .slice a n cap ∧ Rd W.heap.size W a n cap 1 (ints l) ∧ ∀ x ∈ l, (Lit.int .i64 x).wf = true := by
  obtain ⟨a0, len, cap, rfl⟩ := okWide_slice ht hval
  obtain ⟨fuel, hf⟩ := h
  rcases open_ints ht he hc hf with ⟨hcs, hx⟩ | ⟨a, len', cap', zs, hcs, _, hl, hm, hz, hx, hcell, hwz⟩
  · simp [Value.cells] at hcs
    obtain ⟨rfl, rfl, rfl⟩ := hcs
    exact ⟨none, 0, 0, [], rfl, ⟨rfl, Nat.le_refl _, by decide, .inl rfl⟩, by simp⟩
  · simp [Value.cells] at hcs
    obtain ⟨rfl, rfl, rfl⟩ := hcs
    simp only [if_true] at hz
    refine ⟨_, _, _, zs.take len, rfl, rd_of_cells (by simp [ints]; omega) hl (by unfold maxLen at hm; omega) (fun i hi => ?_) (by decide), fun x hx => hwz x (List.mem_of_mem_take hx)⟩
    rw [hcell i (by simp [ints] at hi; omega)]
    simp only [ints, List.length_map, List.length_take] at hi
    simp [ints, List.getD_eq_getElem?_getD, List.getElem?_eq_getElem (show i < zs.length by omega)]
end Go.Proofs.Ytppejoccljfblaa
