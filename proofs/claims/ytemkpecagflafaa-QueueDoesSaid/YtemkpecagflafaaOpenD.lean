/-
  An argument that is a slice of deeds, as the walk wants it. No condition.
-/
import Derived.Test.YtemkpecagflafaaQDoes2
import Derived.Test.YtemkpecagflafaaOpen
namespace Go.Proofs.Ytemkpecagflafaa
open Go.ChangeShapes Go.WideShapes Go.ChangeAt Go.RowKit Go.Deep

theorem open_deeds_rd {H : Type} {enc : TypeId × Value → H} {P : Program} {W : World} {r : Reach} {b0 t e : TypeId} {f0 f1 : Field} {v : Value} {d : DataW H} {ps : List MemPlace} (ht : P.underlying t = some (.slice e)) (he : P.underlying e = some (.struct #[f0, f1]))
    (ce : P.cellsOf e = 2) (o0 : f0.offset = 0) (o1 : f1.offset = 1) (c0 : P.cellsOf f0.type = 1) (c1 : P.cellsOf f1.type = 1) (u0 : P.underlying f0.type = some (.int .i64)) (u1 : P.underlying f1.type = some (.int .i64))
    (hval : Value.okWide P W r b0 t v) (h : DataW.Trod enc P W 0 (fun _ => true) true t v d ps) :
    ∃ a n cap l, v = .slice a n cap ∧ Rd W.heap.size W a n cap 2 (deedCells l) := by
  obtain ⟨a0, len, cap, rfl⟩ := okWide_slice ht hval
  obtain ⟨fuel, hf⟩ := h
  rcases open_slice_pairs ht he ce o0 o1 c0 c1 hf with ⟨hcs, hx⟩ | ⟨a, len', cap', m, n, V0, V1, D0, D1, P0, P1, hcs, _, hl, hm, hmm, hx, hcell⟩
  · simp [Value.cells] at hcs
    obtain ⟨rfl, rfl, rfl⟩ := hcs
    exact ⟨none, 0, 0, [], rfl, ⟨rfl, Nat.le_refl _, by decide, .inl rfl⟩⟩
  · simp [Value.cells] at hcs
    obtain ⟨rfl, rfl, rfl⟩ := hcs
    simp only [if_true] at hmm
    refine ⟨_, _, _, (List.range len).map fun i => (intOf (V0 i), intOf (V1 i)), rfl, rd_of_cells (by rw [deedCells_length]; simp) hl (by unfold maxLen at hm; omega) (fun i hi => ?_) (by decide)⟩
    have hi' := hi
    rw [deedCells_length] at hi'
    simp only [List.length_map, List.length_range] at hi'
    obtain ⟨g0, g1, t0, t1⟩ := hcell (i / 2) (by omega)
    obtain ⟨m0, e0, _, _⟩ := DataW.trod_int u0 t0
    obtain ⟨m1, e1, _, _⟩ := DataW.trod_int u1 t1
    obtain ⟨k0, k1⟩ := deedCells_at ((List.range len).map fun i => (intOf (V0 i), intOf (V1 i))) (i / 2) (by simp; omega)
    simp only [List.getElem_map, List.getElem_range] at k0 k1
    have e0' : V0 (i / 2) = .int .i64 m0 := by simpa using e0
    have e1' : V1 (i / 2) = .int .i64 m1 := by simpa using e1
    rw [e0'] at k0 g0
    rw [e1'] at k1 g1
    rcases Nat.mod_two_eq_zero_or_one i with h2 | h2
    · have hi2 : i = i / 2 * 2 := by omega
      rw [← hi2] at k0 g0
      rw [g0]
      exact k0.symm.trans (List.getElem?_eq_getElem hi)
    · have hi2 : i = i / 2 * 2 + 1 := by omega
      rw [← hi2] at k1 g1
      rw [g1]
      exact k1.symm.trans (List.getElem?_eq_getElem hi)
end Go.Proofs.Ytemkpecagflafaa
