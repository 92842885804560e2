/-
  Arguments that are slices of bytes, as the walks want them. No condition.
-/
import Derived.Test.YtppejoccljfblaaOpen
import Derived.Test.YtppejoccljfblaaTaking
namespace Go.Proofs.Ytppejoccljfblaa
open Go.ChangeShapes Go.WideShapes Go.ChangeAt Go.RowKit

theorem cells_u8 : Try.prog.cellsOf 5 = 1 := by kernel_rfl
theorem wf_u8 {n : Int} (h : (Lit.int .u8 n).wf = true) : ((UInt8.ofNat n.toNat).toNat : Int) = n := by
  simp [Lit.wf, IntKind.min, IntKind.max, IntKind.signed, IntKind.bits] at h
  rw [UInt8.toNat_ofNat']; omega
theorem open_bytes_rd {H : Type} {enc : TypeId × Value → H} {P : Program} {W : World} {r : Reach} {b0 t e : TypeId} {v : Value} {d : DataW H} {ps : List MemPlace} (ht : P.underlying t = some (.slice e)) (he : P.underlying e = some (.int .u8)) (hc : P.cellsOf e = 1)
    (hval : Value.okWide P W r b0 t v) (h : DataW.Trod enc P W 0 (fun _ => true) true t v d ps) :
    ∃ a n cap l, v = .slice a n cap ∧ Rd W.heap.size W a n cap 1 (u8s l) := by
  obtain ⟨a0, len, cap, rfl⟩ := okWide_slice ht hval
  obtain ⟨fuel, hf⟩ := h
  rcases open_ints ht he hc hf with ⟨hcs, hx⟩ | ⟨a, len', cap', zs, hcs, _, hl, hm, hz, hx, hcell, hwz⟩
  · simp [Value.cells] at hcs
    obtain ⟨rfl, rfl, rfl⟩ := hcs
    exact ⟨none, 0, 0, [], rfl, ⟨rfl, Nat.le_refl _, by decide, .inl rfl⟩⟩
  · simp [Value.cells] at hcs
    obtain ⟨rfl, rfl, rfl⟩ := hcs
    simp only [if_true] at hz
    have hlen : ((zs.take len).map fun n : Int => UInt8.ofNat n.toNat).length = len := by simp; omega
    refine ⟨_, _, _, (zs.take len).map fun n : Int => UInt8.ofNat n.toNat, rfl, rd_of_cells (by rw [u8s_length, hlen]; omega) hl (by unfold maxLen at hm; omega) (fun i hi => ?_) (by decide)⟩
    rw [u8s_length, hlen] at hi
    have hi' : i < zs.length := by omega
    rw [hcell i hi']
    simp only [u8s, List.getElem_map, List.getElem_take, List.getD_eq_getElem?_getD, List.getElem?_eq_getElem hi', Option.getD_some, Option.some.injEq, Value.int.injEq, true_and]
    exact (wf_u8 (hwz _ (List.getElem_mem hi'))).symm
end Go.Proofs.Ytppejoccljfblaa
