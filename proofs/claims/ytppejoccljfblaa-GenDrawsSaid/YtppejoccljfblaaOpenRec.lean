/-
  An argument that is a recipe (gen.Recipe by value): three integers and a seed, in bounds.
-/
import Derived.Test.YtppejoccljfblaaOpen
namespace Go.Proofs.Ytppejoccljfblaa
open Go.ChangeShapes Go.WideShapes Go.ChangeAt Go.RowKit
theorem wf_i64 {n : Int} (h : (Lit.int .i64 n).wf = true) : -9223372036854775808 ≤ n ∧ n ≤ 9223372036854775807 := by
  simp [Lit.wf, IntKind.min, IntKind.max, IntKind.signed, IntKind.bits] at h
  omega
theorem wf_u64 {n : Int} (h : (Lit.int .u64 n).wf = true) : 0 ≤ n ∧ n ≤ 18446744073709551615 := by
  simp [Lit.wf, IntKind.min, IntKind.max, IntKind.signed, IntKind.bits] at h
  omega
section
variable {H : Type} {enc : TypeId × Value → H} {P : Program} {W : World} {r : Reach} {b0 : Nat} {v : Value} {d : DataW H} {ps : List MemPlace}
theorem open_rec_arg {tT : TypeId} {f0 f1 f2 f3 : Field} (uT : P.underlying tT = some (.struct #[f0, f1, f2, f3])) (u0 : P.underlying f0.type = some (.int .i64)) (u1 : P.underlying f1.type = some (.int .i64)) (u2 : P.underlying f2.type = some (.int .i64)) (u3 : P.underlying f3.type = some (.int .u64)) (c4 : P.cellsOf tT = 4)
    (o : f0.offset = 0 ∧ f1.offset = 1 ∧ f2.offset = 2 ∧ f3.offset = 3) (c : P.cellsOf f0.type = 1 ∧ P.cellsOf f1.type = 1 ∧ P.cellsOf f2.type = 1 ∧ P.cellsOf f3.type = 1)
    (hval : Value.okWide P W r b0 tT v) (h : DataW.Trod enc P W 0 (fun _ => true) true tT v d ps) :
    ∃ (a0 a1 a2 a3 : Int), v = .agg #[.int .i64 a0, .int .i64 a1, .int .i64 a2, .int .u64 a3] ∧ (-9223372036854775808 ≤ a0 ∧ a0 ≤ 9223372036854775807) ∧ (-9223372036854775808 ≤ a1 ∧ a1 ≤ 9223372036854775807) ∧ (-9223372036854775808 ≤ a2 ∧ a2 ≤ 9223372036854775807) ∧ (0 ≤ a3 ∧ a3 ≤ 18446744073709551615) := by
  obtain ⟨cs, rfl, _⟩ := okWide_struct uT hval
  obtain ⟨fuel, hf⟩ := h
  obtain ⟨xs, n, hn, hx, hl, hxs, hf⟩ := DataW.trod_struct uT hf
  have hf := hf
  match xs, hxs with
  | [y0, y1, y2, y3], _ =>
    have g0 := hf 0 f0 rfl
    have g1 := hf 1 f1 rfl
    have g2 := hf 2 f2 rfl
    have g3 := hf 3 f3 rfl
    simp only [List.getElem?_cons_zero, List.getElem?_cons_succ] at g0 g1 g2 g3
    rw [c4] at hl
    obtain ⟨cl, hcl⟩ : ∃ cl, (Value.agg cs).cells.toList = cl := ⟨_, rfl⟩
    rw [hcl] at g0 g1 g2 g3 hl
    match cl, hl, hcl with
    | [w0, w1, w2, w3], _, hcl =>
      rw [o.1, c.1] at g0
      rw [o.2.1, c.2.1] at g1
      rw [o.2.2.1, c.2.2.1] at g2
      rw [o.2.2.2, c.2.2.2] at g3
      simp only [List.drop_zero, List.drop_succ_cons, List.take_succ_cons, List.take_zero] at g0 g1 g2 g3
      obtain ⟨a0, e0, _, k0⟩ := DataW.trod_int u0 g0
      obtain ⟨a1, e1, _, k1⟩ := DataW.trod_int u1 g1
      obtain ⟨a2, e2, _, k2⟩ := DataW.trod_int u2 g2
      obtain ⟨a3, e3, _, k3⟩ := DataW.trod_int u3 g3
      obtain rfl : w0 = .int .i64 a0 := by simpa using e0
      obtain rfl : w1 = .int .i64 a1 := by simpa using e1
      obtain rfl : w2 = .int .i64 a2 := by simpa using e2
      obtain rfl : w3 = .int .u64 a3 := by simpa using e3
      have : cs = #[.int .i64 a0, .int .i64 a1, .int .i64 a2, .int .u64 a3] := Array.toList_inj.1 hcl
      subst this
      exact ⟨a0, a1, a2, a3, rfl, wf_i64 k0, wf_i64 k1, wf_i64 k2, wf_u64 k3⟩
end
end Go.Proofs.Ytppejoccljfblaa
