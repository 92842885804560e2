/-
  An argument that is a session (api.Script by value): two texts and four integers, in bounds.
-/
import Derived.Test.YtppejoccljfblaaOpen
import Derived.Test.YtppejoccljfblaaPack
namespace Go.Proofs.Ytppejoccljfblaa
open Go.ChangeShapes Go.WideShapes Go.ChangeAt Go.RowKit
theorem inI_wf {n : Int} (h : (Lit.int .i64 n).wf = true) : inI n := by
  simp [Lit.wf, IntKind.min, IntKind.max, IntKind.signed, IntKind.bits] at h
  unfold inI; omega
section
variable {H : Type} {enc : TypeId × Value → H} {P : Program} {W : World} {r : Reach} {b0 : Nat} {v : Value} {d : DataW H} {ps : List MemPlace}
theorem open_scr_arg {tT : TypeId} {f0 f1 f2 f3 l0 l1 l2 : Field} (uT : P.underlying tT = some (.struct #[f0, f1, f2, f3])) (u0 : P.underlying f0.type = some .string) (u1 : P.underlying f1.type = some .string) (u2 : P.underlying f2.type = some (.int .i64)) (u3 : P.underlying f3.type = some (.struct #[l0, l1, l2]))
    (v0 : P.underlying l0.type = some (.int .i64)) (v1 : P.underlying l1.type = some (.int .i64)) (v2 : P.underlying l2.type = some (.int .i64)) (c6 : P.cellsOf tT = 6)
    (o : f0.offset = 0 ∧ f1.offset = 1 ∧ f2.offset = 2 ∧ f3.offset = 3) (o' : l0.offset = 0 ∧ l1.offset = 1 ∧ l2.offset = 2) (c : P.cellsOf f0.type = 1 ∧ P.cellsOf f1.type = 1 ∧ P.cellsOf f2.type = 1 ∧ P.cellsOf f3.type = 3) (c' : P.cellsOf l0.type = 1 ∧ P.cellsOf l1.type = 1 ∧ P.cellsOf l2.type = 1)
    (hval : Value.okWide P W r b0 tT v) (h : DataW.Trod enc P W 0 (fun _ => true) true tT v d ps) :
    ∃ (s g : ByteArray) (a0 a1 a2 a3 : Int), v = .agg #[.string s, .string g, .int .i64 a0, .int .i64 a1, .int .i64 a2, .int .i64 a3] ∧ inI a0 ∧ inI a1 ∧ inI a2 ∧ inI a3 := by
  obtain ⟨cs, rfl, _⟩ := okWide_struct uT hval
  obtain ⟨fuel, hf⟩ := h
  obtain ⟨xs, n, hn, hx, hl, hxs, hf⟩ := DataW.trod_struct uT hf
  have hf := hf
  match xs, hxs with
  | [y0, y1, y2, y3], _ =>
    have g0 := hf 0 f0 rfl
    have g1 := hf 1 f1 rfl
    have g2 := hf 2 f2 rfl
    have g3 := hf 3 f3 rfl
    simp only [List.getElem?_cons_zero, List.getElem?_cons_succ] at g0 g1 g2 g3
    rw [c6] at hl
    obtain ⟨cl, hcl⟩ : ∃ cl, (Value.agg cs).cells.toList = cl := ⟨_, rfl⟩
    rw [hcl] at g0 g1 g2 g3 hl
    match cl, hl, hcl with
    | [w0, w1, w2, w3, w4, w5], _, hcl =>
      rw [o.1, c.1] at g0
      rw [o.2.1, c.2.1] at g1
      rw [o.2.2.1, c.2.2.1] at g2
      rw [o.2.2.2, c.2.2.2] at g3
      simp only [List.drop_zero, List.drop_succ_cons, List.take_succ_cons, List.take_zero] at g0 g1 g2 g3
      obtain ⟨s, e0, _, _⟩ := DataW.trod_string u0 g0
      obtain ⟨g, e1, _, _⟩ := DataW.trod_string u1 g1
      obtain ⟨a0, e2, _, k0⟩ := DataW.trod_int u2 g2
      obtain ⟨zs, m, _, _, hl3, hzs, hf3⟩ := DataW.trod_struct u3 g3
      match zs, hzs with
      | [z0, z1, z2], _ =>
        have q0 := hf3 0 l0 rfl
        have q1 := hf3 1 l1 rfl
        have q2 := hf3 2 l2 rfl
        simp only [List.getElem?_cons_zero, List.getElem?_cons_succ] at q0 q1 q2
        rw [o'.1, c'.1] at q0
        rw [o'.2.1, c'.2.1] at q1
        rw [o'.2.2, c'.2.2] at q2
        simp only [List.drop_zero, List.drop_succ_cons, List.take_succ_cons, List.take_zero] at q0 q1 q2
        obtain ⟨a1, e3, _, k1⟩ := DataW.trod_int v0 q0
        obtain ⟨a2, e4, _, k2⟩ := DataW.trod_int v1 q1
        obtain ⟨a3, e5, _, k3⟩ := DataW.trod_int v2 q2
        obtain rfl : w0 = .string s := by simpa using e0
        obtain rfl : w1 = .string g := by simpa using e1
        obtain rfl : w2 = .int .i64 a0 := by simpa using e2
        obtain rfl : w3 = .int .i64 a1 := by simpa using e3
        obtain rfl : w4 = .int .i64 a2 := by simpa using e4
        obtain rfl : w5 = .int .i64 a3 := by simpa using e5
        have : cs = #[.string s, .string g, .int .i64 a0, .int .i64 a1, .int .i64 a2, .int .i64 a3] := Array.toList_inj.1 hcl
        subst this
        exact ⟨s, g, a0, a1, a2, a3, rfl, inI_wf k0, inI_wf k1, inI_wf k2, inI_wf k3⟩
end
end Go.Proofs.Ytppejoccljfblaa
