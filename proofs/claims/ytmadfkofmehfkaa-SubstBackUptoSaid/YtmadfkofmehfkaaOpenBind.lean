/-
  An argument that is a slice of what stands for variables, as the walks want it. No condition.
-/
import Derived.Test.YtmadfkofmehfkaaOpenRows
import Derived.Test.YtmadfkofmehfkaaMatchK
namespace Go.Proofs.Ytmadfkofmehfkaa
open Go.ChangeShapes Go.WideShapes Go.ChangeAt Go.RowKit

def BindRead (W : World) (x : Int × Tm) (cs : List Value) (k : Nat) : Prop :=
  ∃ a n cap, cs = [.int .i64 x.1, .int .i64 x.2.kind, .string x.2.name, .int .i64 x.2.n, .slice a n cap] ∧ MemW W (.s 4 (Tm.rows x.2.args)) (.slice a n cap) ∧ x.2.ok ∧ x.2.wt ≤ k
section
variable {H : Type} {enc : TypeId × Value → H} {P : Program} {W : World} {r : Reach} {b0 : Nat} {v : Value} {d : DataW H} {ps : List MemPlace} {tA tS tT : TypeId} {f0 f1 f2 f3 g0 g1 : Field}
theorem open_bind_any (uA : P.underlying tA = some (.struct #[g0, g1])) (uI : P.underlying g0.type = some (.int .i64)) (eT : g1.type = tT) (uT : P.underlying tT = some (.struct #[f0, f1, f2, f3])) (u0 : P.underlying f0.type = some (.int .i64)) (u1 : P.underlying f1.type = some .string) (u2 : P.underlying f2.type = some (.int .i64)) (u3 : P.underlying f3.type = some (.slice tT)) (c4 : P.cellsOf tT = 4) (c5 : P.cellsOf tA = 5)
    (o : f0.offset = 0 ∧ f1.offset = 1 ∧ f2.offset = 2 ∧ f3.offset = 3) (c : P.cellsOf f0.type = 1 ∧ P.cellsOf f1.type = 1 ∧ P.cellsOf f2.type = 1 ∧ P.cellsOf f3.type = 1) (og : g0.offset = 0 ∧ g1.offset = 1) (cg : P.cellsOf g0.type = 1) (fuel : Nat)
    (cs : List Value) (x : DataW H × List MemPlace) (h : DataW.trod enc P W 0 (fun _ => true) true fuel tA cs = some x) : ∃ y, BindRead W y cs (Rows.uptoBulk x.1) := by
  obtain ⟨xs, n, rfl, rfl, hl, hxs, hf⟩ := DataW.trod_struct uA h
  match xs, hxs with
  | [y0, y1], _ =>
    have h0 := hf 0 g0 rfl
    have h1 := hf 1 g1 rfl
    simp only [List.getElem?_cons_zero, List.getElem?_cons_succ] at h0 h1
    rw [c5] at hl
    match cs, hl with
    | [v0, v1, v2, v3, v4], _ =>
      rw [og.1, cg] at h0
      rw [og.2, eT, c4] at h1
      simp only [List.drop_zero, List.drop_succ_cons, List.take_succ_cons, List.take_zero] at h0 h1
      obtain ⟨k, e0, _, _⟩ := DataW.trod_int uI h0
      obtain ⟨t, a, nn, cap, e1, hT, htok, htw⟩ := open_tm_any uT u0 u1 u2 u3 c4 o.1 o.2.1 o.2.2.1 o.2.2.2 c.1 c.2.1 c.2.2.1 c.2.2.2 _ _ _ h1
      obtain rfl : v0 = .int .i64 k := by simpa using e0
      simp only [List.cons.injEq, and_true] at e1
      obtain ⟨rfl, rfl, rfl, rfl⟩ := e1
      refine ⟨(k, t), a, nn, cap, rfl, hT, htok, ?_⟩
      simp only [Rows.uptoBulk, Rows.uptoBulkAll, List.map_cons, List.map_nil]
      omega
theorem open_binds_arg (uS : P.underlying tS = some (.slice tA)) (uA : P.underlying tA = some (.struct #[g0, g1])) (uI : P.underlying g0.type = some (.int .i64)) (eT : g1.type = tT) (uT : P.underlying tT = some (.struct #[f0, f1, f2, f3])) (u0 : P.underlying f0.type = some (.int .i64)) (u1 : P.underlying f1.type = some .string) (u2 : P.underlying f2.type = some (.int .i64)) (u3 : P.underlying f3.type = some (.slice tT)) (c4 : P.cellsOf tT = 4) (c5 : P.cellsOf tA = 5)
    (o : f0.offset = 0 ∧ f1.offset = 1 ∧ f2.offset = 2 ∧ f3.offset = 3) (c : P.cellsOf f0.type = 1 ∧ P.cellsOf f1.type = 1 ∧ P.cellsOf f2.type = 1 ∧ P.cellsOf f3.type = 1) (og : g0.offset = 0 ∧ g1.offset = 1) (cg : P.cellsOf g0.type = 1)
    (hval : Value.okWide P W r b0 tS v) (h : DataW.Trod enc P W 0 (fun _ => true) true tS v d ps) :
    ∃ (l : List (Int × Tm)) (a : Option Addr) (n cap : Nat), v = .slice a n cap ∧ MemW W (.s 5 (bindsT l)) (.slice a n cap) ∧ (∀ x ∈ l, x.2.ok) ∧ (l.map fun x => x.2.wt).sum ≤ Rows.uptoBulk d := by
  obtain ⟨a0, len, cap, rfl⟩ := okWide_slice uS hval
  obtain ⟨fuel, hf⟩ := h
  obtain ⟨l, a, n, cc, hcs, hm, hok, hwt⟩ := open_rows uS c5 (by decide) (BindRead W) bindT (fun x => x.2.wt) (fun y cs k hy => by
      obtain ⟨a, n, cap, rfl, hT, _⟩ := hy
      exact .cons (.v _ rfl) (row_mk y.2 hT)) (fun y => by simp [bindT, Tm.row_eq]) (fun y cs k hy => by
      obtain ⟨_, _, _, _, _, _, hw⟩ := hy
      exact hw) (fun n cs x hx => open_bind_any uA uI eT uT u0 u1 u2 u3 c4 c5 o c og cg n cs x hx) hf
  simp [Value.cells] at hcs
  obtain ⟨rfl, rfl, rfl⟩ := hcs
  refine ⟨l, _, _, _, rfl, hm, fun x hx => ?_, hwt⟩
  obtain ⟨cs, k, _, _, _, _, _, hok, _⟩ := hok x hx
  exact hok
end
theorem binds_sizes {l : List (Int × Tm)} {k : Nat} (h : (l.map fun x => x.2.wt).sum ≤ k) : ∀ x ∈ l, x.2.size ≤ k := by
  intro x hx
  have h1 : x.2.wt ≤ (l.map fun x => x.2.wt).sum := by
    clear h
    induction l with
    | nil => cases hx
    | cons y l ih =>
      rw [List.map_cons, List.sum_cons]
      rcases List.mem_cons.1 hx with rfl | hx
      · omega
      · have := ih hx; omega
  have := x.2.size_wt
  omega
theorem two_le {p t : Tm} {k : Nat} (h : p.wt + t.wt ≤ k) : (Tm.alls [p, t]).length ≤ k := by
  have hal : (Tm.alls [p, t]).length = p.size + t.size := by
    rw [Tm.alls, Tm.alls, Tm.alls, List.append_nil, List.length_append]; rfl
  have := p.size_wt
  have := t.size_wt
  omega
end Go.Proofs.Ytmadfkofmehfkaa
