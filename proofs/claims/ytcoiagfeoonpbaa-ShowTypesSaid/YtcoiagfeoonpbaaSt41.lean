/-
  Arguments that are tokens, and slices of them, as the walks want them. No condition.
-/
import Derived.Test.YtcoiagfeoonpbaaSt40
import Derived.Test.YtcoiagfeoonpbaaSt6
import Derived.Test.YtcoiagfeoonpbaaSt13
namespace Go.Proofs.Ytcoiagfeoonpbaa
open Go.ChangeShapes Go.WideShapes Go.ChangeAt Go.RowKit
def tokCells (t : Tk) : List Value := [.int .i64 t.k, .string t.s, .int .i64 t.n, .int .i64 t.l, .int .i64 t.c]
section
variable {H : Type} {enc : TypeId × Value → H} {P : Program} {W : World} {r : Reach} {b0 : Nat} {v : Value} {d : DataW H} {ps : List MemPlace} {tS tT : TypeId} {f0 f1 f2 f3 l0 l1 : Field}
theorem open_tok_any (uT : P.underlying tT = some (.struct #[f0, f1, f2, f3])) (u0 : P.underlying f0.type = some (.int .i64)) (u1 : P.underlying f1.type = some .string) (u2 : P.underlying f2.type = some (.int .i64)) (u3 : P.underlying f3.type = some (.struct #[l0, l1]))
    (v0 : P.underlying l0.type = some (.int .i64)) (v1 : P.underlying l1.type = some (.int .i64)) (c5 : P.cellsOf tT = 5)
    (o : f0.offset = 0 ∧ f1.offset = 1 ∧ f2.offset = 2 ∧ f3.offset = 3) (o' : l0.offset = 0 ∧ l1.offset = 1) (c : P.cellsOf f0.type = 1 ∧ P.cellsOf f1.type = 1 ∧ P.cellsOf f2.type = 1 ∧ P.cellsOf f3.type = 2) (c' : P.cellsOf l0.type = 1 ∧ P.cellsOf l1.type = 1)
    (fuel : Nat) (cs : List Value) (x : DataW H × List MemPlace) (h : DataW.trod enc P W 0 (fun _ => true) true fuel tT cs = some x) : ∃ t : Tk, cs = tokCells t := by
  obtain ⟨xs, n, rfl, rfl, hl, hxs, hf⟩ := DataW.trod_struct uT h
  match xs, hxs with
  | [y0, y1, y2, y3], _ =>
    have g0 := hf 0 f0 rfl
    have g1 := hf 1 f1 rfl
    have g2 := hf 2 f2 rfl
    have g3 := hf 3 f3 rfl
    simp only [List.getElem?_cons_zero, List.getElem?_cons_succ] at g0 g1 g2 g3
    rw [c5] at hl
    match cs, hl with
    | [w0, w1, w2, w3, w4], _ =>
      rw [o.1, c.1] at g0
      rw [o.2.1, c.2.1] at g1
      rw [o.2.2.1, c.2.2.1] at g2
      rw [o.2.2.2, c.2.2.2] at g3
      simp only [List.drop_zero, List.drop_succ_cons, List.take_succ_cons, List.take_zero] at g0 g1 g2 g3
      obtain ⟨a0, e0, _, _⟩ := DataW.trod_int u0 g0
      obtain ⟨s, e1, _, _⟩ := DataW.trod_string u1 g1
      obtain ⟨a2, e2, _, _⟩ := DataW.trod_int u2 g2
      obtain ⟨zs, m, _, _, hl3, hzs, hf3⟩ := DataW.trod_struct u3 g3
      match zs, hzs with
      | [z0, z1], _ =>
        have q0 := hf3 0 l0 rfl
        have q1 := hf3 1 l1 rfl
        simp only [List.getElem?_cons_zero, List.getElem?_cons_succ] at q0 q1
        rw [o'.1, c'.1] at q0
        rw [o'.2, c'.2] at q1
        simp only [List.drop_zero, List.drop_succ_cons, List.take_succ_cons, List.take_zero] at q0 q1
        obtain ⟨a3, e3, _, _⟩ := DataW.trod_int v0 q0
        obtain ⟨a4, e4, _, _⟩ := DataW.trod_int v1 q1
        obtain rfl : w0 = .int .i64 a0 := by simpa using e0
        obtain rfl : w1 = .string s := by simpa using e1
        obtain rfl : w2 = .int .i64 a2 := by simpa using e2
        obtain rfl : w3 = .int .i64 a3 := by simpa using e3
        obtain rfl : w4 = .int .i64 a4 := by simpa using e4
        exact ⟨⟨a0, s, a2, a3, a4⟩, rfl⟩
end
end Go.Proofs.Ytcoiagfeoonpbaa

/-
  An argument that is tokens: their texts' sizes, too. No condition.
-/
namespace Go.Proofs.Ytcoiagfeoonpbaa
open Go.ChangeShapes Go.WideShapes Go.ChangeAt Go.RowKit
section
variable {H : Type} {enc : TypeId × Value → H} {P : Program} {W : World} {r : Reach} {b0 : Nat} {v : Value} {d : DataW H} {ps : List MemPlace} {tS tT : TypeId} {f0 f1 f2 f3 l0 l1 : Field}
theorem tokz_any (uT : P.underlying tT = some (.struct #[f0, f1, f2, f3])) (u0 : P.underlying f0.type = some (.int .i64)) (u1 : P.underlying f1.type = some .string) (u2 : P.underlying f2.type = some (.int .i64)) (u3 : P.underlying f3.type = some (.struct #[l0, l1]))
    (v0 : P.underlying l0.type = some (.int .i64)) (v1 : P.underlying l1.type = some (.int .i64)) (c5 : P.cellsOf tT = 5)
    (o : f0.offset = 0 ∧ f1.offset = 1 ∧ f2.offset = 2 ∧ f3.offset = 3) (o' : l0.offset = 0 ∧ l1.offset = 1) (c : P.cellsOf f0.type = 1 ∧ P.cellsOf f1.type = 1 ∧ P.cellsOf f2.type = 1 ∧ P.cellsOf f3.type = 2) (c' : P.cellsOf l0.type = 1 ∧ P.cellsOf l1.type = 1)
    (fuel : Nat) (cs : List Value) (x : DataW H × List MemPlace) (h : DataW.trod enc P W 0 (fun _ => true) true fuel tT cs = some x) : ∃ t : Tk, cs = tokCells t ∧ t.s.size ≤ maxLen := by
  obtain ⟨t, ht⟩ := open_tok_any uT u0 u1 u2 u3 v0 v1 c5 o o' c c' fuel cs x h
  refine ⟨t, ht, ?_⟩
  obtain ⟨xs, n, rfl, rfl, hl, hxs, hf⟩ := DataW.trod_struct uT h
  match xs, hxs with
  | [y0, y1, y2, y3], _ =>
    have g1 := hf 1 f1 rfl
    simp only [List.getElem?_cons_zero, List.getElem?_cons_succ] at g1
    rw [o.2.1, c.2.1, ht] at g1
    simp only [tokCells, List.drop_zero, List.drop_succ_cons, List.take_succ_cons, List.take_zero] at g1
    obtain ⟨s, e1, _, hs⟩ := DataW.trod_string u1 g1
    have e2 : t.s = s := by simpa using e1
    rw [e2]; exact hs
theorem open_tokz_arg (uS : P.underlying tS = some (.slice tT)) (uT : P.underlying tT = some (.struct #[f0, f1, f2, f3])) (u0 : P.underlying f0.type = some (.int .i64)) (u1 : P.underlying f1.type = some .string) (u2 : P.underlying f2.type = some (.int .i64)) (u3 : P.underlying f3.type = some (.struct #[l0, l1]))
    (v0 : P.underlying l0.type = some (.int .i64)) (v1 : P.underlying l1.type = some (.int .i64)) (c5 : P.cellsOf tT = 5)
    (o : f0.offset = 0 ∧ f1.offset = 1 ∧ f2.offset = 2 ∧ f3.offset = 3) (o' : l0.offset = 0 ∧ l1.offset = 1) (c : P.cellsOf f0.type = 1 ∧ P.cellsOf f1.type = 1 ∧ P.cellsOf f2.type = 1 ∧ P.cellsOf f3.type = 2) (c' : P.cellsOf l0.type = 1 ∧ P.cellsOf l1.type = 1)
    (hval : Value.okWide P W r b0 tS v) (h : DataW.Trod enc P W 0 (fun _ => true) true tS v d ps) :
    ∃ (ts : List Tk) (a : Option Addr) (n cap : Nat), v = .slice a n cap ∧ MemW W (.s 5 (tkRows ts)) (.slice a n cap) ∧ ∀ t ∈ ts, t.s.size ≤ maxLen := by
  obtain ⟨a0, len, cap, rfl⟩ := okWide_slice uS hval
  obtain ⟨fuel, hf⟩ := h
  obtain ⟨l, a, n, cc, hcs, hm, hR, _⟩ := open_rows uS c5 (by decide) (fun y cs _ => cs = tokCells y ∧ y.s.size ≤ maxLen) tkRow (fun _ => 0) (fun y cs k hy => by
      obtain ⟨rfl, _⟩ := hy
      exact .cons (.v _ rfl) (.cons (.v _ rfl) (.cons (.v _ rfl) (.cons (.v _ rfl) (.cons (.v _ rfl) .nil))))) (fun y => by simp [tkRow]) (fun y cs k hy => Nat.zero_le _) (fun n cs x hx => tokz_any uT u0 u1 u2 u3 v0 v1 c5 o o' c c' n cs x hx) hf
  simp [Value.cells] at hcs
  obtain ⟨rfl, rfl, rfl⟩ := hcs
  exact ⟨l, _, _, _, rfl, hm, fun t ht => by obtain ⟨_, _, h⟩ := hR t ht; exact h.2⟩
end
end Go.Proofs.Ytcoiagfeoonpbaa
