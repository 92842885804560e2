/-
  An argument that is a slice of answers (or one answer), as the walks want it. No condition.
-/
import Derived.Test.YtmadfkofmehfkaaAt13
import Derived.Test.YtmadfkofmehfkaaAt20
import Derived.Test.YtmadfkofmehfkaaAt14
namespace Go.Proofs.Ytmadfkofmehfkaa
open Go.ChangeShapes Go.WideShapes Go.ChangeAt Go.RowKit

def AnsRead (W : World) (x : Ans) (cs : List Value) (k : Nat) : Prop :=
  ∃ ab nb cb a n cap, cs = [.slice ab nb cb, .int .i64 x.value.kind, .string x.value.name, .int .i64 x.value.n, .slice a n cap] ∧ MemW W (.s 4 (Tm.rows x.binds)) (.slice ab nb cb) ∧ MemW W (.s 4 (Tm.rows x.value.args)) (.slice a n cap) ∧ (∀ t ∈ x.all, t.ok) ∧ Tm.wts x.all ≤ k
section
variable {H : Type} {enc : TypeId × Value → H} {P : Program} {W : World} {r : Reach} {b0 : Nat} {v : Value} {d : DataW H} {ps : List MemPlace} {tA tS tT tL : TypeId} {f0 f1 f2 f3 g0 g1 : Field}
theorem open_ans_any (uA : P.underlying tA = some (.struct #[g0, g1])) (uL : P.underlying g0.type = some (.slice tT)) (eT : g1.type = tT) (uT : P.underlying tT = some (.struct #[f0, f1, f2, f3])) (u0 : P.underlying f0.type = some (.int .i64)) (u1 : P.underlying f1.type = some .string) (u2 : P.underlying f2.type = some (.int .i64)) (u3 : P.underlying f3.type = some (.slice tT)) (c4 : P.cellsOf tT = 4) (c5 : P.cellsOf tA = 5)
    (o : f0.offset = 0 ∧ f1.offset = 1 ∧ f2.offset = 2 ∧ f3.offset = 3) (c : P.cellsOf f0.type = 1 ∧ P.cellsOf f1.type = 1 ∧ P.cellsOf f2.type = 1 ∧ P.cellsOf f3.type = 1) (og : g0.offset = 0 ∧ g1.offset = 1) (cg : P.cellsOf g0.type = 1) (fuel : Nat)
    (cs : List Value) (x : DataW H × List MemPlace) (h : DataW.trod enc P W 0 (fun _ => true) true fuel tA cs = some x) : ∃ y, AnsRead W y cs (Rows.uptoBulk x.1) := by
  obtain ⟨xs, n, rfl, rfl, hl, hxs, hf⟩ := DataW.trod_struct uA h
  match xs, hxs with
  | [y0, y1], _ =>
    have h0 := hf 0 g0 rfl
    have h1 := hf 1 g1 rfl
    simp only [List.getElem?_cons_zero, List.getElem?_cons_succ] at h0 h1
    rw [c5] at hl
    match cs, hl with
    | [v0, v1, v2, v3, v4], _ =>
      rw [og.1, cg] at h0
      rw [og.2, eT, c4] at h1
      simp only [List.drop_zero, List.drop_succ_cons, List.take_succ_cons, List.take_zero] at h0 h1
      obtain ⟨bs, ab, nb, cb, e0, hB, hbok, hbw⟩ := open_tms_of uL c4 (fun n _ => open_tm_any uT u0 u1 u2 u3 c4 o.1 o.2.1 o.2.2.1 o.2.2.2 c.1 c.2.1 c.2.2.1 c.2.2.2 n) h0
      obtain ⟨t, a, nn, cap, e1, hT, htok, htw⟩ := open_tm_any uT u0 u1 u2 u3 c4 o.1 o.2.1 o.2.2.1 o.2.2.2 c.1 c.2.1 c.2.2.1 c.2.2.2 _ _ _ h1
      obtain rfl : v0 = .slice ab nb cb := by simpa using e0
      simp only [List.cons.injEq, and_true] at e1
      obtain ⟨rfl, rfl, rfl, rfl⟩ := e1
      refine ⟨⟨bs, t⟩, ab, nb, cb, a, nn, cap, rfl, hB, hT, fun z hz => ?_, ?_⟩
      · rcases List.mem_append.1 hz with hz | hz
        · exact hbok z hz
        · rw [List.mem_singleton.1 hz]; exact htok
      · show Tm.wts (bs ++ [t]) ≤ _
        rw [Tm.wts_app, Tm.wts_cons, Tm.wts_nil]
        simp only [Rows.uptoBulk, Rows.uptoBulkAll, List.map_cons, List.map_nil]
        omega
theorem open_anss_arg (uS : P.underlying tS = some (.slice tA)) (uA : P.underlying tA = some (.struct #[g0, g1])) (uL : P.underlying g0.type = some (.slice tT)) (eT : g1.type = tT) (uT : P.underlying tT = some (.struct #[f0, f1, f2, f3])) (u0 : P.underlying f0.type = some (.int .i64)) (u1 : P.underlying f1.type = some .string) (u2 : P.underlying f2.type = some (.int .i64)) (u3 : P.underlying f3.type = some (.slice tT)) (c4 : P.cellsOf tT = 4) (c5 : P.cellsOf tA = 5)
    (o : f0.offset = 0 ∧ f1.offset = 1 ∧ f2.offset = 2 ∧ f3.offset = 3) (c : P.cellsOf f0.type = 1 ∧ P.cellsOf f1.type = 1 ∧ P.cellsOf f2.type = 1 ∧ P.cellsOf f3.type = 1) (og : g0.offset = 0 ∧ g1.offset = 1) (cg : P.cellsOf g0.type = 1)
    (hval : Value.okWide P W r b0 tS v) (h : DataW.Trod enc P W 0 (fun _ => true) true tS v d ps) :
    ∃ (l : List Ans) (a : Option Addr) (n cap : Nat), v = .slice a n cap ∧ MemW W (.s 5 (ansRows l)) (.slice a n cap) ∧ (∀ x ∈ l, ∀ t ∈ x.all, t.ok) ∧ (l.map fun x => Tm.wts x.all).sum ≤ Rows.uptoBulk d := by
  obtain ⟨a0, len, cap, rfl⟩ := okWide_slice uS hval
  obtain ⟨fuel, hf⟩ := h
  obtain ⟨l, a, n, cc, hcs, hm, hok, hwt⟩ := open_rows uS c5 (by decide) (AnsRead W) Ans.row (fun x => Tm.wts x.all) (fun y cs k hy => by
      obtain ⟨ab, nb, cb, a, n, cap, rfl, hB, hT, _⟩ := hy
      exact .cons hB (row_mk y.value hT)) (fun y => by simp [Ans.row, Tm.row_eq]) (fun y cs k hy => by
      obtain ⟨_, _, _, _, _, _, _, _, _, _, hw⟩ := hy
      exact hw) (fun n cs x hx => open_ans_any uA uL eT uT u0 u1 u2 u3 c4 c5 o c og cg n cs x hx) hf
  simp [Value.cells] at hcs
  obtain ⟨rfl, rfl, rfl⟩ := hcs
  refine ⟨l, _, _, _, rfl, hm, fun x hx => ?_, hwt⟩
  obtain ⟨cs, k, _, _, _, _, _, _, _, _, _, hok, _⟩ := hok x hx
  exact hok
end
theorem ans_sizes {l : List Ans} {k : Nat} (h : (l.map fun x => Tm.wts x.all).sum ≤ k) : ∀ x ∈ l, (Tm.alls x.all).length ≤ k := by
  intro x hx
  have h1 : Tm.wts x.all ≤ (l.map fun x => Tm.wts x.all).sum := by
    clear h
    induction l with
    | nil => cases hx
    | cons y l ih =>
      rw [List.map_cons, List.sum_cons]
      rcases List.mem_cons.1 hx with rfl | hx
      · omega
      · have := ih hx; omega
  have h2 : (Tm.alls x.all).length ≤ Tm.wts x.all := by
    unfold Tm.wts
    generalize Tm.alls x.all = m
    induction m with
    | nil => exact Nat.le_refl _
    | cons z m ih => rw [List.map_cons, List.sum_cons, List.length_cons]; omega
  omega
theorem ans_value {l : List Ans} (h : ∀ x ∈ l, ∀ t ∈ x.all, t.ok) : ∀ x ∈ l, x.value.ok := fun x hx => h x hx _ (List.mem_append_right _ (List.mem_singleton_self _))
end Go.Proofs.Ytmadfkofmehfkaa

/-
  An argument that is a list of texts, with how great each is; how great each of a list of answers is. No condition.
-/
namespace Go.Proofs.Ytmadfkofmehfkaa
open Go.ChangeShapes Go.WideShapes Go.ChangeAt Go.RowKit

section
variable {H : Type} {enc : TypeId × Value → H} {P : Program} {W : World} {r : Reach} {b0 : Nat} {v : Value} {d : DataW H} {ps : List MemPlace}
theorem open_strz_arg {t e : TypeId} (ut : P.underlying t = some (.slice e)) (ue : P.underlying e = some .string) (ce : P.cellsOf e = 1) (hval : Value.okWide P W r b0 t v) (h : DataW.Trod enc P W 0 (fun _ => true) true t v d ps) :
    ∃ (l : List ByteArray) (a : Option Addr) (n cap : Nat), v = .slice a n cap ∧ MemW W (.s 1 (strRows l)) (.slice a n cap) ∧ l.length ≤ Rows.uptoBulk d ∧ ∀ s ∈ l, s.size ≤ Rows.uptoBulk d := by
  obtain ⟨a0, len, cap, rfl⟩ := okWide_slice ut hval
  obtain ⟨fuel, hf⟩ := h
  obtain ⟨l, a, n, c, hcs, hm, hz, hl⟩ := open_strs_of ut ue ce hf
  simp [Value.cells] at hcs
  obtain ⟨rfl, rfl, rfl⟩ := hcs
  exact ⟨l, _, _, _, rfl, hm, hl, hz⟩
end
theorem ans_wts {l : List Ans} {k : Nat} (h : (l.map fun x => Tm.wts x.all).sum ≤ k) : ∀ x ∈ l, Tm.wts x.all ≤ k := by
  intro x hx
  have h1 : Tm.wts x.all ≤ (l.map fun x => Tm.wts x.all).sum := by
    clear h
    induction l with
    | nil => cases hx
    | cons y l ih =>
      rw [List.map_cons, List.sum_cons]
      rcases List.mem_cons.1 hx with rfl | hx
      · omega
      · have := ih hx; omega
  omega
end Go.Proofs.Ytmadfkofmehfkaa
