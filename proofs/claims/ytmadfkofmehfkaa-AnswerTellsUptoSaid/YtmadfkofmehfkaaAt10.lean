/-
  A row of terms that a call rearranges: its elements, what is loaded, what a store of a whole element does. Plain lemmas. No condition.
-/
import Derived.Test.YtmadfkofmehfkaaAt9
import Derived.Sort.LotA
import Derived.Sort.Lot0
import Derived.Laws.IdiomCopy
import Derived.Test.YtmadfkofmehfkaaAt8
import Derived.Maps.OwnOps
import Derived.Maps.OwnSet
import Derived.Maps.Views
namespace Go.Proofs.Ytmadfkofmehfkaa
open Go.RowKit

/-- A term, and where its arguments lie. -/
structure El where
  t : Tm
  a : Option Addr
  n : Nat
  cap : Nat
instance : Inhabited El := ⟨⟨.mk 0 .empty 0 [], none, 0, 0⟩⟩
def El.cells (e : El) : Array Value := #[.int .i64 e.t.kind, .string e.t.name, .int .i64 e.t.n, .slice e.a e.n e.cap]
theorem El.one (e : El) : e.cells.all (·.oneCell') = true := by simp [El.cells, Value.oneCell']
theorem El.size (e : El) : e.cells.size = 4 := rfl

/-- Four cells stand there, and may be written. -/
def WrO (w : World) (q o : Nat) : Prop := ∀ j, j < 4 → (w.cell? ⟨q, o + j, none⟩).isSome = true ∧ w.frozen? ⟨q, o + j, none⟩ = false
/-- The row's elements, each four cells long. -/
def Row (w : World) (q o : Nat) (d : Array El) : Prop := ∀ i, i < d.size → ∀ j (hj : j < 4), w.cell? ⟨q, o + i * 4 + j, none⟩ = some (d[i]!.cells[j]'(by rw [El.size]; exact hj)) ∧ w.frozen? ⟨q, o + i * 4 + j, none⟩ = false
section
variable {w w' : World} {q o : Nat} {d : Array El}
theorem Row.wr (h : Row w q o d) {i : Nat} (hi : i < d.size) : WrO w q (o + i * 4) := fun j hj => by
  obtain ⟨h1, h2⟩ := h i hi j hj
  exact ⟨by rw [h1]; rfl, h2⟩
theorem Row.c4 (h : Row w q o d) {i : Nat} (hi : i < d.size) {e : El} (he : d[i]! = e) : w.cell? ⟨q, o + i * 4, none⟩ = some (.int .i64 e.t.kind) ∧ w.cell? ⟨q, o + i * 4 + 1, none⟩ = some (.string e.t.name) ∧ w.cell? ⟨q, o + i * 4 + 2, none⟩ = some (.int .i64 e.t.n) ∧ w.cell? ⟨q, o + i * 4 + 3, none⟩ = some (.slice e.a e.n e.cap) := by
  subst he
  exact ⟨(h i hi 0 (by decide)).1, (h i hi 1 (by decide)).1, (h i hi 2 (by decide)).1, (h i hi 3 (by decide)).1⟩
theorem Row.keep (h : Row w q o d) (hq : q < w.heap.size) (hb : Below w.heap.size w w') : Row w' q o d := fun i hi j hj => by
  obtain ⟨h1, h2⟩ := h i hi j hj
  exact ⟨(hb.cell (p := ⟨q, o + i * 4 + j, none⟩) hq).trans h1, by rw [World.frozen?, hb.block q hq]; exact h2⟩
theorem Row.set (h : Row w q o d) {i : Nat} (hi : i < d.size) (e : El) : Row (w.setCells q (o + i * 4) e.cells.toList) q o (d.setIfInBounds i e) := fun k hk j hj => by
  rw [Array.size_setIfInBounds] at hk
  refine ⟨?_, by rw [World.frozen?_setCells]; exact (h k hk j hj).2⟩
  by_cases hki : k = i
  · subst hki
    have e1 : (d.setIfInBounds k e)[k]! = e := by simp [hk]
    rw [World.cell?_setCells_in q e.cells.toList (o + k * 4) w (fun j hj => (h.wr hk j hj).1) j hj]
    simp only [e1]; rfl
  · have e1 : (d.setIfInBounds i e)[k]! = d[k]! := by simp [hk, Ne.symm hki]
    rw [World.cell?_setCells_out q _ _ _ _ (fun _ _ => by show o + k * 4 + j < _ ∨ _ ≤ o + k * 4 + j; rw [show e.cells.toList.length = 4 from rfl]; omega), (h k hk j hj).1]
    simp [e1]
theorem wrO_drew {q o : Nat} : WrO w.drew q o = WrO w q o := rfl
theorem wrO_setCells (h : WrO w q o) (g p : Nat) (cs : List Value) (hs : ∀ j, j < cs.length → (w.cell? ⟨g, p + j, none⟩).isSome = true) : WrO (w.setCells g p cs) q o := fun j hj => by
  refine ⟨?_, by rw [World.frozen?_setCells]; exact (h j hj).2⟩
  by_cases hin : q = g ∧ p ≤ o + j ∧ o + j < p + cs.length
  · obtain ⟨rfl, h1, h2⟩ := hin
    obtain ⟨k, hk⟩ : ∃ k, o + j = p + k := ⟨o + j - p, by omega⟩
    rw [hk, World.cell?_setCells_in q cs p w hs k (by omega)]; rfl
  · rw [World.cell?_setCells_out g cs p w _ (fun e _ => by
      have e' : q = g := e
      show o + j < p ∨ p + cs.length ≤ o + j
      omega)]; exact (h j hj).1
theorem wrO_set (h : WrO w q o) {g p : Nat} (h' : WrO w g p) {c0 c1 c2 c3 : Value} : WrO (w.setCells g p [c0, c1, c2, c3]) q o := wrO_setCells h g p _ fun j hj => (h' j hj).1
theorem size_setCells' (w : World) (g : Nat) : ∀ (cs : List Value) (p : Nat), (w.setCells g p cs).heap.size = w.heap.size := by
  intro cs
  induction cs generalizing w with
  | nil => intro p; rfl
  | cons c cs ih => intro p; rw [World.setCells, ih]; simp [World.setCell]
theorem grownBy_setCells (w : World) (g : Nat) (cs : List Value) : ∀ p, w.grownBy (w.setCells g p cs) (some g) := by
  induction cs generalizing w with
  | nil => intro p; exact grownBy_refl _ _
  | cons c cs ih => intro p; rw [World.setCells]; exact grownBy_trans (grownBy_setCell w g p c) (ih _ _)
end

/-- Where a pointer leads to in its block. -/
def stF : Value → Nat | .pointer (some a) => a.off | _ => 0
theorem stF_eq (a : Addr) : stF (.pointer (some a)) = a.off := rfl
def StO (w : World) (x y : Value) : Prop := ∃ g p cs, x = .pointer (some ⟨g, p, none⟩) ∧ y = .agg cs ∧ cs.size = 4 ∧ cs.all (·.oneCell') = true ∧ WrO w g p
theorem stO_eq {w : World} {g p m c : Nat} {k n : Int} {s : ByteArray} {a : Option Addr} : StO w (.pointer (some ⟨g, p, none⟩)) (.agg #[.int .i64 k, .string s, .int .i64 n, .slice a m c]) = WrO w g p := by
  refine propext ⟨?_, fun hw => ⟨g, p, _, rfl, rfl, rfl, by simp [Value.oneCell'], hw⟩⟩
  rintro ⟨g', p', cs', e1, e2, _, _, hw⟩
  cases e1; exact hw
theorem wp_store_O {dst : Option Nat} {ty : TypeId} {pos : String} {after : Array Edge} {guard : Option (Nat × Bool)} {x y : Operand} {a : Act} {w : World} {K : Act → World → Prop} {Q : Exit → Act → World → Prop} (h : StO w (a.eval x) (a.eval y)) :
    Oper.wp Try.prog { dst := dst, op := .store 24 x y, type := ty, pos := pos, after := after, guard := guard } a w K Q = K (a.put dst undef) (w.setCells (stB (a.eval x)) (stF (a.eval x)) (stC (a.eval y)).toList) := by
  obtain ⟨g, p, cs, hx, hy, hn, h1, hw⟩ := h
  have hl : cs.toList.length = 4 := by rw [Array.length_toList]; exact hn
  have hs := run_storeCells_cells (P := Try.prog) g p cs.toList 0 w (fun j hj => (hw j (by omega)).1) (fun j hj => (hw j (by omega)).2) (fun v hv => (Array.all_eq_true_iff_forall_mem.1 h1) v (by simpa using hv))
  have hi : (Try.prog.info? 24).map (·.size) = some 4 := by kernel_rfl
  have hst : (storeVar 24 ⟨g, p, none⟩ (.agg cs)).run Try.prog w = .ok () (w.setCells g p cs.toList) := by
    cases hq : Try.prog.info? 24 with
    | none => simp [hq] at hi
    | some i =>
      have hs4 : cs.size = i.size := by simp [hq] at hi; omega
      simp [storeVar, sizeOf, typeInfo, hq, Value.cells, hs4]
      simpa using hs
  unfold Oper.wp execOp
  simp only [hx, hy, Instr.storeAt, Instr.sureAddr, Sem.run_bind, Sem.run_pure, Result.andThen_ok, hst]
  rfl
end Go.Proofs.Ytmadfkofmehfkaa

/-
  A map from numbers to terms that a call fills: what it reads as. Plain laws. No condition.
-/
namespace Go.Proofs.Ytmadfkofmehfkaa
open Go.RowKit Go.Maps

/-- A map's element, held as it stands. -/
def heldR (v : Value) : Option (DataW Value × List MemPlace) := some (.held v, [])
def putE (D : DataW Value) (x : Int × El) : DataW Value := D.put (.int .i64 x.1) (.held (.agg x.2.cells))
def mapE (M : List (Int × El)) : DataW Value := M.foldl putE (.map [])
theorem mapE_snoc (M : List (Int × El)) (x : Int × El) : mapE (M ++ [x]) = (mapE M).put (.int .i64 x.1) (.held (.agg x.2.cells)) := by unfold mapE; rw [List.foldl_append]; rfl
theorem look_cons {α : Type} (M : List (Int × α)) (n m : Int) (x : α) : look ((n, x) :: M) m = if n = m then some x else look M m := by
  unfold look
  by_cases e : n = m <;> simp [e]
theorem look_none {α : Type} {M : List (Int × α)} {n : Int} (h : n ∉ M.map (·.1)) : look M n = none := by
  unfold look
  rw [List.find?_eq_none.2 (fun x hx => by simp only [beq_iff_eq]; intro e; exact h (List.mem_map.2 ⟨x, hx, e⟩))]
  rfl
theorem look_mem {α : Type} {M : List (Int × α)} {n : Int} {x : α} (h : look M n = some x) : (n, x) ∈ M := by
  unfold look at h
  cases hf : M.find? (fun x => x.1 == n) with
  | none => rw [hf] at h; cases h
  | some y =>
    rw [hf] at h
    simp only [Option.map_some, Option.some.injEq] at h
    have h1 := List.find?_some hf
    have h2 := List.mem_of_find?_eq_some hf
    have e : y.1 = n := by simpa using h1
    obtain ⟨y1, y2⟩ := y
    simp only at e h
    subst e; subst h
    exact h2
theorem look_some {α : Type} {M : List (Int × α)} {n : Int} (h : n ∈ M.map (·.1)) : ∃ x, look M n = some x := by
  cases hl : look M n with
  | some x => exact ⟨x, rfl⟩
  | none =>
    exfalso
    obtain ⟨x, hx, e⟩ := List.mem_map.1 h
    unfold look at hl
    rw [Option.map_eq_none_iff, List.find?_eq_none] at hl
    exact hl x hx (by simpa using e)
theorem look_map {α β : Type} (f : α → β) (M : List (Int × α)) (n : Int) : look (M.map fun x => (x.1, f x.2)) n = (look M n).map f := by
  unfold look
  rw [List.find?_map, Option.map_map, Option.map_map]
  rfl
theorem fold_at (k : Int) (z : DataW Value) : ∀ (M : List (Int × El)) (D : DataW Value), IsMap D → (M.map (·.1)).Nodup → (M.foldl putE D).atKey (.int .i64 k) z = match look M k with | some e => .held (.agg e.cells) | none => D.atKey (.int .i64 k) z := by
  intro M
  induction M with
  | nil => intro D _ _; rfl
  | cons x M ih =>
    intro D hD hN
    obtain ⟨n, e⟩ := x
    rw [List.map_cons, List.nodup_cons] at hN
    have hD' : IsMap (putE D (n, e)) := hD.put _ _
    rw [List.foldl_cons, ih _ hD' hN.2, look_cons]
    by_cases h : n = k
    · subst h
      rw [look_none hN.1, if_pos rfl]
      exact atKey_put_same hD (by simp [WideAt.IsKeyLit]) _ _
    · rw [if_neg h]
      cases look M k with
      | some e' => rfl
      | none => exact atKey_put_other (fun e2 => h (by injection e2 with _ e2; exact e2.symm)) _ _
theorem fold_has (k : Int) : ∀ (M : List (Int × El)) (D : DataW Value), IsMap D → Maps.has (M.foldl putE D) (.int .i64 k) = ((look M k).isSome || Maps.has D (.int .i64 k)) := by
  intro M
  induction M with
  | nil => intro D _; rw [look_nil]; rfl
  | cons x M ih =>
    intro D hD
    obtain ⟨n, e⟩ := x
    have hD' : IsMap (putE D (n, e)) := hD.put _ _
    rw [List.foldl_cons, ih _ hD', look_cons]
    by_cases h : n = k
    · subst h
      rw [if_pos rfl]
      have : Maps.has (putE D (n, e)) (.int .i64 n) = true := has_put_same hD (by simp [WideAt.IsKeyLit]) _
      rw [this]; simp
    · rw [if_neg h]
      have : Maps.has (putE D (n, e)) (.int .i64 k) = Maps.has D (.int .i64 k) := has_put_other (fun e2 => h (by injection e2 with _ e2; exact e2.symm)) _
      rw [this]
theorem mapE_at {M : List (Int × El)} (h : (M.map (·.1)).Nodup) (k : Int) (z : DataW Value) : (mapE M).atKey (.int .i64 k) z = match look M k with | some e => .held (.agg e.cells) | none => z := fold_at k z M _ isMap_empty h
theorem mapE_has (M : List (Int × El)) (k : Int) : Maps.has (mapE M) (.int .i64 k) = (look M k).isSome := by
  have := fold_has k M (.map []) isMap_empty
  have h0 : Maps.has (.map [] : DataW Value) (.int .i64 k) = false := rfl
  rw [h0, Bool.or_false] at this
  exact this
/-- The terms of a map's elements. -/
def tmE (M : List (Int × El)) : List (Int × Tm) := M.map fun x => (x.1, x.2.t)
theorem look_tmE (M : List (Int × El)) (n : Int) : look (tmE M) n = (look M n).map (·.t) := look_map _ M n
/-- The map lies there, and what its elements lead to lies below. -/
structure MapIs (B : Nat) (w : World) (b : Nat) (M : List (Int × El)) : Prop where
  own : w.ownsMap Try.prog 3 heldR b M.length (mapE M)
  nodup : (M.map (·.1)).Nodup
  ok : ∀ x ∈ M, Mem (· < B) w (.s 4 (Tm.rows x.2.t.args)) (.slice x.2.a x.2.n x.2.cap)
theorem MapIs.keep {B : Nat} {w w' : World} {b : Nat} {M : List (Int × El)} (h : MapIs B w b M) (hB : B ≤ w.heap.size) (hb : Below w.heap.size w w') : MapIs B w' b M :=
  ⟨World.ownsMap.kept (row := none) h.own ⟨hb.os, hb.tape, hb.output, hb.size, fun i hi _ => hb.block i hi⟩ (by simp), h.nodup, fun x hx => (h.ok x hx).keep (Nat.le_refl _) (hb.mono hB)⟩
end Go.Proofs.Ytmadfkofmehfkaa
