/-
  A map from numbers to terms that a call fills: what it reads as. Plain laws. No condition.
-/
import Derived.Test.YtmadfkofmehfkaaMatch0
import Derived.Test.YtmadfkofmehfkaaElRow
import Derived.Maps.OwnOps
import Derived.Maps.OwnSet
import Derived.Maps.Views
namespace Go.Proofs.Ytmadfkofmehfkaa
open Go.RowKit Go.Maps

/-- A map's element, held as it stands. -/
def heldR (v : Value) : Option (DataW Value × List MemPlace) := some (.held v, [])
def putE (D : DataW Value) (x : Int × El) : DataW Value := D.put (.int .i64 x.1) (.held (.agg x.2.cells))
def mapE (M : List (Int × El)) : DataW Value := M.foldl putE (.map [])
theorem mapE_snoc (M : List (Int × El)) (x : Int × El) : mapE (M ++ [x]) = (mapE M).put (.int .i64 x.1) (.held (.agg x.2.cells)) := by unfold mapE; rw [List.foldl_append]; rfl
theorem look_cons {α : Type} (M : List (Int × α)) (n m : Int) (x : α) : look ((n, x) :: M) m = if n = m then some x else look M m := by
  unfold look
  by_cases e : n = m <;> simp [e]
theorem look_none {α : Type} {M : List (Int × α)} {n : Int} (h : n ∉ M.map (·.1)) : look M n = none := by
  unfold look
  rw [List.find?_eq_none.2 (fun x hx => by simp only [beq_iff_eq]; intro e; exact h (List.mem_map.2 ⟨x, hx, e⟩))]
  rfl
theorem look_mem {α : Type} {M : List (Int × α)} {n : Int} {x : α} (h : look M n = some x) : (n, x) ∈ M := by
  unfold look at h
  cases hf : M.find? (fun x => x.1 == n) with
  | none => rw [hf] at h; cases h
  | some y =>
    rw [hf] at h
    simp only [Option.map_some, Option.some.injEq] at h
    have h1 := List.find?_some hf
    have h2 := List.mem_of_find?_eq_some hf
    have e : y.1 = n := by simpa using h1
    obtain ⟨y1, y2⟩ := y
    simp only at e h
    subst e; subst h
    exact h2
theorem look_some {α : Type} {M : List (Int × α)} {n : Int} (h : n ∈ M.map (·.1)) : ∃ x, look M n = some x := by
  cases hl : look M n with
  | some x => exact ⟨x, rfl⟩
  | none =>
    exfalso
    obtain ⟨x, hx, e⟩ := List.mem_map.1 h
    unfold look at hl
    rw [Option.map_eq_none_iff, List.find?_eq_none] at hl
    exact hl x hx (by simpa using e)
theorem look_map {α β : Type} (f : α → β) (M : List (Int × α)) (n : Int) : look (M.map fun x => (x.1, f x.2)) n = (look M n).map f := by
  unfold look
  rw [List.find?_map, Option.map_map, Option.map_map]
  rfl
theorem fold_at (k : Int) (z : DataW Value) : ∀ (M : List (Int × El)) (D : DataW Value), IsMap D → (M.map (·.1)).Nodup → (M.foldl putE D).atKey (.int .i64 k) z = match look M k with | some e => .held (.agg e.cells) | none => D.atKey (.int .i64 k) z := by
  intro M
  induction M with
  | nil => intro D _ _; rfl
  | cons x M ih =>
    intro D hD hN
    obtain ⟨n, e⟩ := x
    rw [List.map_cons, List.nodup_cons] at hN
    have hD' : IsMap (putE D (n, e)) := hD.put _ _
    rw [List.foldl_cons, ih _ hD' hN.2, look_cons]
    by_cases h : n = k
    · subst h
      rw [look_none hN.1, if_pos rfl]
      exact atKey_put_same hD (by simp [WideAt.IsKeyLit]) _ _
    · rw [if_neg h]
      cases look M k with
      | some e' => rfl
      | none => exact atKey_put_other (fun e2 => h (by injection e2 with _ e2; exact e2.symm)) _ _
theorem fold_has (k : Int) : ∀ (M : List (Int × El)) (D : DataW Value), IsMap D → Maps.has (M.foldl putE D) (.int .i64 k) = ((look M k).isSome || Maps.has D (.int .i64 k)) := by
  intro M
  induction M with
  | nil => intro D _; rw [look_nil]; rfl
  | cons x M ih =>
    intro D hD
    obtain ⟨n, e⟩ := x
    have hD' : IsMap (putE D (n, e)) := hD.put _ _
    rw [List.foldl_cons, ih _ hD', look_cons]
    by_cases h : n = k
    · subst h
      rw [if_pos rfl]
      have : Maps.has (putE D (n, e)) (.int .i64 n) = true := has_put_same hD (by simp [WideAt.IsKeyLit]) _
      rw [this]; simp
    · rw [if_neg h]
      have : Maps.has (putE D (n, e)) (.int .i64 k) = Maps.has D (.int .i64 k) := has_put_other (fun e2 => h (by injection e2 with _ e2; exact e2.symm)) _
      rw [this]
theorem mapE_at {M : List (Int × El)} (h : (M.map (·.1)).Nodup) (k : Int) (z : DataW Value) : (mapE M).atKey (.int .i64 k) z = match look M k with | some e => .held (.agg e.cells) | none => z := fold_at k z M _ isMap_empty h
theorem mapE_has (M : List (Int × El)) (k : Int) : Maps.has (mapE M) (.int .i64 k) = (look M k).isSome := by
  have := fold_has k M (.map []) isMap_empty
  have h0 : Maps.has (.map [] : DataW Value) (.int .i64 k) = false := rfl
  rw [h0, Bool.or_false] at this
  exact this
/-- The terms of a map's elements. -/
def tmE (M : List (Int × El)) : List (Int × Tm) := M.map fun x => (x.1, x.2.t)
theorem look_tmE (M : List (Int × El)) (n : Int) : look (tmE M) n = (look M n).map (·.t) := look_map _ M n
/-- The map lies there, and what its elements lead to lies below. -/
structure MapIs (B : Nat) (w : World) (b : Nat) (M : List (Int × El)) : Prop where
  own : w.ownsMap Try.prog 3 heldR b M.length (mapE M)
  nodup : (M.map (·.1)).Nodup
  ok : ∀ x ∈ M, Mem (· < B) w (.s 4 (Tm.rows x.2.t.args)) (.slice x.2.a x.2.n x.2.cap)
theorem MapIs.keep {B : Nat} {w w' : World} {b : Nat} {M : List (Int × El)} (h : MapIs B w b M) (hB : B ≤ w.heap.size) (hb : Below w.heap.size w w') : MapIs B w' b M :=
  ⟨World.ownsMap.kept (row := none) h.own ⟨hb.os, hb.tape, hb.output, hb.size, fun i hi _ => hb.block i hi⟩ (by simp), h.nodup, fun x hx => (h.ok x hx).keep (Nat.le_refl _) (hb.mono hB)⟩
end Go.Proofs.Ytmadfkofmehfkaa
