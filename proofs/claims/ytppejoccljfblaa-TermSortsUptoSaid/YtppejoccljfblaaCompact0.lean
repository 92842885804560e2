/-
  Plain: a list without what stands twice, side by side; noughts laid over the end of a row. No condition.
-/
import Derived.Test.YtppejoccljfblaaInsert
namespace Go.Proofs.Ytppejoccljfblaa
open Go.RowKit

noncomputable instance tmDec2 : DecidableEq Tm := fun _ _ => Classical.propDecidable _
/-- Without what is the same as the next one. -/
noncomputable def cT : List Tm → List Tm
  | [] => []
  | [x] => [x]
  | x :: y :: l => if x = y then cT (y :: l) else x :: cT (y :: l)
theorem cT_two (a b : Tm) (l : List Tm) : cT (a :: b :: l) = if a = b then cT (b :: l) else a :: cT (b :: l) := by rw [cT]
theorem cT_snoc (x y : Tm) : ∀ l : List Tm, cT (l ++ [y] ++ [x]) = if x = y then cT (l ++ [y]) else cT (l ++ [y]) ++ [x]
  | [] => by
    show cT (y :: x :: []) = if x = y then cT [y] else cT [y] ++ [x]
    rw [cT_two, cT, cT]
    by_cases h : x = y
    · rw [if_pos h.symm, if_pos h, h]
    · rw [if_neg (fun e => h e.symm), if_neg h]; rfl
  | [a] => by
    have ih := cT_snoc x y []
    show cT (a :: y :: [x]) = if x = y then cT (a :: y :: []) else cT (a :: y :: []) ++ [x]
    have ih' : cT (y :: [x]) = if x = y then cT [y] else cT [y] ++ [x] := ih
    rw [cT_two a y [x], cT_two a y [], ih']
    by_cases h : x = y
    · rw [if_pos h, if_pos h]
    · rw [if_neg h, if_neg h]
      by_cases h2 : a = y
      · rw [if_pos h2, if_pos h2]
      · rw [if_neg h2, if_neg h2]; rfl
  | a :: b :: l => by
    have ih := cT_snoc x y (b :: l)
    show cT (a :: b :: (l ++ [y] ++ [x])) = if x = y then cT (a :: b :: (l ++ [y])) else cT (a :: b :: (l ++ [y])) ++ [x]
    have ih' : cT (b :: (l ++ [y] ++ [x])) = if x = y then cT (b :: (l ++ [y])) else cT (b :: (l ++ [y])) ++ [x] := ih
    rw [cT_two a b (l ++ [y] ++ [x]), cT_two a b (l ++ [y]), ih']
    by_cases h : x = y
    · rw [if_pos h, if_pos h]
    · rw [if_neg h, if_neg h]
      by_cases h2 : a = b
      · rw [if_pos h2, if_pos h2]
      · rw [if_neg h2, if_neg h2]; rfl
theorem cT_len : ∀ l : List Tm, (cT l).length ≤ l.length
  | [] => Nat.le_refl _
  | [x] => Nat.le_refl _
  | x :: y :: l => by
    have ih := cT_len (y :: l)
    rw [cT]
    split
    · simp only [List.length_cons] at ih ⊢; omega
    · simp only [List.length_cons] at ih ⊢; omega
theorem cT_same : ∀ l : List Tm, (∀ i, i + 1 < l.length → l[i]? ≠ l[i + 1]?) → cT l = l
  | [], _ => rfl
  | [x], _ => rfl
  | x :: y :: l, h => by
    have ih := cT_same (y :: l) (fun i hi => by simpa using h (i + 1) (by simpa using hi))
    have h0 := h 0 (by simp)
    rw [cT, if_neg (by simpa using h0), ih]

theorem setCells_append (w : World) (q : Nat) : ∀ (l1 l2 : List Value) (p : Nat), w.setCells q p (l1 ++ l2) = (w.setCells q p l1).setCells q (p + l1.length) l2 := by
  intro l1
  induction l1 generalizing w with
  | nil => intro l2 p; rfl
  | cons x l1 ih =>
    intro l2 p
    rw [List.cons_append, World.setCells, ih, World.setCells, List.length_cons]
    congr 1; omega
/-- Nothing. -/
def El.zero : El := ⟨.mk 0 .empty 0 [], none, 0, 0⟩
def zeros4 : Nat → List Value
  | 0 => []
  | n + 1 => [.int .i64 0, .string .empty, .int .i64 0, .slice none 0 0] ++ zeros4 n
theorem SS.clear {w0 : World} {q o : Nat} : ∀ (m : Nat) {d : Array El} {w : World} (i : Nat), SS w0 q o d w → i + m ≤ d.size → ∃ d', SS w0 q o d' (w.setCells q (o + i * 4) (zeros4 m)) ∧ d'.size = d.size ∧ ∀ k, k < i → d'[k]! = d[k]!
  | 0, d, w, i, h, _ => ⟨d, h, rfl, fun _ _ => rfl⟩
  | m + 1, d, w, i, h, hi => by
    have h1 := h.put (i := i) (by omega) El.zero (by rw [El.zero]; exact .e none 0 4 (by decide))
    obtain ⟨d', h2, h3, h4⟩ := SS.clear m (i + 1) h1 (by rw [Array.size_setIfInBounds]; omega)
    refine ⟨d', ?_, by rw [h3, Array.size_setIfInBounds], fun k hk => by rw [h4 k (by omega)]; simp [show k < d.size by omega, show ¬ i = k by omega]⟩
    rw [zeros4, setCells_append]
    have e : o + i * 4 + [Value.int .i64 0, .string .empty, .int .i64 0, .slice none 0 0].length = o + (i + 1) * 4 := by
      show o + i * 4 + 4 = _; omega
    rw [e]
    exact h2
end Go.Proofs.Ytppejoccljfblaa
