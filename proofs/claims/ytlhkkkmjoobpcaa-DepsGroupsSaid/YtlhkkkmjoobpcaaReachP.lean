/-
  Whom a node comes to, told in order: the queue's answer, sorted, is the marks' places. Plain. No condition.
-/
import Derived.Test.YtlhkkkmjoobpcaaReachL
namespace Go.Proofs.Ytlhkkkmjoobpcaa

/-- The places where something is so. -/
def risingL (o : List Bool) : List Int := ((List.range o.length).filter (on o)).map fun k : Nat => (k : Int)
theorem rising_mem (o : List Bool) (x : Int) : x ∈ risingL o ↔ ∃ k : Nat, x = k ∧ on o k = true := by
  unfold risingL
  rw [List.mem_map]
  constructor
  · rintro ⟨k, hk, rfl⟩
    exact ⟨k, rfl, (List.mem_filter.1 hk).2⟩
  · rintro ⟨k, rfl, hk⟩
    refine ⟨k, List.mem_filter.2 ⟨List.mem_range.2 ?_, hk⟩, rfl⟩
    unfold on at hk
    cases h : o[k]? with
    | none => rw [h] at hk; cases hk
    | some b => exact (List.getElem?_eq_some_iff.1 h).1
theorem rising_lt (o : List Bool) : (risingL o).Pairwise (· < ·) := by
  unfold risingL
  rw [List.pairwise_map]
  exact (List.Pairwise.filter _ List.pairwise_lt_range).imp fun h => by omega
theorem rising_nodup (o : List Bool) : (risingL o).Nodup := (rising_lt o).imp fun h e => by omega
theorem sorted_eq {L M : List Int} (hp : L.Perm M) (hl : L.Pairwise (· ≤ ·)) (hm : M.Pairwise (· ≤ ·)) : L = M :=
  hp.eq_of_pairwise (fun _ _ _ _ h1 h2 => Int.le_antisymm h1 h2) hl hm
/-- The marks of the document's Reach. -/
def marksR (l : List (List Int)) (a : Int) : List Bool := if okN l.length a then roundsR l a (l.length + 1) else List.replicate l.length false
theorem marks_iff (l : List (List Int)) (a : Int) (k : Nat) : on (marksR l a) k = true ↔ Rch l a k := by
  unfold marksR
  cases h : okN l.length a with
  | true => rw [if_pos rfl]; exact rounds_done h k
  | false =>
    rw [if_neg (by simp)]
    constructor
    · intro hk
      unfold on at hk
      rw [List.getElem?_replicate] at hk
      split at hk <;> simp at hk
    · intro hr
      exfalso
      have : ∀ j, Rch l a j → False := fun j hj => by
        induction hj with
        | one hk => rw [stepsG, h] at hk; cases hk
        | step _ _ ih => exact ih
      exact this _ hr
theorem reach_sorted {l : List (List Int)} {a : Int} {out L : List Int} (h : Bfs l a [] out) (hp : L.Perm out) (hs : L.Pairwise (· ≤ ·)) : L = risingL (marksR l a) := by
  refine sorted_eq ?_ hs ((rising_lt _).imp fun h => by omega)
  refine hp.trans ((List.perm_ext_iff_of_nodup h.nodup (rising_nodup _)).2 fun x => ?_)
  rw [rising_mem, ← h.done]
  constructor
  · intro hr
    have h0 := (okN_iff.1 hr.ok).1
    have e : ((x.toNat : Nat) : Int) = x := Int.toNat_of_nonneg h0
    exact ⟨x.toNat, e.symm, (marks_iff l a _).2 (by rw [e]; exact hr)⟩
  · rintro ⟨k, rfl, hk⟩
    exact (marks_iff l a k).1 hk
/-- Who leads to a node. -/
def callersL (l : List (List Int)) (i : Int) : Nat → List Int
  | 0 => []
  | k + 1 => if okN l.length i && (rowG l k).any (fun x => x == i) then callersL l i k ++ [(k : Int)] else callersL l i k
theorem in_steps {l : List (List Int)} {i : Int} {k : Nat} (hk : k < l.length) : (stepsG l k).contains i = (okN l.length i && (rowG l k).any (fun x => x == i)) := by
  have hok : okN l.length (k : Int) = true := okN_iff.2 ⟨by omega, by omega⟩
  rw [stepsG, if_pos hok, Bool.eq_iff_iff, List.contains_iff_mem, List.mem_filter, Bool.and_eq_true, List.any_eq_true]
  constructor
  · rintro ⟨h1, h2⟩; exact ⟨h2, i, h1, by simp⟩
  · rintro ⟨h1, x, hx, e⟩
    rw [beq_iff_eq] at e
    exact ⟨e ▸ hx, h1⟩
end Go.Proofs.Ytlhkkkmjoobpcaa
