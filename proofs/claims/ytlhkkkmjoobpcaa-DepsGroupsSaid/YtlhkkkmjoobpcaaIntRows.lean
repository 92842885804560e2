/-
  Lists of numbers in memory; where a number stands in one; one more number. No condition but how they lie.
-/
import Derived.Test.YtlhkkkmjoobpcaaTm
namespace Go.Proofs.Ytlhkkkmjoobpcaa
open Go.RowKit

def intRows (l : List Int) : List (List At) := l.map fun x => [.v (.int .i64 x)]
theorem intRows_len (l : List Int) : (intRows l).length = l.length := by simp [intRows]
theorem int_at {S : Nat → Prop} {w : World} {l : List Int} {a : Option Addr} {n cap : Nat} (h : Mem S w (.s 1 (intRows l)) (.slice a n cap)) (i : Nat) (hi : i < n) :
    ∃ b o x, a = some ⟨b, o, none⟩ ∧ S b ∧ Hid (l[i]? = some x) ∧ w.cell? ⟨b, o + i, none⟩ = some (.int .i64 x) := by
  have hl := h.len.1
  rw [intRows_len] at hl
  obtain ⟨b, o, ha, hS, _, cs, h2, hc⟩ := Mem.at h i (by rw [intRows_len]; omega)
  have e : (intRows l)[i]'(by rw [intRows_len]; omega) = [.v (.int .i64 (l[i]'(by omega)))] := by simp [intRows]
  rw [e] at h2
  cases h2 with
  | cons h0 h => cases h with
    | nil =>
      have := hc 0 (by simp)
      rw [Nat.mul_one, Nat.add_zero] at this
      exact ⟨b, o, l[i]'(by omega), ha, hS, Lib.hid (List.getElem?_eq_getElem (by omega)), by rw [this]; simp [h0.val]⟩

theorem info_int3 : (Try.prog.info? 3).map (fun i => (i.zero, i.size, i.bytes)) = some (some (.int .i64 0), 1, 8) := by kernel_rfl
/-- With a number more, if it isn't there yet. -/
def putI (l : List Int) (n : Int) : List Int := if n ∈ l then l else l ++ [n]
theorem intRows_app (l m : List Int) : intRows (l ++ m) = intRows l ++ intRows m := by simp [intRows]
/-- One number, written down to be appended. -/
theorem own_int {B base : Nat} {e e' : TypeId} {w : World} {y : Value} {rs : List (List At)} (x : Int) (q : Nat) (hq : q = w.heap.size) (h : OwnD B base e 1 w y rs) (hs : base ≤ w.heap.size) :
    Mem (fun b => Nw B base (w.alloc (.cells #[.int .i64 x] e')).heap.size b ∧ y.ownBlock ≠ some b) (w.alloc (.cells #[.int .i64 x] e')) (.s 1 (intRows [x])) (.slice (some ⟨q, 0, none⟩) 1 1) := by
  subst hq
  have hb := Bo.new w e' #[.int .i64 x]
  refine .s w.heap.size 0 1 1 1 _ (fun _ _ => .int .i64 x) rfl (Nat.le_refl _) (by decide) ⟨⟨.inr hs, by rw [World.size_alloc]; omega⟩, fun e => by have := h.lt _ e; omega⟩ (fun i hi => ?_) (fun i j hi hj => ?_) (fun i j hi hj => ?_)
  · obtain rfl : i = 0 := by simpa [intRows] using hi
    rfl
  · obtain rfl : i = 0 := by omega
    obtain rfl : j = 0 := by omega
    exact hb.cell rfl
  · obtain rfl : i = 0 := by simpa [intRows] using hi
    have hj0 : j = 0 := by have : j < 1 := hj; omega
    subst hj0
    exact .v _ rfl
theorem idxn_hit (l : List Int) (s x : Int) (k : Nat) (h : l[k]? = some x) (hx : x = s) (hn : ∀ j, j < k → l[j]? ≠ some s) : idxI l s = k := by
  obtain ⟨hk, rfl⟩ := List.getElem?_eq_some_iff.1 h
  refine idxI_at l s k hk (by rw [beq_iff_eq]; exact hx.symm) fun j hj hjk => ?_
  rw [beq_eq_false_iff_ne]
  intro e
  exact hn j hjk (by rw [List.getElem?_eq_getElem hj, e])
theorem idxn_miss (l : List Int) (s : Int) (hn : ∀ j, j < l.length → l[j]? ≠ some s) : idxI l s = -1 := by
  refine idxI_no l s fun j hj => ?_
  rw [beq_eq_false_iff_ne]
  intro e
  exact hn j hj (by rw [List.getElem?_eq_getElem hj, e])

/-- The numbers of what is of a kind, each once, behind others. -/
def vrs (k : Int) (l : List Int) (ts : List Tm) : List Int := ts.foldl (fun l x => if x.kind = k then putI l x.n else l) l
theorem vrs_snoc (k : Int) (l : List Int) (ts : List Tm) (x : Tm) : vrs k l (ts ++ [x]) = if x.kind = k then putI (vrs k l ts) x.n else vrs k l ts := by unfold vrs; rw [List.foldl_append]; rfl
theorem vrs_app (k : Int) (l : List Int) (ts us : List Tm) : vrs k l (ts ++ us) = vrs k (vrs k l ts) us := by unfold vrs; rw [List.foldl_append]
theorem vrs_len (k : Int) (l : List Int) (ts : List Tm) : (vrs k l ts).length ≤ l.length + ts.length := by
  induction ts generalizing l with
  | nil => exact Nat.le_refl _
  | cons x ts ih =>
    have e : vrs k l (x :: ts) = vrs k (if x.kind = k then putI l x.n else l) ts := rfl
    rw [e]
    have := ih (if x.kind = k then putI l x.n else l)
    have h2 : (if x.kind = k then putI l x.n else l).length ≤ l.length + 1 := by
      split
      · unfold putI; split <;> simp
      · omega
    rw [List.length_cons]; omega
end Go.Proofs.Ytlhkkkmjoobpcaa
