/-
  Terms numbered anew, in plain Lean; a row of any cells, written down to be appended; the rows of what stands for variables.
-/
import Derived.Test.YtlhkkkmjoobpcaaTm
import Derived.Test.YtlhkkkmjoobpcaaIntRows
namespace Go.Proofs.Ytlhkkkmjoobpcaa
open Go.RowKit

mutual
/-- A term, with other numbers for its variables. -/
def canT (f : Int → Int) : Tm → Tm
  | .mk k s n ts => if k = 3 then .mk 3 ⟨#[]⟩ (f n) [] else .mk k s n (canTs f ts)
def canTs (f : Int → Int) : List Tm → List Tm
  | [] => []
  | t :: ts => canT f t :: canTs f ts
end
theorem canT_var (f : Int → Int) {t : Tm} (h : t.kind = 3) : canT f t = .mk 3 ⟨#[]⟩ (f t.n) [] := by cases t; rw [canT]; exact if_pos h
theorem canT_not (f : Int → Int) {t : Tm} (h : ¬ t.kind = 3) : canT f t = .mk t.kind t.name t.n (canTs f t.args) := by cases t; rw [canT]; exact if_neg h
theorem canTs_eq (f : Int → Int) (ts : List Tm) : canTs f ts = ts.map (canT f) := by
  induction ts with
  | nil => rw [canTs]; rfl
  | cons t ts ih => rw [canTs, ih]; rfl

/-- One row, written down to be appended. -/
theorem own_row {B base sz : Nat} {e e' : TypeId} {w : World} {y : Value} {rs : List (List At)} {row : List At} {cs : Array Value} (hsz : cs.size = sz) (h : OwnD B base e sz w y rs) (hs : base ≤ w.heap.size) (hx : All2 (Mem (fun b => Nw B base w.heap.size b ∧ y.ownBlock ≠ some b) w) row cs.toList) :
    Mem (fun b => Nw B base (w.alloc (.cells cs e')).heap.size b ∧ y.ownBlock ≠ some b) (w.alloc (.cells cs e')) (.s sz [row]) (.slice (some ⟨w.heap.size, 0, none⟩) 1 1) := by
  have hb := Bo.new w e' cs
  have hr : All2 (Mem (fun b => Nw B base (w.alloc (.cells cs e')).heap.size b ∧ y.ownBlock ≠ some b) (w.alloc (.cells cs e'))) row cs.toList :=
    hx.imp fun x v hm => hm.mono (fun b ⟨⟨h1, h2⟩, h3⟩ => ⟨⟨h1, by rw [World.size_alloc]; omega⟩, h3⟩) (fun b ⟨⟨_, h2⟩, _⟩ => (below_new w _).block b h2)
  have hlen : row.length = sz := by rw [hx.len, Array.length_toList]; exact hsz
  refine .s w.heap.size 0 1 1 sz _ (fun _ j => (cs[j]?).getD undef) rfl (Nat.le_refl _) (by decide) ⟨⟨.inr hs, by rw [World.size_alloc]; omega⟩, fun e => by have := h.lt _ e; omega⟩ (fun i hi => ?_) (fun i j hi hj => ?_) (fun i j hi hj => ?_)
  · obtain rfl : i = 0 := by simpa using hi
    simpa using hlen
  · obtain rfl : i = 0 := by omega
    simp only [Nat.zero_mul, Nat.zero_add]
    refine hb.cell ?_
    have : j < cs.size := by omega
    rw [Array.getElem?_eq_getElem this]; rfl
  · obtain rfl : i = 0 := by simpa using hi
    have hj' : j < row.length := hj
    have hc : j < cs.size := by omega
    have := hr.at j hj' (by rw [Array.length_toList]; exact hc)
    rw [Array.getElem?_eq_getElem hc]
    simpa using this
/-- A slice of nothing leads nowhere. -/
theorem Mem.none_to {S S' : Nat → Prop} {w w' : World} {sz n cap : Nat} {a : Option Addr} (h : Mem S w (.s sz []) (.slice a n cap)) : Mem S' w' (.s sz []) (.slice a n cap) := by
  have hl := h.len
  obtain rfl : 0 = n := hl.1
  exact .e _ _ _ hl.2.2
/-- What stands for the variables of a list: each its place. -/
def bindRow (n : Int) (i : Nat) : List At := [.v (.int .i64 n), .v (.int .i64 3), .v (.string ⟨#[]⟩), .v (.int .i64 i), .s 4 []]
def bindRows (V : List Int) (k : Nat) : List (List At) := (List.range k).map fun i => bindRow (V.getD i 0) i
theorem bindRows_len (V : List Int) (k : Nat) : (bindRows V k).length = k := by simp [bindRows]
theorem bindRows_succ {V : List Int} {k : Nat} {x : Int} (h : V[k]? = some x) : bindRows V (k + 1) = bindRows V k ++ [bindRow x k] := by
  unfold bindRows
  rw [List.range_succ, List.map_append, List.map_cons, List.map_nil, List.getD_eq_getElem?_getD, h]
  rfl
theorem bind_at {S : Nat → Prop} {w : World} {V : List Int} {k : Nat} {a : Option Addr} {n cap : Nat} (h : Mem S w (.s 5 (bindRows V k)) (.slice a n cap)) (i : Nat) (hi : i < n) :
    ∃ b o a' n' cap', a = some ⟨b, o, none⟩ ∧ S b ∧ w.cell? ⟨b, o + i * 5, none⟩ = some (.int .i64 (V.getD i 0)) ∧ w.cell? ⟨b, o + i * 5 + 1, none⟩ = some (.int .i64 3) ∧ w.cell? ⟨b, o + i * 5 + 2, none⟩ = some (.string ⟨#[]⟩) ∧ w.cell? ⟨b, o + i * 5 + 3, none⟩ = some (.int .i64 i) ∧ w.cell? ⟨b, o + i * 5 + 4, none⟩ = some (.slice a' n' cap') ∧ Hid (Mem S w (.s 4 []) (.slice a' n' cap')) := by
  have hl := h.len.1
  rw [bindRows_len] at hl
  have hi' : i < (bindRows V k).length := by rw [bindRows_len]; omega
  obtain ⟨b, o, ha, hS, _, cs, h2, hc⟩ := Mem.at h i hi'
  have e : (bindRows V k)[i]'hi' = bindRow (V.getD i 0) i := by simp [bindRows]
  rw [e] at h2
  unfold bindRow at h2
  cases h2 with
  | cons g0 h2 => cases h2 with
    | cons g1 h2 => cases h2 with
      | cons g2 h2 => cases h2 with
        | cons g3 h2 => cases h2 with
          | cons g4 h2 => cases h2 with
            | nil =>
              obtain ⟨a', n', cap', rfl, _⟩ := g4.parts
              refine ⟨b, o, a', n', cap', ha, hS, ?_, ?_, ?_, ?_, ?_, Lib.hid g4⟩
              · have := hc 0 (by simp); rw [← g0.val]; exact this
              · have := hc 1 (by simp); rw [← g1.val]; exact this
              · have := hc 2 (by simp); rw [← g2.val]; exact this
              · have := hc 3 (by simp); rw [← g3.val]; exact this
              · have := hc 4 (by simp); exact this
/-- Where a number stands in a list that has it. -/
theorem idx_of {V : List Int} {n : Int} (h : n ∈ V) : ∃ i : Nat, i < V.length ∧ V.getD i 0 = n ∧ (∀ j, j < i → V.getD j 0 ≠ n) ∧ idxI V n = (i : Int) := by
  have hf : V.findIdx (n == ·) < V.length := List.findIdx_lt_length_of_exists ⟨n, h, by simp⟩
  refine ⟨V.findIdx (n == ·), hf, ?_, fun j hj e => ?_, ?_⟩
  · have := List.findIdx_getElem (p := (n == ·)) (xs := V) (w := hf)
    rw [List.getD_eq_getElem?_getD, List.getElem?_eq_getElem hf]
    exact (beq_iff_eq.1 this).symm
  · have h2 := List.not_of_lt_findIdx hj
    have hjl : j < V.length := by omega
    rw [List.getD_eq_getElem?_getD, List.getElem?_eq_getElem hjl] at e
    simp only [Option.getD_some] at e
    rw [e] at h2
    simp at h2
  · refine idxI_at V n _ hf (List.findIdx_getElem (p := (n == ·)) (xs := V) (w := hf)) fun j hj hlt => ?_
    have h2 := List.not_of_lt_findIdx hlt
    simpa using h2
/-- All variables of a term are on the list. -/
def VarsIn (V : List Int) (t : Tm) : Prop := ∀ x ∈ t.all, x.kind = 3 → x.n ∈ V
theorem VarsIn.arg {V : List Int} {t x : Tm} (h : VarsIn V t) (hx : x ∈ t.args) : VarsIn V x := fun y hy hk => h y (Tm.args_all x hx y hy) hk
theorem VarsIn.head {V : List Int} {t : Tm} (h : VarsIn V t) (hk : t.kind = 3) : t.n ∈ V := h t (by rw [Tm.all_eq]; exact List.mem_cons_self ..) hk
end Go.Proofs.Ytlhkkkmjoobpcaa
