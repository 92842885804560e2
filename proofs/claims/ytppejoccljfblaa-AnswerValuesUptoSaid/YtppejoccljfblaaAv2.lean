/-
  Terms numbered anew, in plain Lean; a row of any cells, written down to be appended; the rows of what stands for variables.
-/
import Derived.Test.YtppejoccljfblaaAv1
namespace Go.Proofs.Ytppejoccljfblaa
open Go.RowKit

mutual
/-- A term, with other numbers for its variables. -/
def canT (f : Int → Int) : Tm → Tm
  | .mk k s n ts => if k = 3 then .mk 3 ⟨#[]⟩ (f n) [] else .mk k s n (canTs f ts)
def canTs (f : Int → Int) : List Tm → List Tm
  | [] => []
  | t :: ts => canT f t :: canTs f ts
end
theorem canT_var (f : Int → Int) {t : Tm} (h : t.kind = 3) : canT f t = .mk 3 ⟨#[]⟩ (f t.n) [] := by cases t; rw [canT]; exact if_pos h
theorem canT_not (f : Int → Int) {t : Tm} (h : ¬ t.kind = 3) : canT f t = .mk t.kind t.name t.n (canTs f t.args) := by cases t; rw [canT]; exact if_neg h
theorem canTs_eq (f : Int → Int) (ts : List Tm) : canTs f ts = ts.map (canT f) := by
  induction ts with
  | nil => rw [canTs]; rfl
  | cons t ts ih => rw [canTs, ih]; rfl

/-- One row, written down to be appended. -/
theorem own_row {B base sz : Nat} {e e' : TypeId} {w : World} {y : Value} {rs : List (List At)} {row : List At} {cs : Array Value} (hsz : cs.size = sz) (h : OwnD B base e sz w y rs) (hs : base ≤ w.heap.size) (hx : All2 (Mem (fun b => Nw B base w.heap.size b ∧ y.ownBlock ≠ some b) w) row cs.toList) :
    Mem (fun b => Nw B base (w.alloc (.cells cs e')).heap.size b ∧ y.ownBlock ≠ some b) (w.alloc (.cells cs e')) (.s sz [row]) (.slice (some ⟨w.heap.size, 0, none⟩) 1 1) := by
  have hb := Bo.new w e' cs
  have hr : All2 (Mem (fun b => Nw B base (w.alloc (.cells cs e')).heap.size b ∧ y.ownBlock ≠ some b) (w.alloc (.cells cs e'))) row cs.toList :=
    hx.imp fun x v hm => hm.mono (fun b ⟨⟨h1, h2⟩, h3⟩ => ⟨⟨h1, by rw [World.size_alloc]; omega⟩, h3⟩) (fun b ⟨⟨_, h2⟩, _⟩ => (below_new w _).block b h2)
  have hlen : row.length = sz := by rw [hx.len, Array.length_toList]; exact hsz
  refine .s w.heap.size 0 1 1 sz _ (fun _ j => (cs[j]?).getD undef) rfl (Nat.le_refl _) (by decide) ⟨⟨.inr hs, by rw [World.size_alloc]; omega⟩, fun e => by have := h.lt _ e; omega⟩ (fun i hi => ?_) (fun i j hi hj => ?_) (fun i j hi hj => ?_)
  · obtain rfl : i = 0 := by simpa using hi
    simpa using hlen
  · obtain rfl : i = 0 := by omega
    simp only [Nat.zero_mul, Nat.zero_add]
    refine hb.cell ?_
    have : j < cs.size := by omega
    rw [Array.getElem?_eq_getElem this]; rfl
  · obtain rfl : i = 0 := by simpa using hi
    have hj' : j < row.length := hj
    have hc : j < cs.size := by omega
    have := hr.at j hj' (by rw [Array.length_toList]; exact hc)
    rw [Array.getElem?_eq_getElem hc]
    simpa using this
/-- A slice of nothing leads nowhere. -/
theorem Mem.none_to {S S' : Nat → Prop} {w w' : World} {sz n cap : Nat} {a : Option Addr} (h : Mem S w (.s sz []) (.slice a n cap)) : Mem S' w' (.s sz []) (.slice a n cap) := by
  have hl := h.len
  obtain rfl : 0 = n := hl.1
  exact .e _ _ _ hl.2.2
/-- What stands for the variables of a list: each its place. -/
def bindRow (n : Int) (i : Nat) : List At := [.v (.int .i64 n), .v (.int .i64 3), .v (.string ⟨#[]⟩), .v (.int .i64 i), .s 4 []]
def bindRows (V : List Int) (k : Nat) : List (List At) := (List.range k).map fun i => bindRow (V.getD i 0) i
theorem bindRows_len (V : List Int) (k : Nat) : (bindRows V k).length = k := by simp [bindRows]
theorem bindRows_succ {V : List Int} {k : Nat} {x : Int} (h : V[k]? = some x) : bindRows V (k + 1) = bindRows V k ++ [bindRow x k] := by
  unfold bindRows
  rw [List.range_succ, List.map_append, List.map_cons, List.map_nil, List.getD_eq_getElem?_getD, h]
  rfl
theorem bind_at {S : Nat → Prop} {w : World} {V : List Int} {k : Nat} {a : Option Addr} {n cap : Nat} (h : Mem S w (.s 5 (bindRows V k)) (.slice a n cap)) (i : Nat) (hi : i < n) :
    ∃ b o a' n' cap', a = some ⟨b, o, none⟩ ∧ S b ∧ w.cell? ⟨b, o + i * 5, none⟩ = some (.int .i64 (V.getD i 0)) ∧ w.cell? ⟨b, o + i * 5 + 1, none⟩ = some (.int .i64 3) ∧ w.cell? ⟨b, o + i * 5 + 2, none⟩ = some (.string ⟨#[]⟩) ∧ w.cell? ⟨b, o + i * 5 + 3, none⟩ = some (.int .i64 i) ∧ w.cell? ⟨b, o + i * 5 + 4, none⟩ = some (.slice a' n' cap') ∧ Hid (Mem S w (.s 4 []) (.slice a' n' cap')) := by
  have hl := h.len.1
  rw [bindRows_len] at hl
  have hi' : i < (bindRows V k).length := by rw [bindRows_len]; omega
  obtain ⟨b, o, ha, hS, _, cs, h2, hc⟩ := Mem.at h i hi'
  have e : (bindRows V k)[i]'hi' = bindRow (V.getD i 0) i := by simp [bindRows]
  rw [e] at h2
  unfold bindRow at h2
  cases h2 with
  | cons g0 h2 => cases h2 with
    | cons g1 h2 => cases h2 with
      | cons g2 h2 => cases h2 with
        | cons g3 h2 => cases h2 with
          | cons g4 h2 => cases h2 with
            | nil =>
              obtain ⟨a', n', cap', rfl, _⟩ := g4.parts
              refine ⟨b, o, a', n', cap', ha, hS, ?_, ?_, ?_, ?_, ?_, Lib.hid g4⟩
              · have := hc 0 (by simp); rw [← g0.val]; exact this
              · have := hc 1 (by simp); rw [← g1.val]; exact this
              · have := hc 2 (by simp); rw [← g2.val]; exact this
              · have := hc 3 (by simp); rw [← g3.val]; exact this
              · have := hc 4 (by simp); exact this
/-- Where a number stands in a list that has it. -/
theorem idx_of {V : List Int} {n : Int} (h : n ∈ V) : ∃ i : Nat, i < V.length ∧ V.getD i 0 = n ∧ (∀ j, j < i → V.getD j 0 ≠ n) ∧ idxI V n = (i : Int) := by
  have hf : V.findIdx (n == ·) < V.length := List.findIdx_lt_length_of_exists ⟨n, h, by simp⟩
  refine ⟨V.findIdx (n == ·), hf, ?_, fun j hj e => ?_, ?_⟩
  · have := List.findIdx_getElem (p := (n == ·)) (xs := V) (w := hf)
    rw [List.getD_eq_getElem?_getD, List.getElem?_eq_getElem hf]
    exact (beq_iff_eq.1 this).symm
  · have h2 := List.not_of_lt_findIdx hj
    have hjl : j < V.length := by omega
    rw [List.getD_eq_getElem?_getD, List.getElem?_eq_getElem hjl] at e
    simp only [Option.getD_some] at e
    rw [e] at h2
    simp at h2
  · refine idxI_at V n _ hf (List.findIdx_getElem (p := (n == ·)) (xs := V) (w := hf)) fun j hj hlt => ?_
    have h2 := List.not_of_lt_findIdx hlt
    simpa using h2
/-- All variables of a term are on the list. -/
def VarsIn (V : List Int) (t : Tm) : Prop := ∀ x ∈ t.all, x.kind = 3 → x.n ∈ V
theorem VarsIn.arg {V : List Int} {t x : Tm} (h : VarsIn V t) (hx : x ∈ t.args) : VarsIn V x := fun y hy hk => h y (Tm.args_all x hx y hy) hk
theorem VarsIn.head {V : List Int} {t : Tm} (h : VarsIn V t) (hk : t.kind = 3) : t.n ∈ V := h t (by rw [Tm.all_eq]; exact List.mem_cons_self ..) hk
end Go.Proofs.Ytppejoccljfblaa

/-
  What hands back a tree (a type, a term): said by where it lies. No condition.
-/
namespace Go.Proofs.Ytppejoccljfblaa
open Go.RowKit

/-- A function's type of these arguments. -/
def funT : List Tm → Tm → Tm
  | [], to => to
  | a :: l, to => Tm.mk 3 ⟨#[]⟩ 0 [a, funT l to]
/-- A type (a term) is handed back; it leads to what was led to, or to what is new. -/
def GivesT (B : Nat) (t : Tm) (w : World) (e : Ending) (w' : World) : Prop :=
  ∃ a n cap, e = .returned (.agg #[.int .i64 t.kind, .string t.name, .int .i64 t.n, .slice a n cap]) ∧ Below w.heap.size w w' ∧ Mem (Nw B w.heap.size w'.heap.size) w' (.s 4 (Tm.rows t.args)) (.slice a n cap)
theorem OwnD.cellAt {B base : Nat} {e : TypeId} {sz : Nat} {w : World} {y : Value} {rs : List (List At)} (h : OwnD B base e sz w y rs) (g j : Nat) (v : Value) (h1 : g < base) (h2 : B ≤ g) : OwnD B base e sz (w.setCell ⟨g, j, none⟩ v) y rs := by
  have hs : (w.setCell ⟨g, j, none⟩ v).heap.size = w.heap.size := by simp [World.setCell]
  obtain ⟨css, ho, hm⟩ := h
  refine ⟨css, ⟨ho.1, ?_⟩, hm.imp fun r cs' ⟨hc, hm⟩ => ⟨hc, hm.imp fun x y' hx => hx.mono (fun b ⟨⟨h1, h3⟩, h2⟩ => ⟨⟨h1, by rw [hs]; exact h3⟩, h2⟩) fun b ⟨⟨h3, _⟩, _⟩ => heap_setCell_other w ⟨g, j, none⟩ b v (by show b ≠ g; rcases h3 with h3 | h3 <;> omega)⟩⟩
  rcases ho.2 with hn | ⟨g', cap, cur, rfl, hb, hgg, rest⟩
  · exact .inl hn
  · exact .inr ⟨g', cap, cur, rfl, hb, (heap_setCell_other w ⟨g, j, none⟩ g' v (by show g' ≠ g; omega)).trans hgg, rest⟩
end Go.Proofs.Ytppejoccljfblaa

/-
  slices.Index, slices.Contains of numbers. No condition but how they lie.
-/
namespace Go.Proofs.Ytppejoccljfblaa
open Go.RowKit

set_option maxRecDepth 100000 in
set_option maxHeartbeats 2000000 in
theorem index_int_any {l : List Int} {n cap : Nat} {a : Option Addr} (s : Int) (w : World) (h : MemW w (.s 1 (intRows l)) (.slice a n cap)) :
    Calls Try.prog 145 #[.slice a n cap, .int .i64 s] w fun e w' => e = .returned (.int .i64 (idxI l s)) ∧ w = w' := by
  have hl := Mem.len h
  rw [intRows_len] at hl
  have HL := Lib.hid hl.1
  have hcap := hl.2.1
  have hmx := hl.2.2
  have H := Lib.hid h
  clear hl h
  go_enter Try.func145, Try.ntmps145
  go_wp2
  go_loop [5, 8] (fun _ i => ∃ k : Nat, k ≤ n ∧ i = .int .i64 k ∧ Hid (∀ j, j < k → l[j]? ≠ some s)) (fun _ i => n - (intOf i).toNat)
  case atStart => exact ⟨0, Nat.zero_le _, rfl, fun j hj => by omega⟩
  case round =>
    obtain ⟨k, hk, rfl, Hn⟩ := hrel
    by_cases hlt : k < n
    · obtain ⟨b, o, x, rfl, _, Hx, hc⟩ := int_at H.out k hlt
      by_cases hx : x = s
      · have HF := Lib.hid (idxn_hit l s x k Hx.out hx Hn.out)
        have e1 : (s == x) = true := by rw [beq_iff_eq]; exact hx.symm
        clear hx
        go_wp2
        go_ret
        exact ⟨ret_int HF.out.symm, rfl⟩
      · have e1 : (s == x) = false := by rw [beq_eq_false_iff_ne]; exact fun e => hx e.symm
        have HN : Hid (∀ j, j < k + 1 → l[j]? ≠ some s) := fun j hj => by
          by_cases e : j = k
          · subst e; rw [Hx.out]; intro e; exact hx (Option.some.inj e)
          · exact Hn.out j (by omega)
        clear hx
        go_wp2
        go_round
        case rel => exact ⟨k + 1, by omega, by go_num, HN.out⟩
        case measure => simp [intOf]; omega
    · have HF := Lib.hid (idxn_miss l s fun j hj => Hn.out j (by rw [HL.out] at hj; omega))
      go_wp2
      go_ret
      exact ⟨ret_int HF.out.symm, rfl⟩
theorem idxn_in (l : List Int) (s : Int) : decide (0 ≤ idxI l s) = decide (s ∈ l) := by
  rw [idxI_ge, Bool.eq_iff_iff, List.any_eq_true, decide_eq_true_eq]
  constructor
  · rintro ⟨x, hx, hs⟩; rw [beq_iff_eq] at hs; subst hs; exact hx
  · intro h; exact ⟨s, h, by rw [beq_iff_eq]⟩
set_option maxRecDepth 100000 in
set_option maxHeartbeats 2000000 in
theorem contains_int_any {l : List Int} {n cap : Nat} {a : Option Addr} (s : Int) (w : World) (h : MemW w (.s 1 (intRows l)) (.slice a n cap)) :
    Calls Try.prog 116 #[.slice a n cap, .int .i64 s] w fun e w' => e = .returned (.bool (decide (s ∈ l))) ∧ w = w' := by
  have HI := Lib.hid (index_int_any s w h)
  have HF := Lib.hid (idxn_in l s)
  clear h
  go_enter Try.func116, Try.ntmps116
  go_wp2_with (first | (go_at_call 145 ; refine HI.out.mono ?_; rintro e w' ⟨rfl, rfl⟩))
  go_ret
  exact ⟨ret_bool HF.out, rfl⟩
end Go.Proofs.Ytppejoccljfblaa
