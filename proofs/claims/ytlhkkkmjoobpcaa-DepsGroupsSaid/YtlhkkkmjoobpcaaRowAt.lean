/-
  A row of slices of numbers of the call's own, whose numbers lie as they lay in an earlier world. Plain lemmas. No condition.
-/
import Derived.Test.YtlhkkkmjoobpcaaGroups0
import Derived.Test.YtlhkkkmjoobpcaaDelete1
namespace Go.Proofs.Ytlhkkkmjoobpcaa
open Go.RowKit

def vrows (vs : List Value) : List (List At) := vs.map fun v => [.v v]
theorem vrows_len (vs : List Value) : (vrows vs).length = vs.length := by simp [vrows]
theorem vrows_erase (vs : List Value) : ∀ i : Nat, (vrows vs).eraseIdx i = vrows (vs.eraseIdx i) := by
  induction vs with
  | nil => intro i; rfl
  | cons x l ih =>
    intro i
    cases i with
    | zero => rfl
    | succ i => show _ :: (vrows l).eraseIdx i = _ :: vrows (l.eraseIdx i); rw [ih]
theorem vrows_css {S : Nat → Prop} {w : World} : ∀ {vs : List Value} {css : List (List Value)}, All2 (fun r cs => cs.length = 1 ∧ All2 (Mem S w) r cs) (vrows vs) css → css = vs.map fun v => [v]
  | [], _, h => by cases h; rfl
  | x :: xs, _, h => by
    rw [show vrows (x :: xs) = [.v x] :: vrows xs from rfl] at h
    cases h with
    | cons h0 h =>
      obtain ⟨_, h1⟩ := h0
      cases h1 with
      | cons h2 h3 =>
        cases h3
        rw [vrows_css h, h2.val]; rfl
theorem vrows_one {S : Nat → Prop} {w : World} : ∀ {vs : List Value} {css : List (List Value)}, All2 (fun r cs => cs.length = 1 ∧ All2 (Mem S w) r cs) (vrows vs) css → ∀ v ∈ vs, v.oneCell' = true
  | [], _, _, v, hv => by cases hv
  | x :: xs, _, h, v, hv => by
    rw [show vrows (x :: xs) = [.v x] :: vrows xs from rfl] at h
    cases h with
    | cons h0 h =>
      obtain ⟨_, h1⟩ := h0
      cases h1 with
      | cons h2 h3 =>
        rcases List.mem_cons.1 hv with rfl | hv
        · have := h2.one
          rwa [h2.val] at this
        · exact vrows_one h v hv
theorem vrows_all {S : Nat → Prop} {w : World} : ∀ {vs : List Value}, (∀ v ∈ vs, v.oneCell' = true) → All2 (fun r cs => cs.length = 1 ∧ All2 (Mem S w) r cs) (vrows vs) (vs.map fun v => [v])
  | [], _ => .nil
  | x :: xs, h => .cons ⟨rfl, .cons (.v _ (h x (List.mem_cons_self ..))) .nil⟩ (vrows_all fun v hv => h v (List.mem_cons_of_mem _ hv))
theorem OwnD.keepV {base : Nat} {e : TypeId} {w w' : World} {y : Value} {vs : List Value} (h : OwnD 0 base e 1 w y (vrows vs)) (hk : ∀ k, y.ownBlock = some k → w'.heap[k]? = w.heap[k]?) : OwnD 0 base e 1 w' y (vrows vs) := by
  obtain ⟨css, ho, hm⟩ := h
  have hc := vrows_css hm
  have h1 := vrows_one hm
  subst hc
  refine ⟨_, ⟨ho.1, ?_⟩, vrows_all h1⟩
  rcases ho.2 with h | ⟨g, cap, cur, h1, hb, hgg, rest⟩
  · exact .inl h
  · exact .inr ⟨g, cap, cur, h1, hb, (hk g (by rw [h1]; rfl)).trans hgg, rest⟩
def RowAt (w2 : World) (S0 : Nat → Prop) (base : Nat) (w : World) (y : Value) (gs : List (List Int)) : Prop :=
  ∃ vs, OwnD 0 base 27 1 w y (vrows vs) ∧ All2 (fun g v => Mem S0 w2 (.s 1 (intRows g)) v) gs vs
theorem gr_css {S : Nat → Prop} {w : World} : ∀ {gs : List (List Int)} {css : List (List Value)}, All2 (fun r cs => cs.length = 1 ∧ All2 (Mem S w) r cs) (grRows gs) css → ∃ vs : List Value, css = vs.map (fun v => [v]) ∧ All2 (fun g v => Mem S w (.s 1 (intRows g)) v) gs vs
  | [], _, h => by cases h; exact ⟨[], rfl, .nil⟩
  | g :: gs, _, h => by
    rw [show grRows (g :: gs) = [.s 1 (intRows g)] :: grRows gs from rfl] at h
    cases h with
    | cons h0 h =>
      obtain ⟨_, h1⟩ := h0
      cases h1 with
      | @cons _ v _ _ h2 h3 =>
        cases h3
        obtain ⟨vs, rfl, hv⟩ := gr_css h
        exact ⟨v :: vs, rfl, .cons h2 hv⟩
theorem gr_all {S S' : Nat → Prop} {w w' : World} (hm : ∀ g v, Mem S w (.s 1 (intRows g)) v → Mem S' w' (.s 1 (intRows g)) v) : ∀ {gs : List (List Int)} {vs : List Value}, All2 (fun g v => Mem S w (.s 1 (intRows g)) v) gs vs → All2 (fun r cs => cs.length = 1 ∧ All2 (Mem S' w') r cs) (grRows gs) (vs.map fun v => [v])
  | [], _, h => by cases h; exact .nil
  | g :: gs, _, h => by
    cases h with
    | cons h0 h => exact .cons ⟨rfl, .cons (hm _ _ h0) .nil⟩ (gr_all hm h)
theorem all2_one {S : Nat → Prop} {w : World} {gs : List (List Int)} {vs : List Value} (h : All2 (fun g v => Mem S w (.s 1 (intRows g)) v) gs vs) : ∀ v ∈ vs, v.oneCell' = true := by
  induction h with
  | nil => intro v hv; cases hv
  | cons h0 _ ih =>
    intro v hv
    rcases List.mem_cons.1 hv with rfl | hv
    · exact h0.one
    · exact ih v hv
theorem RowAt.of {base : Nat} {w : World} {y : Value} {gs : List (List Int)} (h : OwnD 0 base 27 1 w y (grRows gs)) : RowAt w (fun b => Nw 0 base w.heap.size b ∧ y.ownBlock ≠ some b) base w y gs := by
  obtain ⟨css, ho, hm⟩ := h
  obtain ⟨vs, rfl, hv⟩ := gr_css hm
  have hl := hv.len
  have h1 := all2_one hv
  refine ⟨vs, ⟨vs.map (fun v => [v]), ?_, vrows_all h1⟩, hv⟩
  have e : (vrows vs).length = (grRows gs).length := by rw [vrows_len, grRows_len, hl]
  rw [e]
  exact ho
theorem RowAt.nil (w2 : World) (S0 : Nat → Prop) (base : Nat) (w : World) : RowAt w2 S0 base w (.slice none 0 0) [] := ⟨[], OwnD.nil _ _ _ _ _, .nil⟩
theorem RowAt.form {w2 w : World} {S0 : Nat → Prop} {base : Nat} {y : Value} {gs : List (List Int)} (h : RowAt w2 S0 base w y gs) : ∃ a cap, y = .slice a gs.length cap ∧ gs.length ≤ cap ∧ cap ≤ 9223372036854775807 := by
  obtain ⟨vs, h1, h2⟩ := h
  obtain ⟨a, c, e, h3, h4⟩ := h1.form
  have hl := h2.len
  rw [vrows_len, ← hl] at e h3
  exact ⟨a, c, e, h3, h4⟩
theorem RowAt.lt {w2 w : World} {S0 : Nat → Prop} {base : Nat} {y : Value} {gs : List (List Int)} (h : RowAt w2 S0 base w y gs) : ∀ k, y.ownBlock = some k → base ≤ k ∧ k < w.heap.size := by
  obtain ⟨vs, h1, _⟩ := h
  exact h1.lt
theorem RowAt.keep {w2 w w' : World} {S0 : Nat → Prop} {base : Nat} {y : Value} {gs : List (List Int)} (h : RowAt w2 S0 base w y gs) (hk : ∀ k, y.ownBlock = some k → w'.heap[k]? = w.heap[k]?) : RowAt w2 S0 base w' y gs := by
  obtain ⟨vs, h1, h2⟩ := h
  exact ⟨vs, h1.keepV hk, h2⟩
/-- As it reads. -/
theorem RowAt.mem {w2 w : World} {S0 : Nat → Prop} {base : Nat} {y : Value} {gs : List (List Int)} (h : RowAt w2 S0 base w y gs) (hS : ∀ b, S0 b → b < w.heap.size ∧ y.ownBlock ≠ some b) (hw : ∀ b, S0 b → w.heap[b]? = w2.heap[b]?) : MemW w (.s 1 (grRows gs)) y := by
  obtain ⟨vs, ⟨css, ho, hm⟩, h2⟩ := h
  have hc := vrows_css hm
  subst hc
  have hl := h2.len
  have h3 : OwnD w.heap.size base 27 1 w y (grRows gs) := by
    refine ⟨vs.map (fun v => [v]), ?_, gr_all (fun g v hv => hv.mono (fun b hb => ⟨⟨.inl (hS b hb).1, (hS b hb).1⟩, (hS b hb).2⟩) fun b hb => hw b hb) h2⟩
    have e : (grRows gs).length = (vrows vs).length := by rw [vrows_len, grRows_len, hl]
    rw [e]
    exact ho
  exact h3.memW
/-- One of them. -/
theorem RowAt.at {w2 w : World} {S0 : Nat → Prop} {base : Nat} {y : Value} {gs : List (List Int)} (h : RowAt w2 S0 base w y gs) {i : Nat} (hi : i < gs.length) :
    ∃ g cap a' n' c', y = .slice (some ⟨g, 0, none⟩) gs.length cap ∧ w.cell? ⟨g, i, none⟩ = some (.slice a' n' c') ∧ Mem S0 w2 (.s 1 (intRows gs[i])) (.slice a' n' c') := by
  obtain ⟨vs, h1, h2⟩ := h
  have hl := h2.len
  obtain ⟨css, ho, hm⟩ := h1
  have hc := vrows_css hm
  subst hc
  have hv := h2.at i hi (by omega)
  obtain ⟨a', n', c', hvi⟩ : ∃ a' n' c', vs[i]'(by omega) = .slice a' n' c' := by
    obtain ⟨a', n', c', e, _⟩ := hv.parts
    exact ⟨a', n', c', e⟩
  rcases ho.2 with ⟨h3, h4⟩ | ⟨g, cap, cur, h3, hb, hgg, h4, h5, h6, h7⟩
  · rw [vrows_len] at h4; omega
  · rw [vrows_len, ← hl] at h3 h4 h7
    refine ⟨g, cap, a', n', c', h3, ?_, by rw [← hvi]; exact hv⟩
    have hc : i < cur.size := by omega
    rw [cell_of_row w g i cur _ (0, 0) hgg, ← hvi]
    have h8 := congrArg (fun l => l[i]?) h7
    have e2 : (vs.map fun v => [v]).flatten = vs := by
      clear h8 h7 ho hm h2 hl hvi hv
      induction vs with
      | nil => rfl
      | cons x xs ih => rw [List.map_cons, List.flatten_cons, ih]; rfl
    rw [e2] at h8
    simp only [List.getElem?_take, Nat.mul_one, if_pos hi, Array.getElem?_toList] at h8
    rw [h8, List.getElem?_eq_getElem (by omega)]
theorem All2.snoc {α β : Type} {R : α → β → Prop} {xs : List α} {ys : List β} {x : α} {y : β} (h : All2 R xs ys) (hx : R x y) : All2 R (xs ++ [x]) (ys ++ [y]) := by
  induction h with
  | nil => exact .cons hx .nil
  | cons h _ ih => exact .cons h ih
theorem far_own {S : Nat → Prop} {w w1 w2 : World} {g : Nat} (h : Far S w w1) (hg : w1.grownBy w2 (some g)) (hs : S g) : Far S w w2 :=
  ⟨hg.os.trans h.os, hg.tape.trans h.tape, hg.output.trans h.output, Nat.le_trans h.size hg.size, fun k hk hS => (hg.block k (Nat.lt_of_lt_of_le hk h.size) (fun e => hS (by have e' : k = g := Option.some.inj e; rw [e']; exact hs))).trans (h.block k hk hS)⟩
theorem far_high {S : Nat → Prop} {w w1 : World} (h : Far S w w1) {p : Addr} (hp : w.heap.size ≤ p.block) (v : Value) : Far S w (w1.setCell p v) :=
  ⟨h.os, h.tape, h.output, by rw [World.size_setCell]; exact h.size, fun k hk hs => (heap_setCell_other w1 p k v (by omega)).trans (h.block k hk hs)⟩
end Go.Proofs.Ytlhkkkmjoobpcaa
