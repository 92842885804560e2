/-
  Plain laws of answers: those that are the same, each once; alike, as often. No condition but plainness where it is said.
-/
import Derived.Test.YtmadfkofmehfkaaAt26
import Derived.Test.YtmadfkofmehfkaaAt28
import Derived.Test.YtmadfkofmehfkaaAt34
import Derived.Test.YtmadfkofmehfkaaAt37
import Derived.Test.YtmadfkofmehfkaaAt21
namespace Go.Proofs.Ytmadfkofmehfkaa
open Go.RowKit Go.Maps

theorem varsI_noneA (l : List Tm) : (varsI [] l).length = 0 ↔ ∀ x ∈ l, x.kind ≠ 3 := by
  have pos : ∀ (l : List Tm) (v : List Int), 0 < v.length → 0 < (varsI v l).length := by
    intro l
    induction l with
    | nil => intro v h; exact h
    | cons x l ih =>
      intro v h
      have e : varsI v (x :: l) = varsI (if x.kind = 3 then putI v x.n else v) l := rfl
      rw [e]
      refine ih _ ?_
      split
      · unfold putI
        split
        · exact h
        · rw [List.length_append]; omega
      · exact h
  induction l with
  | nil => simp [varsI]
  | cons x l ih =>
    have e : varsI [] (x :: l) = varsI (if x.kind = 3 then putI [] x.n else []) l := rfl
    rw [e]
    by_cases hk : x.kind = 3
    · rw [if_pos hk]
      have hp : 0 < (varsI (putI [] x.n) l).length := pos l _ (by unfold putI; split <;> simp_all)
      constructor
      · intro h2; omega
      · intro h2; exact absurd hk (h2 x (List.mem_cons_self ..))
    · rw [if_neg hk]
      refine Iff.trans ih ?_
      constructor
      · intro h2 y hy
        rcases List.mem_cons.1 hy with rfl | hy
        · exact hk
        · exact h2 y hy
      · intro h2 y hy; exact h2 y (List.mem_cons_of_mem _ hy)
theorem ground_varsA (t : Tm) : (((varsI [] t.all).length : Int) == 0) = groundB t := by
  rw [Bool.eq_iff_iff, beq_iff_eq]
  have h1 : ((varsI [] t.all).length : Int) = 0 ↔ (varsI [] t.all).length = 0 := by omega
  rw [h1, varsI_noneA]
  unfold groundB
  rw [List.all_eq_true]
  constructor
  · intro h x hx; simpa using h x hx
  · intro h x hx; simpa using h x hx
/-- Those that are the same as none ahead. -/
def onceA (l : List Ans) : Nat → List Ans
  | 0 => []
  | k + 1 => match l[k]? with
    | some x => if timesA (l.take k) x = 0 then onceA l k ++ [x] else onceA l k
    | none => onceA l k
theorem onceA_at {l : List Ans} {k : Nat} {x : Ans} (h : l[k]? = some x) : onceA l (k + 1) = if timesA (l.take k) x = 0 then onceA l k ++ [x] else onceA l k := by rw [onceA, h]
theorem onceA_len (l : List Ans) : ∀ k, (onceA l k).length ≤ k
  | 0 => Nat.le_refl _
  | k + 1 => by
    have ih := onceA_len l k
    rw [onceA]
    split
    · split
      · rw [List.length_append]; simp; omega
      · omega
    · omega
theorem onceA_mem (l : List Ans) : ∀ k (y : Ans), y ∈ onceA l k → y ∈ l
  | 0, y, h => by cases h
  | k + 1, y, h => by
    rw [onceA] at h
    split at h
    · rename_i x hx
      split at h
      · rcases List.mem_append.1 h with h | h
        · exact onceA_mem l k y h
        · rw [List.mem_singleton.1 h]; exact List.mem_of_getElem? hx
      · exact onceA_mem l k y h
    · exact onceA_mem l k y h
theorem sameA_symm (x y : Ans) : sameA x y = sameA y x := vari_comm _ _
theorem sameA_trans {l m n : List Ans} (hl : plainA l = true) (hm : plainA m = true) (hn : plainA n = true) {x y z : Ans} (hx : x ∈ l) (hy : y ∈ m) (hz : z ∈ n) (h1 : sameA x y = true) (h2 : sameA y z = true) : sameA x z = true :=
  vari_trans (plainA_at hl hx) (plainA_at hm hy) (plainA_at hn hz) h1 h2
theorem dist_once {l : List Ans} (h : plainA l = true) : ∀ k, k ≤ l.length → distA (l.take k) = onceA l k
  | 0, _ => by rw [List.take_zero, onceA]; rfl
  | k + 1, hk => by
    have ih := dist_once h k (by omega)
    have hx : l[k]? = some l[k] := List.getElem?_eq_getElem (by omega)
    have hxm : l[k] ∈ l := List.getElem_mem _
    rw [distA_at hx, onceA_at hx, ← ih, stepD]
    by_cases h0 : timesA (l.take k) l[k] = 0
    · rw [if_pos h0]
      have hno : (distA (l.take k)).any (fun y => sameA l[k] y) = false := by
        rw [Bool.eq_false_iff]
        intro hany
        obtain ⟨y, hy, e⟩ := List.any_eq_true.1 hany
        have hy2 := distA_mem hy
        have h1 := (List.countP_eq_zero.1 h0) y hy2
        rw [sameA_symm] at h1
        exact h1 e
      rw [hno]; rfl
    · rw [if_neg h0]
      have hpos : 0 < timesA (l.take k) l[k] := by omega
      obtain ⟨y, hy, e⟩ := List.countP_pos_iff.1 hpos
      have hyl : y ∈ l := List.mem_of_mem_take hy
      obtain ⟨z, hz, e2⟩ := foldD_has (l.take k) [] y hy (fun w hw => same_refl h w (List.mem_of_mem_take hw))
      have hz2 : z ∈ distA (l.take k) := hz
      have hany : (distA (l.take k)).any (fun y => sameA l[k] y) = true := List.any_eq_true.2 ⟨z, hz2, sameA_trans h h h hxm hyl (List.mem_of_mem_take (distA_mem hz2)) (by rw [sameA_symm]; exact e) e2⟩
      rw [hany]; rfl
theorem times_cons (x : Ans) (l : List Ans) (z : Ans) : timesA (x :: l) z = timesA l z + (if sameA x z then 1 else 0) := by unfold timesA; rw [List.countP_cons]
theorem times_erase (z : Ans) : ∀ (l : List Ans) (i : Nat) (y : Ans), l[i]? = some y → timesA l z = timesA (l.eraseIdx i) z + (if sameA y z then 1 else 0)
  | [], i, y, h => by simp at h
  | x :: l, 0, y, h => by
    have e : x = y := by simpa using h
    subst e
    rw [times_cons, List.eraseIdx_cons_zero]
  | x :: l, i + 1, y, h => by
    have := times_erase z l i y (by simpa using h)
    rw [List.eraseIdx_cons_succ, times_cons, times_cons]
    omega
theorem alike_step {L R : List Ans} (hL : plainA L = true) (hR : plainA R = true) {x : Ans} {left : List Ans} (hx : x ∈ L) (hl : ∀ y ∈ left, y ∈ R) (hany : left.any (fun y => sameA x y) = true) (xs : List Ans) :
    left.findIdx (fun y => sameA x y) < left.length ∧ ∀ z, z ∈ L → (timesA (x :: xs) z = timesA left z ↔ timesA xs z = timesA (left.eraseIdx (left.findIdx fun y => sameA x y)) z) := by
  have hi : left.findIdx (fun y => sameA x y) < left.length := List.findIdx_lt_length.2 (by
    obtain ⟨y, hy, e⟩ := List.any_eq_true.1 hany
    exact ⟨y, hy, e⟩)
  refine ⟨hi, fun z hz => ?_⟩
  have hp : sameA x left[left.findIdx fun y => sameA x y] = true := List.findIdx_getElem (p := fun y => sameA x y) (xs := left) (w := hi)
  have hyR := hl _ (List.getElem_mem hi)
  have hs : sameA x z = sameA left[left.findIdx fun y => sameA x y] z := by
    rw [Bool.eq_iff_iff]
    constructor
    · intro h; exact sameA_trans hR hL hL hyR hx hz (by rw [sameA_symm]; exact hp) h
    · intro h; exact sameA_trans hL hR hL hx hyR hz hp h
  rw [times_cons, times_erase z left _ _ (List.getElem?_eq_getElem hi), hs]
  omega
/-- Each found and taken out: as often. -/
theorem alikeG_to {L R : List Ans} (hL : plainA L = true) (hR : plainA R = true) : ∀ (a left : List Ans), (∀ x ∈ a, x ∈ L) → (∀ y ∈ left, y ∈ R) → a.length = left.length → alikeG a left = true → ∀ z ∈ L, timesA a z = timesA left z
  | [], left, _, _, hlen, _, z, _ => by
    have : left = [] := List.length_eq_zero_iff.1 hlen.symm
    rw [this]
  | x :: xs, left, ha, hl, hlen, h, z, hz => by
    rw [alikeG] at h
    split at h
    · rename_i hany
      obtain ⟨hi, hst⟩ := alike_step hL hR (ha x (List.mem_cons_self ..)) hl hany xs
      rw [hst z hz]
      exact alikeG_to hL hR xs _ (fun u hu => ha u (List.mem_cons_of_mem _ hu)) (fun u hu => hl u (List.mem_of_mem_eraseIdx hu)) (by rw [List.length_eraseIdx_of_lt hi]; simp only [List.length_cons] at hlen; omega) h z hz
    · cases h
theorem alikeG_of {L R : List Ans} (hL : plainA L = true) (hR : plainA R = true) : ∀ (a left : List Ans), (∀ x ∈ a, x ∈ L) → (∀ y ∈ left, y ∈ R) → (∀ x ∈ a, timesA a x = timesA left x) → alikeG a left = true
  | [], left, _, _, _ => by rw [alikeG]
  | x :: xs, left, ha, hl, h => by
    have hxL := ha x (List.mem_cons_self ..)
    have hxx : sameA x x = true := same_refl hL x hxL
    have h1 := h x (List.mem_cons_self ..)
    rw [times_cons, hxx, if_pos rfl] at h1
    have hany : left.any (fun y => sameA x y) = true := by
      have hpos : 0 < timesA left x := by omega
      obtain ⟨y, hy, e⟩ := List.countP_pos_iff.1 hpos
      exact List.any_eq_true.2 ⟨y, hy, by rw [sameA_symm]; exact e⟩
    rw [alikeG, if_pos hany]
    obtain ⟨hi, hst⟩ := alike_step hL hR hxL hl hany xs
    exact alikeG_of hL hR xs _ (fun u hu => ha u (List.mem_cons_of_mem _ hu)) (fun u hu => hl u (List.mem_of_mem_eraseIdx hu)) fun z hz => (hst z (ha z (List.mem_cons_of_mem _ hz))).1 (h z (List.mem_cons_of_mem _ hz))
theorem alike_eq {a b : List Ans} (ha : plainA a = true) (hb : plainA b = true) : alikeA a b = ralikeA a b := by
  unfold alikeA ralikeA
  by_cases hl : a.length = b.length
  · rw [decide_eq_true hl, Bool.true_and, Bool.true_and, Bool.eq_iff_iff, List.all_eq_true]
    constructor
    · intro h x hx
      rw [beq_iff_eq]
      exact alikeG_to ha hb a b (fun _ h => h) (fun _ h => h) hl h x hx
    · intro h
      exact alikeG_of ha hb a b (fun _ h => h) (fun _ h => h) fun x hx => by have := h x hx; rwa [beq_iff_eq] at this
  · rw [decide_eq_false hl, Bool.false_and, Bool.false_and]
theorem covered_all (a b : List Ans) : coveredA a b = a.all fun x => b.any fun y => instA y x := by
  unfold coveredA
  rw [List.not_any_eq_all_not]
  simp
end Go.Proofs.Ytmadfkofmehfkaa
