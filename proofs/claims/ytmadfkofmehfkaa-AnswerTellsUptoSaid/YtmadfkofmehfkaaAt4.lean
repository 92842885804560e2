/-
  The order of terms: plain law. No condition.
-/
import Derived.Test.YtmadfkofmehfkaaAt3
namespace Go.Proofs.Ytmadfkofmehfkaa
open Go.RowKit

def cmpI (a b : Int) : Int := if a < b then -1 else if b < a then 1 else 0
def cmpS (a b : ByteArray) : Int := if Op.bytesLess a.toList b.toList then -1 else if a = b then 0 else 1
/-- The first that isn't 0. -/
def lx (a b : Int) : Int := if a = 0 then b else a
mutual
def cmpT : Tm → Tm → Int
  | .mk k s n ts, .mk k' s' n' us => lx (cmpI k k') (lx (cmpI n n') (lx (cmpS s s') (lx (cmpI ts.length us.length) (cmpTs ts us))))
def cmpTs : List Tm → List Tm → Int
  | [], [] => 0
  | [], _ :: _ => -1
  | _ :: _, [] => 1
  | t :: ts, u :: us => lx (cmpT t u) (cmpTs ts us)
end
theorem cmpT_eq (t u : Tm) : cmpT t u = lx (cmpI t.kind u.kind) (lx (cmpI t.n u.n) (lx (cmpS t.name u.name) (lx (cmpI t.args.length u.args.length) (cmpTs t.args u.args)))) := by
  cases t; cases u; rw [cmpT]; rfl

/-- What three comparisons of three things are. -/
def T3 (x y z : Int) : Prop :=
  (-1 ≤ x ∧ x ≤ 1) ∧ (-1 ≤ y ∧ y ≤ 1) ∧ (-1 ≤ z ∧ z ≤ 1) ∧ (x ≤ 0 → y ≤ 0 → z ≤ 0) ∧ (x < 0 → y ≤ 0 → z < 0) ∧ (x ≤ 0 → y < 0 → z < 0) ∧ (0 ≤ x → 0 ≤ y → 0 ≤ z) ∧ (0 < x → 0 ≤ y → 0 < z) ∧ (0 ≤ x → 0 < y → 0 < z)
theorem lx_zero (b : Int) : lx 0 b = b := if_pos rfl
theorem lx_not {a : Int} (h : ¬ a = 0) (b : Int) : lx a b = a := if_neg h
theorem T3.lex {x y z x' y' z' : Int} (h : T3 x y z) (k : T3 x' y' z') : T3 (lx x x') (lx y y') (lx z z') := by
  have h0 := h
  obtain ⟨hx, hy, hz, a1, a2, a3, a4, a5, a6⟩ := h
  have e1 : x = 0 → y = z := by omega
  have e2 : y = 0 → x = z := by omega
  have e3 : z = 0 → x = -y := by omega
  clear a1 a2 a3 a4 a5 a6
  have k0 := k
  obtain ⟨kx, ky, kz, _⟩ := k
  by_cases x0 : x = 0
  · subst x0
    by_cases y0 : y = 0
    · subst y0
      obtain rfl := e1 rfl
      rw [lx_zero, lx_zero, lx_zero]; exact k0
    · obtain rfl := e1 rfl
      rw [lx_zero, lx_not y0, lx_not y0]
      clear h0 k0 e1 e2 e3
      unfold T3; omega
  · by_cases y0 : y = 0
    · subst y0
      obtain rfl := e2 rfl
      rw [lx_zero, lx_not x0, lx_not x0]
      clear h0 k0 e1 e2 e3
      unfold T3; omega
    · by_cases z0 : z = 0
      · have := e3 z0
        rw [lx_not x0, lx_not y0, z0, lx_zero]
        clear h0 k0 e1 e2 e3
        unfold T3; omega
      · rw [lx_not x0, lx_not y0, lx_not z0]; exact h0
theorem lx_neg (a b : Int) : lx (-a) (-b) = - lx a b := by
  unfold lx; split <;> split <;> omega
theorem cmpI_neg (a b : Int) : cmpI a b = - cmpI b a := by unfold cmpI; split <;> split <;> omega
theorem cmpI_3 (a b c : Int) : T3 (cmpI a b) (cmpI b c) (cmpI a c) := by
  unfold T3 cmpI
  repeat' split
  all_goals omega
theorem cmpI_self (a : Int) : cmpI a a = 0 := by unfold cmpI; split <;> omega

theorem less_irr (a : List UInt8) : Op.bytesLess a a = false := by
  induction a with
  | nil => rfl
  | cons x a ih => simp [Op.bytesLess, ih]
theorem less_trans : ∀ (a b c : List UInt8), Op.bytesLess a b = true → Op.bytesLess b c = true → Op.bytesLess a c = true
  | _, [], _, h, _ => by simp [Op.bytesLess] at h
  | _, _ :: _, [], _, h => by simp [Op.bytesLess] at h
  | [], _ :: _, _ :: _, _, _ => rfl
  | x :: a, y :: b, z :: c, h, k => by
    simp only [Op.bytesLess, Bool.or_eq_true, Bool.and_eq_true, beq_iff_eq, decide_eq_true_eq] at h k ⊢
    rcases h with h | ⟨rfl, h⟩
    · rcases k with k | ⟨rfl, k⟩
      · exact .inl (UInt8.lt_trans h k)
      · exact .inl h
    · rcases k with k | ⟨rfl, k⟩
      · exact .inl k
      · exact .inr ⟨rfl, less_trans a b c h k⟩
theorem less_tri : ∀ (a b : List UInt8), Op.bytesLess a b = true ∨ a = b ∨ Op.bytesLess b a = true
  | [], [] => .inr (.inl rfl)
  | [], _ :: _ => .inl rfl
  | _ :: _, [] => .inr (.inr rfl)
  | x :: a, y :: b => by
    simp only [Op.bytesLess, Bool.or_eq_true, Bool.and_eq_true, beq_iff_eq, decide_eq_true_eq]
    rcases Nat.lt_trichotomy x.toNat y.toNat with h | h | h
    · exact .inl (.inl (UInt8.lt_iff_toNat_lt.2 h))
    · have e := UInt8.toNat_inj.1 h
      subst e
      rcases less_tri a b with h | h | h
      · exact .inl (.inr ⟨rfl, h⟩)
      · exact .inr (.inl (by rw [h]))
      · exact .inr (.inr (.inr ⟨rfl, h⟩))
    · exact .inr (.inr (.inl (UInt8.lt_iff_toNat_lt.2 h)))
theorem toList_inj {a b : ByteArray} (h : a.toList = b.toList) : a = b := by
  rw [Lib.toList_data, Lib.toList_data] at h
  cases a; cases b; simp at h; rw [h]
theorem cmpS_cases (a b : ByteArray) : (cmpS a b = -1 ∧ Op.bytesLess a.toList b.toList = true) ∨ (cmpS a b = 0 ∧ a = b) ∨ (cmpS a b = 1 ∧ Op.bytesLess b.toList a.toList = true) := by
  unfold cmpS
  rcases less_tri a.toList b.toList with h | h | h
  · exact .inl ⟨by rw [if_pos h], h⟩
  · have := toList_inj h
    subst this
    exact .inr (.inl ⟨by rw [if_neg (by rw [less_irr]; decide), if_pos rfl], rfl⟩)
  · refine .inr (.inr ⟨?_, h⟩)
    rw [if_neg, if_neg]
    · rintro rfl; rw [less_irr] at h; cases h
    · intro h'; have := less_trans _ _ _ h h'; rw [less_irr] at this; cases this
theorem not_both {a b : List UInt8} (h : Op.bytesLess a b = true) (k : Op.bytesLess b a = true) : False := by
  have := less_trans _ _ _ h k; rw [less_irr] at this; cases this
theorem cmpS_neg (a b : ByteArray) : cmpS a b = - cmpS b a := by
  rcases cmpS_cases a b with ⟨h, k⟩ | ⟨h, e⟩ | ⟨h, k⟩
  · rcases cmpS_cases b a with ⟨h', k'⟩ | ⟨h', e⟩ | ⟨h', k'⟩
    · exact (not_both k k').elim
    · subst e; rw [less_irr] at k; cases k
    · omega
  · subst e; rw [h]; rfl
  · rcases cmpS_cases b a with ⟨h', k'⟩ | ⟨h', e⟩ | ⟨h', k'⟩
    · omega
    · subst e; rw [less_irr] at k; cases k
    · exact (not_both k k').elim
theorem cmpS_self (a : ByteArray) : cmpS a a = 0 := by have := cmpS_neg a a; omega
theorem cmpS_3 (a b c : ByteArray) : T3 (cmpS a b) (cmpS b c) (cmpS a c) := by
  unfold T3
  rcases cmpS_cases a b with ⟨h, k⟩ | ⟨h, e⟩ | ⟨h, k⟩
  · rcases cmpS_cases b c with ⟨h', k'⟩ | ⟨h', e⟩ | ⟨h', k'⟩
    · have := less_trans _ _ _ k k'
      have e : cmpS a c = -1 := by unfold cmpS; rw [if_pos this]
      omega
    · subst e; rw [h, h']; omega
    · rcases cmpS_cases a c with ⟨e, _⟩ | ⟨e, _⟩ | ⟨e, _⟩ <;> omega
  · subst e
    rcases cmpS_cases a c with ⟨e, _⟩ | ⟨e, _⟩ | ⟨e, _⟩ <;> (rw [cmpS_self, e]; omega)
  · rcases cmpS_cases b c with ⟨h', k'⟩ | ⟨h', e⟩ | ⟨h', k'⟩
    · rcases cmpS_cases a c with ⟨e, _⟩ | ⟨e, _⟩ | ⟨e, _⟩ <;> omega
    · subst e; rw [h, h']; omega
    · have := less_trans _ _ _ k' k
      have h2 : cmpS c a = -1 := by unfold cmpS; rw [if_pos this]
      have := cmpS_neg a c
      omega

theorem cmpTs_neg_of (ts : List Tm) (h : ∀ t ∈ ts, ∀ u, cmpT t u = - cmpT u t) : ∀ us, cmpTs ts us = - cmpTs us ts := by
  induction ts with
  | nil => intro us; cases us <;> simp [cmpTs]
  | cons t ts ih =>
    intro us
    cases us with
    | nil => simp [cmpTs]
    | cons u us => rw [cmpTs, cmpTs, h t (List.mem_cons_self ..) u, ih (fun t ht => h t (List.mem_cons_of_mem _ ht)) us, lx_neg]
theorem cmpT_neg_size (m : Nat) : ∀ t, t.size ≤ m → ∀ u, cmpT t u = - cmpT u t := by
  induction m with
  | zero => intro t h; have := t.size_pos; omega
  | succ m ih =>
    intro t h u
    rw [cmpT_eq, cmpT_eq, cmpI_neg t.kind, cmpI_neg t.n, cmpS_neg t.name, cmpI_neg t.args.length, cmpTs_neg_of t.args (fun x hx u => ih x (by have := Tm.size_arg hx; omega) u), lx_neg, lx_neg, lx_neg, lx_neg]
theorem cmpT_neg (t u : Tm) : cmpT t u = - cmpT u t := cmpT_neg_size t.size t (Nat.le_refl _) u
theorem cmpT_self (t : Tm) : cmpT t t = 0 := by have := cmpT_neg t t; omega

def R1 (x : Int) : Prop := -1 ≤ x ∧ x ≤ 1
theorem R1.lex {x y : Int} (h : R1 x) (k : R1 y) : R1 (lx x y) := by unfold lx; split <;> assumption
theorem cmpTs_r_of (ts : List Tm) (h : ∀ t ∈ ts, ∀ u, R1 (cmpT t u)) : ∀ us, R1 (cmpTs ts us) := by
  induction ts with
  | nil => intro us; cases us <;> simp [cmpTs, R1]
  | cons t ts ih =>
    intro us
    cases us with
    | nil => simp [cmpTs, R1]
    | cons u us => rw [cmpTs]; exact (h t (List.mem_cons_self ..) u).lex (ih (fun t ht => h t (List.mem_cons_of_mem _ ht)) us)
theorem cmpT_r_size (m : Nat) : ∀ t, t.size ≤ m → ∀ u, R1 (cmpT t u) := by
  induction m with
  | zero => intro t h; have := t.size_pos; omega
  | succ m ih =>
    intro t h u
    rw [cmpT_eq]
    exact (cmpI_3 _ _ 0).1 |> fun h1 => R1.lex h1 (R1.lex (cmpI_3 _ _ 0).1 (R1.lex (cmpS_3 _ _ ⟨#[]⟩).1 (R1.lex (cmpI_3 _ _ 0).1 (cmpTs_r_of t.args (fun x hx u => ih x (by have := Tm.size_arg hx; omega) u) _))))
theorem cmpT_r (t u : Tm) : R1 (cmpT t u) := cmpT_r_size t.size t (Nat.le_refl _) u
theorem cmpTs_r (ts us : List Tm) : R1 (cmpTs ts us) := cmpTs_r_of ts (fun t _ u => cmpT_r t u) us
theorem cmpTs_3_of (ts : List Tm) (h : ∀ t ∈ ts, ∀ u v, T3 (cmpT t u) (cmpT u v) (cmpT t v)) : ∀ us vs, T3 (cmpTs ts us) (cmpTs us vs) (cmpTs ts vs) := by
  induction ts with
  | nil =>
    intro us vs
    have hr := cmpTs_r us vs
    unfold R1 at hr
    cases us <;> cases vs <;> unfold T3 <;> simp only [cmpTs] at * <;> omega
  | cons t ts ih =>
    intro us vs
    have hr := cmpTs_r (t :: ts) vs
    have hr' := cmpTs_r (t :: ts) us
    unfold R1 at hr hr'
    cases us with
    | nil => cases vs <;> unfold T3 <;> simp only [cmpTs] at * <;> omega
    | cons u us =>
      cases vs with
      | nil => unfold T3; simp only [cmpTs] at *; omega
      | cons v vs => rw [cmpTs, cmpTs, cmpTs]; exact T3.lex (h t (List.mem_cons_self ..) u v) (ih (fun t ht => h t (List.mem_cons_of_mem _ ht)) us vs)
theorem cmpT_3_size (m : Nat) : ∀ t, t.size ≤ m → ∀ u v, T3 (cmpT t u) (cmpT u v) (cmpT t v) := by
  induction m with
  | zero => intro t h; have := t.size_pos; omega
  | succ m ih =>
    intro t h u v
    rw [cmpT_eq t u, cmpT_eq u v, cmpT_eq t v]
    exact T3.lex (cmpI_3 _ _ _) (T3.lex (cmpI_3 _ _ _) (T3.lex (cmpS_3 _ _ _) (T3.lex (cmpI_3 _ _ _) (cmpTs_3_of t.args (fun x hx u v => ih x (by have := Tm.size_arg hx; omega) u v) _ _))))
/-- The order goes through a third one. -/
theorem cmpT_3 (t u v : Tm) : T3 (cmpT t u) (cmpT u v) (cmpT t v) := cmpT_3_size t.size t (Nat.le_refl _) u v
end Go.Proofs.Ytmadfkofmehfkaa

/-
  Lists of texts in memory; where a text stands in one. No condition but how they lie.
-/
namespace Go.Proofs.Ytmadfkofmehfkaa
open Go.RowKit
attribute [local go_sem] toList_beq

def strRows (l : List ByteArray) : List (List At) := l.map fun s => [.v (.string s)]
theorem strRows_len (l : List ByteArray) : (strRows l).length = l.length := by simp [strRows]
theorem str_at {S : Nat → Prop} {w : World} {l : List ByteArray} {a : Option Addr} {n cap : Nat} (h : Mem S w (.s 1 (strRows l)) (.slice a n cap)) (i : Nat) (hi : i < n) :
    ∃ b o s, a = some ⟨b, o, none⟩ ∧ S b ∧ Hid (l[i]? = some s) ∧ w.cell? ⟨b, o + i, none⟩ = some (.string s) := by
  have hl := h.len.1
  rw [strRows_len] at hl
  obtain ⟨b, o, ha, hS, _, cs, h2, hc⟩ := Mem.at h i (by rw [strRows_len]; omega)
  have e : (strRows l)[i]'(by rw [strRows_len]; omega) = [.v (.string (l[i]'(by omega)))] := by simp [strRows]
  rw [e] at h2
  cases h2 with
  | cons h0 h => cases h with
    | nil =>
      have := hc 0 (by simp)
      rw [Nat.mul_one, Nat.add_zero] at this
      exact ⟨b, o, l[i]'(by omega), ha, hS, Lib.hid (List.getElem?_eq_getElem (by omega)), by rw [this]; simp [h0.val]⟩

theorem idx_hit (l : List ByteArray) (s x : ByteArray) (k : Nat) (h : l[k]? = some x) (hx : x = s) (hn : ∀ j, j < k → l[j]? ≠ some s) : idxI l s = k := by
  obtain ⟨hk, rfl⟩ := List.getElem?_eq_some_iff.1 h
  refine idxI_at l s k hk (by rw [beq_iff_eq]; exact hx.symm) fun j hj hjk => ?_
  rw [beq_eq_false_iff_ne]
  intro e
  exact hn j hjk (by rw [List.getElem?_eq_getElem hj, e])
theorem idx_miss (l : List ByteArray) (s : ByteArray) (hn : ∀ j, j < l.length → l[j]? ≠ some s) : idxI l s = -1 := by
  refine idxI_no l s fun j hj => ?_
  rw [beq_eq_false_iff_ne]
  intro e
  exact hn j hj (by rw [List.getElem?_eq_getElem hj, e])
end Go.Proofs.Ytmadfkofmehfkaa
