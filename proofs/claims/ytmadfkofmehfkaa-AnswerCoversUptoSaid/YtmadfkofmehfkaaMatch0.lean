/-
  Matching of terms, and what stands for variables: plain laws. No condition but plainness where it is said.
-/
import Derived.Test.YtmadfkofmehfkaaCompare3
namespace Go.Proofs.Ytmadfkofmehfkaa
open Go.RowKit

def look {α : Type} (M : List (Int × α)) (n : Int) : Option α := (M.find? (fun x => x.1 == n)).map (·.2)
theorem look_nil {α : Type} (n : Int) : look ([] : List (Int × α)) n = none := rfl
theorem look_snoc {α : Type} (M : List (Int × α)) (n m : Int) (x : α) : look (M ++ [(n, x)]) m = match look M m with | some y => some y | none => if n = m then some x else none := by
  unfold look
  rw [List.find?_append]
  cases h : M.find? (fun x => x.1 == m) with
  | some y => rfl
  | none =>
    by_cases e : n = m
    · simp [e]
    · simp [e]
mutual
/-- Matching, behind what stands for variables already. -/
def mt : Tm → Tm → List (Int × Tm) → Bool × List (Int × Tm)
  | .mk k s n ts, t, M => if k = 3 then (match look M n with | some x => (cmpT x t == 0, M) | none => (true, M ++ [(n, t)]))
      else if k = t.kind ∧ n = t.n ∧ s = t.name then (if k = 2 then (true, M) else if ts.length = t.args.length then mts ts t.args M else (false, M)) else (false, M)
def mts : List Tm → List Tm → List (Int × Tm) → Bool × List (Int × Tm)
  | [], _, M => (true, M)
  | _ :: _, [], M => (true, M)
  | p :: ps, t :: ts, M => if (mt p t M).1 = true then mts ps ts (mt p t M).2 else (false, (mt p t M).2)
end
mutual
/-- With something for each variable. -/
def sbT (σ : Int → Tm) : Tm → Tm
  | .mk k s n ts => if k = 3 then σ n else .mk k s n (sbTs σ ts)
def sbTs (σ : Int → Tm) : List Tm → List Tm
  | [] => []
  | t :: ts => sbT σ t :: sbTs σ ts
end
theorem sbTs_eq (σ : Int → Tm) (ts : List Tm) : sbTs σ ts = ts.map (sbT σ) := by
  induction ts with
  | nil => rw [sbTs]; rfl
  | cons t ts ih => rw [sbTs, ih]; rfl
/-- Variables and numbers have nothing besides. -/
def Plain (t : Tm) : Prop := ∀ x ∈ t.all, (x.kind = 3 ∨ x.kind = 2) → x.args = [] ∧ x.name = ⟨#[]⟩
theorem Plain.arg {t x : Tm} (h : Plain t) (hx : x ∈ t.args) : Plain x := fun y hy hk => h y (Tm.args_all x hx y hy) hk
theorem Plain.head {t : Tm} (h : Plain t) (hk : t.kind = 3 ∨ t.kind = 2) : t.args = [] ∧ t.name = ⟨#[]⟩ := h t (by rw [Tm.all_eq]; exact List.mem_cons_self ..) hk
def Agr (σ : Int → Tm) (M : List (Int × Tm)) : Prop := ∀ n x, look M n = some x → σ n = x
def Ext (M M' : List (Int × Tm)) : Prop := ∀ n x, look M n = some x → look M' n = some x
theorem Ext.refl (M : List (Int × Tm)) : Ext M M := fun _ _ h => h
theorem Ext.trans {A B C : List (Int × Tm)} (h : Ext A B) (k : Ext B C) : Ext A C := fun n x hx => k n x (h n x hx)
theorem Ext.agr {σ : Int → Tm} {A B : List (Int × Tm)} (h : Ext A B) (k : Agr σ B) : Agr σ A := fun n x hx => k n x (h n x hx)
theorem mt_sound (m : Nat) : ∀ (p t : Tm) (M : List (Int × Tm)), p.size ≤ m → Plain p → Plain t → (mt p t M).1 = true → Ext M (mt p t M).2 ∧ ∀ σ, Agr σ (mt p t M).2 → sbT σ p = t := by
  induction m with
  | zero => intro p _ _ h; have := p.size_pos; omega
  | succ m ih =>
    have ihs : ∀ (ps ts : List Tm) (M : List (Int × Tm)), (∀ x ∈ ps, x.size ≤ m) → (∀ x ∈ ps, Plain x) → (∀ x ∈ ts, Plain x) → ps.length = ts.length → (mts ps ts M).1 = true → Ext M (mts ps ts M).2 ∧ ∀ σ, Agr σ (mts ps ts M).2 → sbTs σ ps = ts := by
      intro ps
      induction ps with
      | nil =>
        intro ts M _ _ _ hl _
        obtain rfl : ts = [] := List.length_eq_zero_iff.1 hl.symm
        exact ⟨by rw [mts]; exact Ext.refl _, fun σ _ => by rw [sbTs]⟩
      | cons p ps ihp =>
        intro ts M h1 h2 h3 hl h
        match ts, hl with
        | t :: ts, hl =>
          rw [mts] at h ⊢
          by_cases hp : (mt p t M).1 = true
          · rw [if_pos hp] at h ⊢
            obtain ⟨a1, a2⟩ := ih p t M (h1 p (List.mem_cons_self ..)) (h2 p (List.mem_cons_self ..)) (h3 t (List.mem_cons_self ..)) hp
            obtain ⟨b1, b2⟩ := ihp ts (mt p t M).2 (fun x hx => h1 x (List.mem_cons_of_mem _ hx)) (fun x hx => h2 x (List.mem_cons_of_mem _ hx)) (fun x hx => h3 x (List.mem_cons_of_mem _ hx)) (by simpa using hl) h
            exact ⟨a1.trans b1, fun σ hσ => by rw [sbTs, a2 σ (b1.agr hσ), b2 σ hσ]⟩
          · rw [if_neg hp] at h
            cases h
    intro p t M hm hP hT h
    obtain ⟨k, s, n, ts⟩ := p
    rw [mt] at h ⊢
    by_cases hk : k = 3
    · rw [if_pos hk] at h ⊢
      cases hl : look M n with
      | some x =>
        rw [hl] at h
        simp only
        have e : x = t := (cmpT_zero x t).1 (by simpa using h)
        exact ⟨Ext.refl _, fun σ hσ => by rw [sbT, if_pos hk, hσ n x hl, e]⟩
      | none =>
        simp only
        refine ⟨fun m x hx => by rw [look_snoc, hx], fun σ hσ => ?_⟩
        rw [sbT, if_pos hk]
        exact hσ n t (by rw [look_snoc, hl]; simp)
    · rw [if_neg hk] at h ⊢
      by_cases hs : k = t.kind ∧ n = t.n ∧ s = t.name
      · rw [if_pos hs] at h ⊢
        obtain ⟨e1, e2, e3⟩ := hs
        obtain ⟨k', s', n', us⟩ := t
        obtain rfl : k = k' := e1
        obtain rfl : n = n' := e2
        obtain rfl : s = s' := e3
        by_cases h2 : k = 2
        · rw [if_pos h2]
          refine ⟨Ext.refl _, fun σ _ => ?_⟩
          obtain ⟨a1, _⟩ := hP.head (.inr h2)
          obtain ⟨b1, _⟩ := hT.head (.inr h2)
          have a1' : ts = [] := a1
          have b1' : us = [] := b1
          rw [sbT, if_neg hk, a1', b1', sbTs]
        · rw [if_neg h2] at h ⊢
          by_cases hl : ts.length = (Tm.mk k s n us).args.length
          · rw [if_pos hl] at h ⊢
            obtain ⟨c1, c2⟩ := ihs ts us M (fun x hx => by have := Tm.size_arg (t := .mk k s n ts) hx; omega) (fun x hx => hP.arg hx) (fun x hx => hT.arg hx) hl h
            exact ⟨c1, fun σ hσ => by rw [sbT, if_neg hk, c2 σ hσ]⟩
          · rw [if_neg hl] at h
            cases h
      · rw [if_neg hs] at h
        cases h
theorem mt_complete (m : Nat) (σ : Int → Tm) : ∀ (p t : Tm) (M : List (Int × Tm)), p.size ≤ m → Agr σ M → sbT σ p = t → (mt p t M).1 = true ∧ Agr σ (mt p t M).2 := by
  induction m with
  | zero => intro p _ _ h; have := p.size_pos; omega
  | succ m ih =>
    have ihs : ∀ (ps ts : List Tm) (M : List (Int × Tm)), (∀ x ∈ ps, x.size ≤ m) → Agr σ M → sbTs σ ps = ts → (mts ps ts M).1 = true ∧ Agr σ (mts ps ts M).2 := by
      intro ps
      induction ps with
      | nil => intro ts M _ hM _; rw [mts]; exact ⟨rfl, hM⟩
      | cons p ps ihp =>
        intro ts M h1 hM h
        rw [sbTs] at h
        subst h
        rw [mts]
        obtain ⟨a1, a2⟩ := ih p _ M (h1 p (List.mem_cons_self ..)) hM rfl
        rw [if_pos a1]
        exact ihp _ _ (fun x hx => h1 x (List.mem_cons_of_mem _ hx)) a2 rfl
    intro p t M hm hM h
    obtain ⟨k, s, n, ts⟩ := p
    rw [mt]
    by_cases hk : k = 3
    · rw [sbT, if_pos hk] at h
      rw [if_pos hk]
      cases hl : look M n with
      | some x => exact ⟨by simp only [beq_iff_eq]; exact (cmpT_zero x t).2 (by rw [← hM n x hl]; exact h), hM⟩
      | none =>
        refine ⟨rfl, fun j y hy => ?_⟩
        simp only at hy
        rw [look_snoc] at hy
        cases hj : look M j with
        | some z =>
          rw [hj] at hy
          simp only [Option.some.injEq] at hy
          subst hy
          exact hM j z hj
        | none =>
          rw [hj] at hy
          simp only at hy
          split at hy
          · rename_i e
            subst e
            rw [h]
            exact Option.some.inj hy
          · cases hy
    · rw [sbT, if_neg hk] at h
      subst h
      rw [if_neg hk, if_pos ⟨rfl, rfl, rfl⟩]
      by_cases h2 : k = 2
      · rw [if_pos h2]; exact ⟨rfl, hM⟩
      · rw [if_neg h2]
        have hl : ts.length = (Tm.mk k s n (sbTs σ ts)).args.length := by show _ = (sbTs σ ts).length; rw [sbTs_eq, List.length_map]
        rw [if_pos hl]
        exact ihs ts _ M (fun x hx => by have := Tm.size_arg (t := .mk k s n ts) hx; omega) hM rfl
/-- Whether it matches. -/
def inst (p t : Tm) : Bool := (mt p t []).1
theorem inst_iff {p t : Tm} (hp : Plain p) (ht : Plain t) : inst p t = true ↔ ∃ σ, sbT σ p = t := by
  constructor
  · intro h
    obtain ⟨_, h2⟩ := mt_sound p.size p t [] (Nat.le_refl _) hp ht h
    exact ⟨fun n => (look (mt p t []).2 n).getD t, h2 _ fun n x hx => by simp only [hx, Option.getD_some]⟩
  · rintro ⟨σ, h⟩
    exact (mt_complete p.size σ p t [] (Nat.le_refl _) (fun n x hx => by rw [look_nil] at hx; cases hx) h).1
theorem sbT_id (m : Nat) : ∀ t : Tm, t.size ≤ m → Plain t → sbT (fun n => .mk 3 ⟨#[]⟩ n []) t = t := by
  induction m with
  | zero => intro t h; have := t.size_pos; omega
  | succ m ih =>
    intro t hm hP
    obtain ⟨k, s, n, ts⟩ := t
    rw [sbT]
    by_cases hk : k = 3
    · rw [if_pos hk]
      obtain ⟨a, b⟩ := hP.head (.inl hk)
      have a' : ts = [] := a
      have b' : s = ⟨#[]⟩ := b
      rw [a', b', hk]
    · rw [if_neg hk, sbTs_eq]
      have : ts.map (sbT fun n => .mk 3 ⟨#[]⟩ n []) = ts := by
        conv => rhs; rw [← List.map_id ts]
        refine List.map_congr_left fun x hx => ?_
        exact ih x (by have := Tm.size_arg (t := .mk k s n ts) hx; omega) (hP.arg hx)
      rw [this]
theorem sbT_comp (τ σ : Int → Tm) (m : Nat) : ∀ t : Tm, t.size ≤ m → sbT τ (sbT σ t) = sbT (fun n => sbT τ (σ n)) t := by
  induction m with
  | zero => intro t h; have := t.size_pos; omega
  | succ m ih =>
    intro t hm
    obtain ⟨k, s, n, ts⟩ := t
    by_cases hk : k = 3
    · rw [sbT, if_pos hk, sbT, if_pos hk]
    · rw [sbT, if_neg hk, sbT, if_neg hk, sbT, if_neg hk, sbTs_eq, sbTs_eq, sbTs_eq, List.map_map]
      congr 1
      refine List.map_congr_left fun x hx => ?_
      exact ih x (by have := Tm.size_arg (t := .mk k s n ts) hx; omega)
theorem inst_refl {t : Tm} (h : Plain t) : inst t t = true := (inst_iff h h).2 ⟨_, sbT_id t.size t (Nat.le_refl _) h⟩
theorem inst_trans {a b c : Tm} (ha : Plain a) (hb : Plain b) (hc : Plain c) (h1 : inst a b = true) (h2 : inst b c = true) : inst a c = true := by
  obtain ⟨σ, e1⟩ := (inst_iff ha hb).1 h1
  obtain ⟨τ, e2⟩ := (inst_iff hb hc).1 h2
  exact (inst_iff ha hc).2 ⟨fun n => sbT τ (σ n), by rw [← sbT_comp τ σ a.size a (Nat.le_refl _), e1, e2]⟩
end Go.Proofs.Ytmadfkofmehfkaa
