/-
  The reference's Compare of terms; SameTerms. No condition but how they lie.
-/
import Derived.Test.YtmadfkofmehfkaaAt7
namespace Go.Proofs.Ytmadfkofmehfkaa
open Go.RowKit
attribute [local go_sem] toList_beq

set_option maxRecDepth 100000 in
set_option maxHeartbeats 2000000 in
theorem order_any (a b : Int) (w : World) : Calls Try.prog 36 #[.int .i64 a, .int .i64 b] w fun e w' => e = .returned (.int .i64 (cmpI a b)) ∧ w = w' := by
  by_cases h1 : a < b
  · have HF := Lib.hid (show cmpI a b = -1 from if_pos h1)
    go_enter Try.func36, Try.ntmps36
    go_wp2
    go_ret
    exact ⟨ret_int HF.out.symm, rfl⟩
  · by_cases h2 : b < a
    · have HF := Lib.hid (show cmpI a b = 1 by unfold cmpI; rw [if_neg h1, if_pos h2])
      go_enter Try.func36, Try.ntmps36
      go_wp2
      go_ret
      exact ⟨ret_int HF.out.symm, rfl⟩
    · have HF := Lib.hid (show cmpI a b = 0 by unfold cmpI; rw [if_neg h1, if_neg h2])
      go_enter Try.func36, Try.ntmps36
      go_wp2
      go_ret
      exact ⟨ret_int HF.out.symm, rfl⟩

/-- What is known of the reference's Compare at a term. -/
def CmpRAt (x : Tm) : Prop := ∀ (y : Tm) (w : World) (a a' : Option Addr) (n n' cap cap' : Nat), MemW w (.s 4 (Tm.rows x.args)) (.slice a n cap) → MemW w (.s 4 (Tm.rows y.args)) (.slice a' n' cap') →
  Calls Try.prog 12 #[.agg #[.int .i64 x.kind, .string x.name, .int .i64 x.n, .slice a n cap], .agg #[.int .i64 y.kind, .string y.name, .int .i64 y.n, .slice a' n' cap']] w fun e w' => e = .returned (.int .i64 (cmpT x y)) ∧ Below w.heap.size w w'

theorem cmpI_ne {a b : Int} (h : a ≠ b) : ¬ cmpI a b = 0 := by unfold cmpI; split <;> (try split) <;> omega
set_option maxRecDepth 100000 in
set_option maxHeartbeats 2000000 in
theorem compare3_of {t : Tm} (ih : ∀ x ∈ t.args, CmpRAt x) : CmpRAt t := by
  intro u w a a' n n' cap cap' h h'
  have hl := Tms.len h
  have hl' := Tms.len h'
  have hcap := hl.2.1
  have hmx := hl.2.2
  have hcap' := hl'.2.1
  have hmx' := hl'.2.2
  have HL := Lib.hid hl.1
  have HL' := Lib.hid hl'.1
  have HE : Hid (cmpT t u = lx (cmpI t.kind u.kind) (lx (cmpI t.n u.n) (lx (cmpS t.name u.name) (lx (cmpI (n : Int) (n' : Int)) (cmpTs t.args u.args))))) := Lib.hid (by rw [cmpT_eq, hl.1, hl'.1])
  have H := Lib.hid h
  have H' := Lib.hid h'
  have IH := Lib.hid ih
  clear hl hl' h h' ih
  have HW2 := Lib.hid ((below_new w (.cells #[.int .i64 t.kind, .string t.name, .int .i64 t.n, .slice a n cap] 24)).alloc (by simp) (.cells #[.int .i64 u.kind, .string u.name, .int .i64 u.n, .slice a' n' cap'] 24))
  by_cases c1 : cmpI t.kind u.kind = 0
  case neg =>
    have e1 : (cmpI t.kind u.kind != 0) = true := by rw [bne_iff_ne]; exact c1
    have HF := Lib.hid (HE.out.trans (lx_not c1 _))
    clear c1
    go_enter Try.func12, Try.ntmps12
    go_wp2_with (first | (go_at_call 36; refine (order_any _ _ _).mono ?_; (rintro e w' ⟨rfl, rfl⟩)))
    go_ret
    exact ⟨ret_int HF.out.symm, HW2.out⟩
  have HE1 : Hid (cmpT t u = lx (cmpI t.n u.n) (lx (cmpS t.name u.name) (lx (cmpI (n : Int) (n' : Int)) (cmpTs t.args u.args)))) := Lib.hid (by rw [HE.out, c1, lx_zero])
  have Z1 := Lib.hid c1
  clear c1 HE
  by_cases c2 : cmpI t.n u.n = 0
  case neg =>
    have e2 : (cmpI t.n u.n != 0) = true := by rw [bne_iff_ne]; exact c2
    have HF := Lib.hid (HE1.out.trans (lx_not c2 _))
    have tok1 : True := trivial
    clear c2
    go_enter Try.func12, Try.ntmps12
    go_wp2_with (first
      | (go_at_call 36 ; have _t := tok1; refine (order_any _ _ _).mono ?_; rintro e w' ⟨rfl, rfl⟩; rw [Z1.out]; clear tok1 _t)
      | (go_at_call 36 ; refine (order_any _ _ _).mono ?_; rintro e w' ⟨rfl, rfl⟩))
    go_ret
    exact ⟨ret_int HF.out.symm, HW2.out⟩
  have HE2 : Hid (cmpT t u = lx (cmpS t.name u.name) (lx (cmpI (n : Int) (n' : Int)) (cmpTs t.args u.args))) := Lib.hid (by rw [HE1.out, c2, lx_zero])
  have Z2 := Lib.hid c2
  clear c2 HE1
  rcases cmpS_cases t.name u.name with ⟨c3, k⟩ | ⟨c3, k⟩ | ⟨c3, k⟩
  case inl =>
    have HF : Hid (cmpT t u = -1) := Lib.hid (by rw [HE2.out, c3]; rfl)
    have tok1 : True := trivial
    clear c3
    go_enter Try.func12, Try.ntmps12
    go_wp2_with (first
      | (go_at_call 36 ; have _t := tok1; refine (order_any _ _ _).mono ?_; rintro e w' ⟨rfl, rfl⟩; rw [Z1.out]; clear tok1 _t)
      | (go_at_call 36 ; refine (order_any _ _ _).mono ?_; rintro e w' ⟨rfl, rfl⟩; rw [Z2.out]))
    go_ret
    exact ⟨ret_int HF.out.symm, HW2.out⟩
  case inr.inr =>
    have HF : Hid (cmpT t u = 1) := Lib.hid (by rw [HE2.out, c3]; rfl)
    have k1 : Op.bytesLess t.name.toList u.name.toList = false := by
      cases h1 : Op.bytesLess t.name.toList u.name.toList
      · rfl
      · exact (not_both h1 k).elim
    have k2 : (t.name == u.name) = false := by
      rw [beq_eq_false_iff_ne]; intro e; rw [e, less_irr] at k; cases k
    have tok1 : True := trivial
    clear c3 k
    go_enter Try.func12, Try.ntmps12
    go_wp2_with (first
      | (go_at_call 36 ; have _t := tok1; refine (order_any _ _ _).mono ?_; rintro e w' ⟨rfl, rfl⟩; rw [Z1.out]; clear tok1 _t)
      | (go_at_call 36 ; refine (order_any _ _ _).mono ?_; rintro e w' ⟨rfl, rfl⟩; rw [Z2.out]))
    go_ret
    exact ⟨ret_int HF.out.symm, HW2.out⟩
  have HE3 : Hid (cmpT t u = lx (cmpI (n : Int) (n' : Int)) (cmpTs t.args u.args)) := Lib.hid (by rw [HE2.out, c3, lx_zero])
  have k1 : Op.bytesLess t.name.toList u.name.toList = false := by rw [k, less_irr]
  have k2 : (t.name == u.name) = true := by rw [beq_iff_eq]; exact k
  clear c3 k HE2
  by_cases c4 : n = n'
  case neg =>
    have hc := cmpI_ne (a := (n : Int)) (b := (n' : Int)) (by omega)
    have e4 : (cmpI (n : Int) (n' : Int) != 0) = true := by rw [bne_iff_ne]; exact hc
    have HF := Lib.hid (HE3.out.trans (lx_not hc _))
    have tok1 : True := trivial
    have tok2 : True := trivial
    clear c4 hc
    go_enter Try.func12, Try.ntmps12
    go_wp2_with (first
      | (go_at_call 36 ; have _t := tok1; refine (order_any _ _ _).mono ?_; rintro e w' ⟨rfl, rfl⟩; rw [Z1.out]; clear tok1 _t)
      | (go_at_call 36 ; have _t := tok2; refine (order_any _ _ _).mono ?_; rintro e w' ⟨rfl, rfl⟩; rw [Z2.out]; clear tok2 _t)
      | (go_at_call 36 ; refine (order_any _ _ _).mono ?_; rintro e w' ⟨rfl, rfl⟩))
    go_ret
    exact ⟨ret_int HF.out.symm, HW2.out⟩
  subst c4
  have Z4 := Lib.hid (cmpI_self (n : Int))
  have HE4 : Hid (cmpT t u = cmpTs t.args u.args) := Lib.hid (by rw [HE3.out, Z4.out, lx_zero])
  have tok1 : True := trivial
  have tok2 : True := trivial
  clear HE3
  go_enter Try.func12, Try.ntmps12
  go_wp2_with (first
    | (go_at_call 36 ; have _t := tok1; refine (order_any _ _ _).mono ?_; rintro e w' ⟨rfl, rfl⟩; rw [Z1.out]; clear tok1 _t)
    | (go_at_call 36 ; have _t := tok2; refine (order_any _ _ _).mono ?_; rintro e w' ⟨rfl, rfl⟩; rw [Z2.out]; clear tok2 _t)
    | (go_at_call 36 ; refine (order_any _ _ _).mono ?_; rintro e w' ⟨rfl, rfl⟩; rw [Z4.out]))
  go_loopw [8, 49] (fun _ i wr => ∃ k : Nat, k ≤ n ∧ i = .int .i64 k ∧ Hid (Below w.heap.size w wr) ∧ Hid (Bx wr w.heap.size [.int .i64 t.kind, .string t.name, .int .i64 t.n, .slice a n cap]) ∧ Hid (Bx wr (w.heap.size + 1) [.int .i64 u.kind, .string u.name, .int .i64 u.n, .slice a' n cap']) ∧ Hid (cmpTs t.args u.args = cmpTs (t.args.drop k) (u.args.drop k))) (fun _ i _ => n - (intOf i).toNat)
  case atStart => exact ⟨0, Nat.zero_le _, rfl, HW2.out, (Bx.new _ _ _).alloc _, Lib.hid (World.size_alloc w _ ▸ Bx.new _ _ _), show cmpTs _ _ = _ by rw [List.drop_zero, List.drop_zero]⟩
  case round =>
    obtain ⟨k, hk, rfl, HB, HX, HY, HC⟩ := hrel
    by_cases hlt : k < n
    · have d1 := HX.out.2 3 (by simp)
      have d2 := HY.out.2 3 (by simp)
      simp only [List.getElem_cons_succ, List.getElem_cons_zero] at d1 d2
      obtain ⟨b, o, x, ax, nx, capx, rfl, hbB, Hx, x0, x1, x2, x3, GX⟩ := (Tms.keep H.out HB.out).at k hlt
      obtain ⟨b', o', y, ay, ny, capy, rfl, hbB', Hy, y0, y1, y2, y3, GY⟩ := (Tms.keep H'.out HB.out).at k hlt
      have HD := Lib.hid (cmpTs_drop Hx.out Hy.out)
      have GA := Lib.hid (IH.out x (mem_of_at Hx.out))
      by_cases hc : cmpT x y = 0
      · have HZ := Lib.hid hc
        clear hc
        go_wp2
        go_still_tail 10, (by kernel_rfl)
        change wpList _ _ _ _ _ wr.drew
        go_wp2_with (first | (go_at_call 12 ; refine (GA.out y _ ax ay nx ny capx capy (MemW.drew GX.out) (MemW.drew GY.out)).mono ?_; rintro e w2 ⟨rfl, hb⟩; rw [HZ.out]; have HB2 := Lib.hid hb; clear hb))
        go_roundw
        case rel => exact ⟨k + 1, by omega, by go_num, Below.toD HB.out HB2.out, HX.out.keep (Below.one HB2.out), HY.out.keep (Below.one HB2.out), show cmpTs _ _ = _ by rw [HC.out, HD.out, HZ.out, lx_zero]⟩
        case measure => simp [intOf]; omega
      · have e5 : (cmpT x y != 0) = true := by rw [bne_iff_ne]; exact hc
        have HZ : Hid (cmpT t u = cmpT x y) := Lib.hid (by rw [HE4.out, HC.out, HD.out, lx_not hc])
        clear hc
        go_wp2
        go_still_tail 10, (by kernel_rfl)
        change wpList _ _ _ _ _ wr.drew
        go_wp2_with (first | (go_at_call 12 ; refine (GA.out y _ ax ay nx ny capx capy (MemW.drew GX.out) (MemW.drew GY.out)).mono ?_; rintro e w2 ⟨rfl, hb⟩; have HB2 := Lib.hid hb; clear hb))
        go_ret
        exact ⟨ret_int HZ.out.symm, Below.toD HB.out HB2.out⟩
    · have HZ : Hid (cmpT t u = 0) := Lib.hid (by
        rw [HE4.out, HC.out, List.drop_of_length_le (l := t.args) (by rw [HL.out]; omega), List.drop_of_length_le (l := u.args) (by rw [HL'.out]; omega), cmpTs])
      go_wp2
      go_ret
      exact ⟨ret_int HZ.out.symm, HB.out⟩
theorem compare3_size (m : Nat) : ∀ t, t.size ≤ m → CmpRAt t := by
  induction m with
  | zero => intro t h; have := t.size_pos; omega
  | succ m ih => intro t h; exact compare3_of fun x hx => ih x (by have := Tm.size_arg hx; omega)
theorem compare3_any (t : Tm) : CmpRAt t := compare3_size t.size t (Nat.le_refl _)

theorem cmpI_eq {a b : Int} (h : cmpI a b = 0) : a = b := Decidable.byContradiction fun e => cmpI_ne e h
theorem cmpS_eq {a b : ByteArray} (h : cmpS a b = 0) : a = b := by
  rcases cmpS_cases a b with ⟨e, _⟩ | ⟨_, e⟩ | ⟨e, _⟩
  · omega
  · exact e
  · omega
theorem lx_eq {a b : Int} (h : lx a b = 0) : a = 0 ∧ b = 0 := by
  by_cases e : a = 0
  · rw [e, lx_zero] at h; exact ⟨e, h⟩
  · rw [lx_not e] at h; exact (e h).elim
theorem cmpTs_eq_of (ts : List Tm) (h : ∀ t ∈ ts, ∀ u, cmpT t u = 0 → t = u) : ∀ us, cmpTs ts us = 0 → ts = us := by
  induction ts with
  | nil => intro us e; cases us with
    | nil => rfl
    | cons => simp [cmpTs] at e
  | cons t ts ih =>
    intro us e
    cases us with
    | nil => simp [cmpTs] at e
    | cons u us =>
      rw [cmpTs] at e
      obtain ⟨e1, e2⟩ := lx_eq e
      rw [h t (List.mem_cons_self ..) u e1, ih (fun t ht => h t (List.mem_cons_of_mem _ ht)) us e2]
theorem cmpT_eq_size (m : Nat) : ∀ t, t.size ≤ m → ∀ u, cmpT t u = 0 → t = u := by
  induction m with
  | zero => intro t h; have := t.size_pos; omega
  | succ m ih =>
    intro t h u e
    rw [cmpT_eq] at e
    obtain ⟨e1, e⟩ := lx_eq e
    obtain ⟨e2, e⟩ := lx_eq e
    obtain ⟨e3, e⟩ := lx_eq e
    obtain ⟨_, e⟩ := lx_eq e
    rw [← t.eta, ← u.eta, cmpI_eq e1, cmpI_eq e2, cmpS_eq e3, cmpTs_eq_of t.args (fun x hx u => ih x (by have := Tm.size_arg hx; omega) u) u.args e]
/-- Alike by the order is alike. -/
theorem cmpT_zero (t u : Tm) : cmpT t u = 0 ↔ t = u := ⟨cmpT_eq_size t.size t (Nat.le_refl _) u, fun e => by rw [e]; exact cmpT_self u⟩
end Go.Proofs.Ytmadfkofmehfkaa

/-
  Matching of terms, and what stands for variables: plain laws. No condition but plainness where it is said.
-/
namespace Go.Proofs.Ytmadfkofmehfkaa
open Go.RowKit

def look {α : Type} (M : List (Int × α)) (n : Int) : Option α := (M.find? (fun x => x.1 == n)).map (·.2)
theorem look_nil {α : Type} (n : Int) : look ([] : List (Int × α)) n = none := rfl
theorem look_snoc {α : Type} (M : List (Int × α)) (n m : Int) (x : α) : look (M ++ [(n, x)]) m = match look M m with | some y => some y | none => if n = m then some x else none := by
  unfold look
  rw [List.find?_append]
  cases h : M.find? (fun x => x.1 == m) with
  | some y => rfl
  | none =>
    by_cases e : n = m
    · simp [e]
    · simp [e]
mutual
/-- Matching, behind what stands for variables already. -/
def mt : Tm → Tm → List (Int × Tm) → Bool × List (Int × Tm)
  | .mk k s n ts, t, M => if k = 3 then (match look M n with | some x => (cmpT x t == 0, M) | none => (true, M ++ [(n, t)]))
      else if k = t.kind ∧ n = t.n ∧ s = t.name then (if k = 2 then (true, M) else if ts.length = t.args.length then mts ts t.args M else (false, M)) else (false, M)
def mts : List Tm → List Tm → List (Int × Tm) → Bool × List (Int × Tm)
  | [], _, M => (true, M)
  | _ :: _, [], M => (true, M)
  | p :: ps, t :: ts, M => if (mt p t M).1 = true then mts ps ts (mt p t M).2 else (false, (mt p t M).2)
end
mutual
/-- With something for each variable. -/
def sbT (σ : Int → Tm) : Tm → Tm
  | .mk k s n ts => if k = 3 then σ n else .mk k s n (sbTs σ ts)
def sbTs (σ : Int → Tm) : List Tm → List Tm
  | [] => []
  | t :: ts => sbT σ t :: sbTs σ ts
end
theorem sbTs_eq (σ : Int → Tm) (ts : List Tm) : sbTs σ ts = ts.map (sbT σ) := by
  induction ts with
  | nil => rw [sbTs]; rfl
  | cons t ts ih => rw [sbTs, ih]; rfl
/-- Variables and numbers have nothing besides. -/
def Plain (t : Tm) : Prop := ∀ x ∈ t.all, (x.kind = 3 ∨ x.kind = 2) → x.args = [] ∧ x.name = ⟨#[]⟩
theorem Plain.arg {t x : Tm} (h : Plain t) (hx : x ∈ t.args) : Plain x := fun y hy hk => h y (Tm.args_all x hx y hy) hk
theorem Plain.head {t : Tm} (h : Plain t) (hk : t.kind = 3 ∨ t.kind = 2) : t.args = [] ∧ t.name = ⟨#[]⟩ := h t (by rw [Tm.all_eq]; exact List.mem_cons_self ..) hk
def Agr (σ : Int → Tm) (M : List (Int × Tm)) : Prop := ∀ n x, look M n = some x → σ n = x
def Ext (M M' : List (Int × Tm)) : Prop := ∀ n x, look M n = some x → look M' n = some x
theorem Ext.refl (M : List (Int × Tm)) : Ext M M := fun _ _ h => h
theorem Ext.trans {A B C : List (Int × Tm)} (h : Ext A B) (k : Ext B C) : Ext A C := fun n x hx => k n x (h n x hx)
theorem Ext.agr {σ : Int → Tm} {A B : List (Int × Tm)} (h : Ext A B) (k : Agr σ B) : Agr σ A := fun n x hx => k n x (h n x hx)
theorem mt_sound (m : Nat) : ∀ (p t : Tm) (M : List (Int × Tm)), p.size ≤ m → Plain p → Plain t → (mt p t M).1 = true → Ext M (mt p t M).2 ∧ ∀ σ, Agr σ (mt p t M).2 → sbT σ p = t := by
  induction m with
  | zero => intro p _ _ h; have := p.size_pos; omega
  | succ m ih =>
    have ihs : ∀ (ps ts : List Tm) (M : List (Int × Tm)), (∀ x ∈ ps, x.size ≤ m) → (∀ x ∈ ps, Plain x) → (∀ x ∈ ts, Plain x) → ps.length = ts.length → (mts ps ts M).1 = true → Ext M (mts ps ts M).2 ∧ ∀ σ, Agr σ (mts ps ts M).2 → sbTs σ ps = ts := by
      intro ps
      induction ps with
      | nil =>
        intro ts M _ _ _ hl _
        obtain rfl : ts = [] := List.length_eq_zero_iff.1 hl.symm
        exact ⟨by rw [mts]; exact Ext.refl _, fun σ _ => by rw [sbTs]⟩
      | cons p ps ihp =>
        intro ts M h1 h2 h3 hl h
        match ts, hl with
        | t :: ts, hl =>
          rw [mts] at h ⊢
          by_cases hp : (mt p t M).1 = true
          · rw [if_pos hp] at h ⊢
            obtain ⟨a1, a2⟩ := ih p t M (h1 p (List.mem_cons_self ..)) (h2 p (List.mem_cons_self ..)) (h3 t (List.mem_cons_self ..)) hp
            obtain ⟨b1, b2⟩ := ihp ts (mt p t M).2 (fun x hx => h1 x (List.mem_cons_of_mem _ hx)) (fun x hx => h2 x (List.mem_cons_of_mem _ hx)) (fun x hx => h3 x (List.mem_cons_of_mem _ hx)) (by simpa using hl) h
            exact ⟨a1.trans b1, fun σ hσ => by rw [sbTs, a2 σ (b1.agr hσ), b2 σ hσ]⟩
          · rw [if_neg hp] at h
            cases h
    intro p t M hm hP hT h
    obtain ⟨k, s, n, ts⟩ := p
    rw [mt] at h ⊢
    by_cases hk : k = 3
    · rw [if_pos hk] at h ⊢
      cases hl : look M n with
      | some x =>
        rw [hl] at h
        simp only
        have e : x = t := (cmpT_zero x t).1 (by simpa using h)
        exact ⟨Ext.refl _, fun σ hσ => by rw [sbT, if_pos hk, hσ n x hl, e]⟩
      | none =>
        simp only
        refine ⟨fun m x hx => by rw [look_snoc, hx], fun σ hσ => ?_⟩
        rw [sbT, if_pos hk]
        exact hσ n t (by rw [look_snoc, hl]; simp)
    · rw [if_neg hk] at h ⊢
      by_cases hs : k = t.kind ∧ n = t.n ∧ s = t.name
      · rw [if_pos hs] at h ⊢
        obtain ⟨e1, e2, e3⟩ := hs
        obtain ⟨k', s', n', us⟩ := t
        obtain rfl : k = k' := e1
        obtain rfl : n = n' := e2
        obtain rfl : s = s' := e3
        by_cases h2 : k = 2
        · rw [if_pos h2]
          refine ⟨Ext.refl _, fun σ _ => ?_⟩
          obtain ⟨a1, _⟩ := hP.head (.inr h2)
          obtain ⟨b1, _⟩ := hT.head (.inr h2)
          have a1' : ts = [] := a1
          have b1' : us = [] := b1
          rw [sbT, if_neg hk, a1', b1', sbTs]
        · rw [if_neg h2] at h ⊢
          by_cases hl : ts.length = (Tm.mk k s n us).args.length
          · rw [if_pos hl] at h ⊢
            obtain ⟨c1, c2⟩ := ihs ts us M (fun x hx => by have := Tm.size_arg (t := .mk k s n ts) hx; omega) (fun x hx => hP.arg hx) (fun x hx => hT.arg hx) hl h
            exact ⟨c1, fun σ hσ => by rw [sbT, if_neg hk, c2 σ hσ]⟩
          · rw [if_neg hl] at h
            cases h
      · rw [if_neg hs] at h
        cases h
theorem mt_complete (m : Nat) (σ : Int → Tm) : ∀ (p t : Tm) (M : List (Int × Tm)), p.size ≤ m → Agr σ M → sbT σ p = t → (mt p t M).1 = true ∧ Agr σ (mt p t M).2 := by
  induction m with
  | zero => intro p _ _ h; have := p.size_pos; omega
  | succ m ih =>
    have ihs : ∀ (ps ts : List Tm) (M : List (Int × Tm)), (∀ x ∈ ps, x.size ≤ m) → Agr σ M → sbTs σ ps = ts → (mts ps ts M).1 = true ∧ Agr σ (mts ps ts M).2 := by
      intro ps
      induction ps with
      | nil => intro ts M _ hM _; rw [mts]; exact ⟨rfl, hM⟩
      | cons p ps ihp =>
        intro ts M h1 hM h
        rw [sbTs] at h
        subst h
        rw [mts]
        obtain ⟨a1, a2⟩ := ih p _ M (h1 p (List.mem_cons_self ..)) hM rfl
        rw [if_pos a1]
        exact ihp _ _ (fun x hx => h1 x (List.mem_cons_of_mem _ hx)) a2 rfl
    intro p t M hm hM h
    obtain ⟨k, s, n, ts⟩ := p
    rw [mt]
    by_cases hk : k = 3
    · rw [sbT, if_pos hk] at h
      rw [if_pos hk]
      cases hl : look M n with
      | some x => exact ⟨by simp only [beq_iff_eq]; exact (cmpT_zero x t).2 (by rw [← hM n x hl]; exact h), hM⟩
      | none =>
        refine ⟨rfl, fun j y hy => ?_⟩
        simp only at hy
        rw [look_snoc] at hy
        cases hj : look M j with
        | some z =>
          rw [hj] at hy
          simp only [Option.some.injEq] at hy
          subst hy
          exact hM j z hj
        | none =>
          rw [hj] at hy
          simp only at hy
          split at hy
          · rename_i e
            subst e
            rw [h]
            exact Option.some.inj hy
          · cases hy
    · rw [sbT, if_neg hk] at h
      subst h
      rw [if_neg hk, if_pos ⟨rfl, rfl, rfl⟩]
      by_cases h2 : k = 2
      · rw [if_pos h2]; exact ⟨rfl, hM⟩
      · rw [if_neg h2]
        have hl : ts.length = (Tm.mk k s n (sbTs σ ts)).args.length := by show _ = (sbTs σ ts).length; rw [sbTs_eq, List.length_map]
        rw [if_pos hl]
        exact ihs ts _ M (fun x hx => by have := Tm.size_arg (t := .mk k s n ts) hx; omega) hM rfl
/-- Whether it matches. -/
def inst (p t : Tm) : Bool := (mt p t []).1
theorem inst_iff {p t : Tm} (hp : Plain p) (ht : Plain t) : inst p t = true ↔ ∃ σ, sbT σ p = t := by
  constructor
  · intro h
    obtain ⟨_, h2⟩ := mt_sound p.size p t [] (Nat.le_refl _) hp ht h
    exact ⟨fun n => (look (mt p t []).2 n).getD t, h2 _ fun n x hx => by simp only [hx, Option.getD_some]⟩
  · rintro ⟨σ, h⟩
    exact (mt_complete p.size σ p t [] (Nat.le_refl _) (fun n x hx => by rw [look_nil] at hx; cases hx) h).1
theorem sbT_id (m : Nat) : ∀ t : Tm, t.size ≤ m → Plain t → sbT (fun n => .mk 3 ⟨#[]⟩ n []) t = t := by
  induction m with
  | zero => intro t h; have := t.size_pos; omega
  | succ m ih =>
    intro t hm hP
    obtain ⟨k, s, n, ts⟩ := t
    rw [sbT]
    by_cases hk : k = 3
    · rw [if_pos hk]
      obtain ⟨a, b⟩ := hP.head (.inl hk)
      have a' : ts = [] := a
      have b' : s = ⟨#[]⟩ := b
      rw [a', b', hk]
    · rw [if_neg hk, sbTs_eq]
      have : ts.map (sbT fun n => .mk 3 ⟨#[]⟩ n []) = ts := by
        conv => rhs; rw [← List.map_id ts]
        refine List.map_congr_left fun x hx => ?_
        exact ih x (by have := Tm.size_arg (t := .mk k s n ts) hx; omega) (hP.arg hx)
      rw [this]
theorem sbT_comp (τ σ : Int → Tm) (m : Nat) : ∀ t : Tm, t.size ≤ m → sbT τ (sbT σ t) = sbT (fun n => sbT τ (σ n)) t := by
  induction m with
  | zero => intro t h; have := t.size_pos; omega
  | succ m ih =>
    intro t hm
    obtain ⟨k, s, n, ts⟩ := t
    by_cases hk : k = 3
    · rw [sbT, if_pos hk, sbT, if_pos hk]
    · rw [sbT, if_neg hk, sbT, if_neg hk, sbT, if_neg hk, sbTs_eq, sbTs_eq, sbTs_eq, List.map_map]
      congr 1
      refine List.map_congr_left fun x hx => ?_
      exact ih x (by have := Tm.size_arg (t := .mk k s n ts) hx; omega)
theorem inst_refl {t : Tm} (h : Plain t) : inst t t = true := (inst_iff h h).2 ⟨_, sbT_id t.size t (Nat.le_refl _) h⟩
theorem inst_trans {a b c : Tm} (ha : Plain a) (hb : Plain b) (hc : Plain c) (h1 : inst a b = true) (h2 : inst b c = true) : inst a c = true := by
  obtain ⟨σ, e1⟩ := (inst_iff ha hb).1 h1
  obtain ⟨τ, e2⟩ := (inst_iff hb hc).1 h2
  exact (inst_iff ha hc).2 ⟨fun n => sbT τ (σ n), by rw [← sbT_comp τ σ a.size a (Nat.le_refl _), e1, e2]⟩
end Go.Proofs.Ytmadfkofmehfkaa
