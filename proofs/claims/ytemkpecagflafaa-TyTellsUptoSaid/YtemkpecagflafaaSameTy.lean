/-
  Whether two types are the same but for what a variable is called: ty.Same, slices.EqualFunc, the reference's Same. No condition but how they lie.
-/
import Derived.Test.YtemkpecagflafaaSame
namespace Go.Proofs.Ytemkpecagflafaa
open Go.RowKit
attribute [local go_sem] toList_beq neq_toList

mutual
def sameT : Tm → Tm → Bool
  | .mk k s n ts, u => if k = 1 ∧ u.kind = 1 then n == u.n else k == u.kind && s == u.name && n == u.n && sameTs ts u.args
def sameTs : List Tm → List Tm → Bool
  | [], [] => true
  | t :: ts, u :: us => sameT t u && sameTs ts us
  | [], _ :: _ => false
  | _ :: _, [] => false
end
theorem sameT_eq (t u : Tm) : sameT t u = if t.kind = 1 ∧ u.kind = 1 then t.n == u.n else t.kind == u.kind && t.name == u.name && t.n == u.n && sameTs t.args u.args := by cases t; rw [sameT]; rfl
theorem sameTs_len : ∀ (l m : List Tm), l.length ≠ m.length → sameTs l m = false
  | [], [], h => absurd rfl h
  | t :: ts, u :: us, h => by rw [sameTs, sameTs_len ts us (fun e => h (by simp [e])), Bool.and_false]
  | [], _ :: _, _ => by rw [sameTs]
  | _ :: _, [], _ => by rw [sameTs]
theorem sameTs_drop {l m : List Tm} {k : Nat} {x y : Tm} (hx : l[k]? = some x) (hy : m[k]? = some y) : sameTs (l.drop k) (m.drop k) = (sameT x y && sameTs (l.drop (k + 1)) (m.drop (k + 1))) := by
  obtain ⟨h1, rfl⟩ := List.getElem?_eq_some_iff.1 hx
  obtain ⟨h2, rfl⟩ := List.getElem?_eq_some_iff.1 hy
  rw [List.drop_eq_getElem_cons h1, List.drop_eq_getElem_cons h2, sameTs]
theorem sameTs_nil (l m : List Tm) (k : Nat) (h1 : l.length ≤ k) (h2 : m.length ≤ k) : sameTs (l.drop k) (m.drop k) = true := by
  rw [List.drop_of_length_le h1, List.drop_of_length_le h2, sameTs]

def SameAt (x : Tm) : Prop := ∀ (y : Tm) (w : World) (a a' : Option Addr) (n n' cap cap' : Nat), MemW w (.s 4 (Tm.rows x.args)) (.slice a n cap) → MemW w (.s 4 (Tm.rows y.args)) (.slice a' n' cap') →
  Calls Try.prog 55 #[.agg #[.int .i64 x.kind, .string x.name, .int .i64 x.n, .slice a n cap], .agg #[.int .i64 y.kind, .string y.name, .int .i64 y.n, .slice a' n' cap']] w fun e w' => e = .returned (.bool (sameT x y)) ∧ Below w.heap.size w w'
def Same9At (x : Tm) : Prop := ∀ (y : Tm) (w : World) (a a' : Option Addr) (n n' cap cap' : Nat), MemW w (.s 4 (Tm.rows x.args)) (.slice a n cap) → MemW w (.s 4 (Tm.rows y.args)) (.slice a' n' cap') →
  Calls Try.prog 56 #[.agg #[.int .i64 x.kind, .string x.name, .int .i64 x.n, .slice a n cap], .agg #[.int .i64 y.kind, .string y.name, .int .i64 y.n, .slice a' n' cap']] w fun e w' => e = .returned (.bool (sameT x y)) ∧ Below w.heap.size w w'

set_option maxRecDepth 100000 in
set_option maxHeartbeats 2000000 in
theorem equalFunc_any {l m : List Tm} {n n' cap cap' : Nat} {a a' : Option Addr} (w : World) (h : MemW w (.s 4 (Tm.rows l)) (.slice a n cap)) (h' : MemW w (.s 4 (Tm.rows m)) (.slice a' n' cap')) (ih : ∀ x ∈ l, SameAt x) :
    Calls Try.prog 99 #[.slice a n cap, .slice a' n' cap', .func (.func 55) #[] #[]] w fun e w' => e = .returned (.bool (sameTs l m)) ∧ Below w.heap.size w w' := by
  have hl := Tms.len h
  have hl' := Tms.len h'
  have HL := Lib.hid hl.1
  have HL' := Lib.hid hl'.1
  have hcap := hl.2.1
  have hmx := hl.2.2
  have hcap' := hl'.2.1
  have hmx' := hl'.2.2
  have H := Lib.hid h
  have H' := Lib.hid h'
  have IH := Lib.hid ih
  clear hl hl' h h' ih
  by_cases hnn : n = n'
  · subst hnn
    go_enter Try.func99, Try.ntmps99
    go_wp2
    go_loopw [7, 17] (fun _ i wr => ∃ k : Nat, k ≤ n ∧ i = .int .i64 k ∧ Hid (Below w.heap.size w wr) ∧ Hid (sameTs l m = sameTs (l.drop k) (m.drop k))) (fun _ i _ => n - (intOf i).toNat)
    case atStart => exact ⟨0, Nat.zero_le _, rfl, Below.refl _ _, show sameTs l m = _ by rw [List.drop_zero, List.drop_zero]⟩
    case round =>
      obtain ⟨k, hk, rfl, HB, HC⟩ := hrel
      by_cases hlt : k < n
      · obtain ⟨b, o, x, ax, nx, capx, rfl, hbB, Hx, x0, x1, x2, x3, GX⟩ := (Tms.keep H.out HB.out).at k hlt
        obtain ⟨b', o', y, ay, ny, capy, rfl, hbB', Hy, y0, y1, y2, y3, GY⟩ := (Tms.keep H'.out HB.out).at k hlt
        have HD := Lib.hid (sameTs_drop Hx.out Hy.out)
        have GA := Lib.hid (IH.out x (mem_of_at Hx.out))
        have p0 := cell_alloc (.cells #[.int .i64 x.kind, .string x.name, .int .i64 x.n, .slice ax nx capx] 52) y0
        have p1 := cell_alloc (.cells #[.int .i64 x.kind, .string x.name, .int .i64 x.n, .slice ax nx capx] 52) y1
        have p2 := cell_alloc (.cells #[.int .i64 x.kind, .string x.name, .int .i64 x.n, .slice ax nx capx] 52) y2
        have p3 := cell_alloc (.cells #[.int .i64 x.kind, .string x.name, .int .i64 x.n, .slice ax nx capx] 52) y3
        cases hc : sameT x y with
        | true =>
          have HZ := Lib.hid hc
          clear hc
          go_wp2_with (first | (go_at_call 55 ; refine (GA.out y _ ax ay nx ny capx capy (MemW.alloc (MemW.alloc GX.out _) _) (MemW.alloc (MemW.alloc GY.out _) _)).mono ?_; rintro e w2 ⟨rfl, hb⟩; rw [HZ.out]; have HB2 := Lib.hid hb; clear hb))
          go_roundw
          case rel => exact ⟨k + 1, by omega, by go_num, Below.toAA HB.out HB2.out, show sameTs l m = _ by rw [HC.out, HD.out, HZ.out, Bool.true_and]⟩
          case measure => simp [intOf]; omega
        | false =>
          have HZ := Lib.hid hc
          have HF : Hid (sameTs l m = false) := Lib.hid (by rw [HC.out, HD.out, hc, Bool.false_and])
          clear hc
          go_wp2_with (first | (go_at_call 55 ; refine (GA.out y _ ax ay nx ny capx capy (MemW.alloc (MemW.alloc GX.out _) _) (MemW.alloc (MemW.alloc GY.out _) _)).mono ?_; rintro e w2 ⟨rfl, hb⟩; rw [HZ.out]; have HB2 := Lib.hid hb; clear hb))
          go_ret
          exact ⟨ret_bool HF.out.symm, Below.toAA HB.out HB2.out⟩
      · have HF : Hid (sameTs l m = true) := Lib.hid (by rw [HC.out]; exact sameTs_nil _ _ _ (by rw [HL.out]; omega) (by rw [HL'.out]; omega))
        go_wp2
        go_ret
        exact ⟨ret_bool HF.out.symm, HB.out⟩
  · have HF := Lib.hid (sameTs_len l m (by rw [HL.out, HL'.out]; exact hnn))
    have e1 : ((n : Int) != (n' : Int)) = true := by rw [bne_iff_ne]; omega
    clear hnn
    go_enter Try.func99, Try.ntmps99
    go_wp2
    go_ret
    exact ⟨ret_bool HF.out.symm, Below.refl _ _⟩

set_option maxRecDepth 100000 in
set_option maxHeartbeats 2000000 in
theorem same_of {t : Tm} (hx : ∀ x ∈ t.args, SameAt x) : SameAt t := by
  intro u w a a' n n' cap cap' h h'
  by_cases h1 : t.kind = 1 ∧ u.kind = 1
  · have HF := Lib.hid ((sameT_eq t u).trans (if_pos h1))
    have e1 : (t.kind == 1) = true := by rw [beq_iff_eq]; exact h1.1
    have e2 : (u.kind == 1) = true := by rw [beq_iff_eq]; exact h1.2
    clear h1 h h'
    go_enter Try.func55, Try.ntmps55
    go_wp2
    go_ret
    exact ⟨ret_bool HF.out.symm, (below_new _ _).alloc (by simp) _⟩
  have HE := Lib.hid ((sameT_eq t u).trans (if_neg h1))
  have e0 : (t.kind == 1) = false ∨ (t.kind == 1) = true ∧ (u.kind == 1) = false := by
    by_cases k : t.kind = 1
    · exact .inr ⟨by rw [beq_iff_eq]; exact k, by rw [beq_eq_false_iff_ne]; exact fun e => h1 ⟨k, e⟩⟩
    · exact .inl (by rw [beq_eq_false_iff_ne]; exact k)
  clear h1
  by_cases hk : t.kind = u.kind
  · have e3 : (t.kind == u.kind) = true := by rw [beq_iff_eq]; exact hk
    have k1 := Lib.hid (show (t.kind == u.kind) = true by rw [beq_iff_eq]; exact hk)
    have e0' : (t.kind == 1) = false := by
      rcases e0 with e0 | ⟨e0, e1⟩
      · exact e0
      · rw [hk] at e0; rw [e0] at e1; cases e1
    clear e0
    by_cases hs : t.name = u.name
    · have e4 : (t.name == u.name) = true := by rw [beq_iff_eq]; exact hs
      have k2 := Lib.hid (show (t.name == u.name) = true by rw [beq_iff_eq]; exact hs)
      by_cases hn : t.n = u.n
      · have e5 : (t.n == u.n) = true := by rw [beq_iff_eq]; exact hn
        have k3 := Lib.hid (show (t.n == u.n) = true by rw [beq_iff_eq]; exact hn)
        have HG : Hid (sameT t u = sameTs t.args u.args) := Lib.hid (by rw [HE.out, k1.out, k2.out, k3.out, Bool.true_and, Bool.true_and, Bool.true_and])
        clear hk hs hn
        have HB0 : Hid (Below w.heap.size w ((w.alloc (.cells #[.int .i64 t.kind, .string t.name, .int .i64 t.n, .slice a n cap] 52)).alloc (.cells #[.int .i64 u.kind, .string u.name, .int .i64 u.n, .slice a' n' cap'] 52))) := Lib.hid ((below_new w _).alloc (by simp) _)
        have HQ := Lib.hid (equalFunc_any _ (MemW.keep h HB0.out) (MemW.keep h' HB0.out) hx)
        clear h h' hx
        go_enter Try.func55, Try.ntmps55
        go_wp2_with (first | (go_at_call 99 ; refine HQ.out.mono ?_; rintro e w2 ⟨rfl, hb⟩; have HB2 := Lib.hid hb; clear hb))
        go_ret
        exact ⟨ret_bool HG.out.symm, Below.to HB0.out HB2.out⟩
      · have e5 : (t.n == u.n) = false := by rw [beq_eq_false_iff_ne]; exact hn
        have HF : Hid (sameT t u = false) := Lib.hid (by rw [HE.out, show (t.n == u.n) = false by rw [beq_eq_false_iff_ne]; exact hn, Bool.and_false, Bool.false_and])
        clear hk hs hn h h'
        go_enter Try.func55, Try.ntmps55
        go_wp2
        go_ret
        exact ⟨ret_bool HF.out.symm, (below_new _ _).alloc (by simp) _⟩
    · have e4 : (t.name == u.name) = false := by rw [beq_eq_false_iff_ne]; exact hs
      have HF : Hid (sameT t u = false) := Lib.hid (by rw [HE.out, show (t.name == u.name) = false by rw [beq_eq_false_iff_ne]; exact hs, Bool.and_false, Bool.false_and, Bool.false_and])
      clear hk hs h h'
      go_enter Try.func55, Try.ntmps55
      go_wp2
      go_ret
      exact ⟨ret_bool HF.out.symm, (below_new _ _).alloc (by simp) _⟩
  · have e3 : (t.kind == u.kind) = false := by rw [beq_eq_false_iff_ne]; exact hk
    have HF : Hid (sameT t u = false) := Lib.hid (by rw [HE.out, show (t.kind == u.kind) = false by rw [beq_eq_false_iff_ne]; exact hk, Bool.false_and, Bool.false_and, Bool.false_and])
    clear hk h h'
    rcases e0 with e0 | ⟨e0, e1⟩
    all_goals
      go_enter Try.func55, Try.ntmps55
      go_wp2
      go_ret
      exact ⟨ret_bool HF.out.symm, (below_new _ _).alloc (by simp) _⟩
theorem same_size (m : Nat) : ∀ t, t.size ≤ m → SameAt t := by
  induction m with
  | zero => intro t h; have := t.size_pos; omega
  | succ m ih => intro t h; exact same_of fun x hx => ih x (by have := Tm.size_arg hx; omega)
theorem same11_any (t : Tm) : SameAt t := same_size t.size t (Nat.le_refl _)

set_option maxRecDepth 100000 in
set_option maxHeartbeats 2000000 in
theorem same9_of {t : Tm} (hx : ∀ x ∈ t.args, Same9At x) : Same9At t := by
  intro u w a a' n n' cap cap' h h'
  by_cases h1 : t.kind = 1 ∧ u.kind = 1
  · have HF := Lib.hid ((sameT_eq t u).trans (if_pos h1))
    have e1 : (t.kind == 1) = true := by rw [beq_iff_eq]; exact h1.1
    have e2 : (u.kind == 1) = true := by rw [beq_iff_eq]; exact h1.2
    clear h1 h h'
    go_enter Try.func56, Try.ntmps56
    go_wp2
    go_ret
    exact ⟨ret_bool HF.out.symm, (below_new _ _).alloc (by simp) _⟩
  have HE := Lib.hid ((sameT_eq t u).trans (if_neg h1))
  have e0 : (t.kind == 1) = false ∨ (t.kind == 1) = true ∧ (u.kind == 1) = false := by
    by_cases k : t.kind = 1
    · exact .inr ⟨by rw [beq_iff_eq]; exact k, by rw [beq_eq_false_iff_ne]; exact fun e => h1 ⟨k, e⟩⟩
    · exact .inl (by rw [beq_eq_false_iff_ne]; exact k)
  clear h1
  by_cases hk : t.kind = u.kind
  · have e3 : (t.kind != u.kind) = false := by rw [bne_eq_false_iff_eq]; exact hk
    have k1 := Lib.hid (show (t.kind == u.kind) = true by rw [beq_iff_eq]; exact hk)
    have e0' : (t.kind == 1) = false := by
      rcases e0 with e0 | ⟨e0, e1⟩
      · exact e0
      · rw [hk] at e0; rw [e0] at e1; cases e1
    clear e0
    by_cases hs : t.name = u.name
    · have e4 : (t.name == u.name) = true := by rw [beq_iff_eq]; exact hs
      have k2 := Lib.hid (show (t.name == u.name) = true by rw [beq_iff_eq]; exact hs)
      by_cases hn : t.n = u.n
      · have e5 : (t.n != u.n) = false := by rw [bne_eq_false_iff_eq]; exact hn
        have k3 := Lib.hid (show (t.n == u.n) = true by rw [beq_iff_eq]; exact hn)
        have HG : Hid (sameT t u = sameTs t.args u.args) := Lib.hid (by rw [HE.out, k1.out, k2.out, k3.out, Bool.true_and, Bool.true_and, Bool.true_and])
        clear hk hs hn
        have hl := Tms.len h
        have hl' := Tms.len h'
        by_cases hnn : n = n'
        · subst hnn
          have HL := Lib.hid hl.1
          have HL' := Lib.hid hl'.1
          have hcap := hl.2.1
          have hmx := hl.2.2
          have hcap' := hl'.2.1
          have hmx' := hl'.2.2
          have H := Lib.hid h
          have H' := Lib.hid h'
          have IH := Lib.hid hx
          clear hl hl' h h' hx
          go_enter Try.func56, Try.ntmps56
          go_wp2
          go_loopw [5, 50] (fun _ i wr => ∃ k : Nat, k ≤ n ∧ i = .int .i64 k ∧ Hid (Below w.heap.size w wr) ∧ Hid (Bo wr w.heap.size 52 #[.int .i64 t.kind, .string t.name, .int .i64 t.n, .slice a n cap]) ∧ Hid (Bo wr (w.heap.size + 1) 52 #[.int .i64 u.kind, .string u.name, .int .i64 u.n, .slice a' n cap']) ∧ Hid (sameTs t.args u.args = sameTs (t.args.drop k) (u.args.drop k))) (fun _ i _ => n - (intOf i).toNat)
          case atStart => exact ⟨0, Nat.zero_le _, rfl, (below_new _ _).alloc (by simp) _, (Bo.new _ _ _).alloc _, Lib.hid (World.size_alloc w _ ▸ Bo.new _ _ _), show sameTs t.args u.args = _ by rw [List.drop_zero, List.drop_zero]⟩
          case round =>
            obtain ⟨k, hk, rfl, HB, HX, HY, HC⟩ := hrel
            by_cases hlt : k < n
            · obtain ⟨q0, q1, q2, c1⟩ := HX.out.c4
              obtain ⟨r0, r1, r2, c2⟩ := HY.out.c4
              obtain ⟨b, o, x, ax, nx, capx, rfl, hbB, Hx, x0, x1, x2, x3, GX⟩ := (Tms.keep H.out HB.out).at k hlt
              obtain ⟨b', o', y, ay, ny, capy, rfl, hbB', Hy, y0, y1, y2, y3, GY⟩ := (Tms.keep H'.out HB.out).at k hlt
              have HD := Lib.hid (sameTs_drop Hx.out Hy.out)
              have GA := Lib.hid (IH.out x (mem_of_at Hx.out))
              clear q0 q1 q2 r0 r1 r2
              cases hc : sameT x y with
              | true =>
                have HZ := Lib.hid hc
                clear hc
                go_wp2
                go_still_tail 10, (by kernel_rfl)
                change wpList _ _ _ _ _ wr.drew
                go_wp2_with (first | (go_at_call 56 ; refine (GA.out y _ _ _ _ _ _ _ (MemW.drew GX.out) (MemW.drew GY.out)).mono ?_; rintro e w2 ⟨rfl, hb⟩; rw [HZ.out]; have HB2 := Lib.hid hb; clear hb))
                go_roundw
                case rel => exact ⟨k + 1, by omega, by go_num, Below.toD HB.out HB2.out, HX.out.keep (Below.one HB2.out), HY.out.keep (Below.one HB2.out), show sameTs t.args u.args = _ by rw [HC.out, HD.out, HZ.out, Bool.true_and]⟩
                case measure => simp [intOf]; omega
              | false =>
                have HZ := Lib.hid hc
                have HF : Hid (sameT t u = false) := Lib.hid (by rw [HG.out, HC.out, HD.out, hc, Bool.false_and])
                clear hc
                go_wp2
                go_still_tail 10, (by kernel_rfl)
                change wpList _ _ _ _ _ wr.drew
                go_wp2_with (first | (go_at_call 56 ; refine (GA.out y _ _ _ _ _ _ _ (MemW.drew GX.out) (MemW.drew GY.out)).mono ?_; rintro e w2 ⟨rfl, hb⟩; rw [HZ.out]; have HB2 := Lib.hid hb; clear hb))
                go_ret
                exact ⟨ret_bool HF.out.symm, Below.toD HB.out HB2.out⟩
            · have HF : Hid (sameT t u = true) := Lib.hid (by rw [HG.out, HC.out]; exact sameTs_nil _ _ _ (by rw [HL.out]; omega) (by rw [HL'.out]; omega))
              go_wp2
              go_ret
              exact ⟨ret_bool HF.out.symm, HB.out⟩
        · have HF : Hid (sameT t u = false) := Lib.hid (by rw [HG.out]; exact sameTs_len _ _ (by rw [hl.1, hl'.1]; exact hnn))
          have e6 : ((n : Int) != (n' : Int)) = true := by rw [bne_iff_ne]; omega
          clear hnn h h' hx hl hl'
          go_enter Try.func56, Try.ntmps56
          go_wp2
          go_ret
          exact ⟨ret_bool HF.out.symm, (below_new _ _).alloc (by simp) _⟩
      · have e5 : (t.n != u.n) = true := by rw [bne_iff_ne]; exact hn
        have HF : Hid (sameT t u = false) := Lib.hid (by rw [HE.out, show (t.n == u.n) = false by rw [beq_eq_false_iff_ne]; exact hn, Bool.and_false, Bool.false_and])
        clear hk hs hn h h'
        go_enter Try.func56, Try.ntmps56
        go_wp2
        go_ret
        exact ⟨ret_bool HF.out.symm, (below_new _ _).alloc (by simp) _⟩
    · have e4 : (t.name == u.name) = false := by rw [beq_eq_false_iff_ne]; exact hs
      have HF : Hid (sameT t u = false) := Lib.hid (by rw [HE.out, show (t.name == u.name) = false by rw [beq_eq_false_iff_ne]; exact hs, Bool.and_false, Bool.false_and, Bool.false_and])
      clear hk hs h h'
      go_enter Try.func56, Try.ntmps56
      go_wp2
      go_ret
      exact ⟨ret_bool HF.out.symm, (below_new _ _).alloc (by simp) _⟩
  · have e3 : (t.kind != u.kind) = true := by rw [bne_iff_ne]; exact hk
    have HF : Hid (sameT t u = false) := Lib.hid (by rw [HE.out, show (t.kind == u.kind) = false by rw [beq_eq_false_iff_ne]; exact hk, Bool.false_and, Bool.false_and, Bool.false_and])
    clear hk h h'
    rcases e0 with e0 | ⟨e0, e1⟩
    all_goals
      go_enter Try.func56, Try.ntmps56
      go_wp2
      go_ret
      exact ⟨ret_bool HF.out.symm, (below_new _ _).alloc (by simp) _⟩
theorem same9_size (m : Nat) : ∀ t, t.size ≤ m → Same9At t := by
  induction m with
  | zero => intro t h; have := t.size_pos; omega
  | succ m ih => intro t h; exact same9_of fun x hx => ih x (by have := Tm.size_arg hx; omega)
theorem same9_any (t : Tm) : Same9At t := same9_size t.size t (Nat.le_refl _)
end Go.Proofs.Ytemkpecagflafaa
