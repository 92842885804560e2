/-
  SameType: whether two types are the same. No condition but how they lie.
-/
import Derived.Test.YtcoiagfeoonpbaaSt6
import Derived.StillTailTactics
namespace Go.Proofs.Ytcoiagfeoonpbaa
open Go.RowKit
noncomputable instance tmDec : DecidableEq Tm := fun _ _ => Classical.propDecidable _
attribute [local go_sem] toList_beq
theorem neq_toList (a b : ByteArray) : (a.toList != b.toList) = (a != b) := by rw [bne, bne, toList_beq]
attribute [local go_sem] neq_toList
theorem tm_ext {t u : Tm} (h1 : t.kind = u.kind) (h2 : t.name = u.name) (h3 : t.n = u.n) (h4 : t.args = u.args) : t = u := by
  rw [← t.eta, ← u.eta, h1, h2, h3, h4]
end Go.Proofs.Ytcoiagfeoonpbaa

/-
  Whether two types are the same: module.SameType, and slices.EqualFunc with it, as decisions. No condition but how they lie.
-/
namespace Go.Proofs.Ytcoiagfeoonpbaa
open Go.RowKit
attribute [local go_sem] toList_beq neq_toList
noncomputable def dT (t u : Tm) : Bool := decide (t = u)
noncomputable def dTs (l m : List Tm) : Bool := decide (l = m)
theorem dTs_len (l m : List Tm) (h : l.length ≠ m.length) : dTs l m = false := decide_eq_false fun e => h (by rw [e])
theorem dTs_drop {l m : List Tm} {k : Nat} {x y : Tm} (hx : l[k]? = some x) (hy : m[k]? = some y) : dTs (l.drop k) (m.drop k) = (dT x y && dTs (l.drop (k + 1)) (m.drop (k + 1))) := by
  obtain ⟨h1, rfl⟩ := List.getElem?_eq_some_iff.1 hx
  obtain ⟨h2, rfl⟩ := List.getElem?_eq_some_iff.1 hy
  have e1 := List.drop_eq_getElem_cons h1
  have e2 := List.drop_eq_getElem_cons h2
  unfold dTs dT
  rw [Bool.eq_iff_iff, e1, e2]
  simp only [decide_eq_true_eq, Bool.and_eq_true, List.cons.injEq]
theorem dTs_nil (l m : List Tm) (k : Nat) (h1 : l.length ≤ k) (h2 : m.length ≤ k) : dTs (l.drop k) (m.drop k) = true := by
  rw [List.drop_of_length_le h1, List.drop_of_length_le h2]; rfl
def SameDAt (x : Tm) : Prop := ∀ (y : Tm) (w : World) (a a' : Option Addr) (n n' cap cap' : Nat), MemW w (.s 4 (Tm.rows x.args)) (.slice a n cap) → MemW w (.s 4 (Tm.rows y.args)) (.slice a' n' cap') →
  Calls Try.prog 15 #[.agg #[.int .i64 x.kind, .string x.name, .int .i64 x.n, .slice a n cap], .agg #[.int .i64 y.kind, .string y.name, .int .i64 y.n, .slice a' n' cap']] w fun e w' => e = .returned (.bool (dT x y)) ∧ Below w.heap.size w w'
theorem dT_kind {x y : Tm} (h : x.kind ≠ y.kind) : dT x y = false := decide_eq_false fun e => h (by rw [e])
theorem dT_name {x y : Tm} (h : x.name ≠ y.name) : dT x y = false := decide_eq_false fun e => h (by rw [e])
theorem dT_n {x y : Tm} (h : x.n ≠ y.n) : dT x y = false := decide_eq_false fun e => h (by rw [e])
theorem dT_args {x y : Tm} (h1 : x.kind = y.kind) (h2 : x.name = y.name) (h3 : x.n = y.n) : dT x y = dTs x.args y.args := by
  unfold dT dTs
  rw [Bool.eq_iff_iff]
  simp only [decide_eq_true_eq]
  exact ⟨fun e => by rw [e], fun e => tm_ext h1 h2 h3 e⟩
set_option maxRecDepth 100000 in
set_option maxHeartbeats 2000000 in
theorem equalFuncD {l m : List Tm} {n n' cap cap' : Nat} {a a' : Option Addr} (w : World) (h : MemW w (.s 4 (Tm.rows l)) (.slice a n cap)) (h' : MemW w (.s 4 (Tm.rows m)) (.slice a' n' cap')) (ih : ∀ x ∈ l, SameDAt x) :
    Calls Try.prog 36 #[.slice a n cap, .slice a' n' cap', .func (.func 15) #[] #[]] w fun e w' => e = .returned (.bool (dTs l m)) ∧ Below w.heap.size w w' := by
  have hl := Tms.len h
  have hl' := Tms.len h'
  have HL := Lib.hid hl.1
  have HL' := Lib.hid hl'.1
  have hcap := hl.2.1
  have hmx := hl.2.2
  have hcap' := hl'.2.1
  have hmx' := hl'.2.2
  have H := Lib.hid h
  have H' := Lib.hid h'
  have IH := Lib.hid ih
  clear hl hl' h h' ih
  by_cases hnn : n = n'
  · subst hnn
    go_enter Try.func36, Try.ntmps36
    go_wp2
    go_loopw [7, 17] (fun _ i wr => ∃ k : Nat, k ≤ n ∧ i = .int .i64 k ∧ Hid (Below w.heap.size w wr) ∧ Hid (dTs l m = dTs (l.drop k) (m.drop k))) (fun _ i _ => n - (intOf i).toNat)
    case atStart => exact ⟨0, Nat.zero_le _, rfl, Below.refl _ _, show dTs l m = _ by rw [List.drop_zero, List.drop_zero]⟩
    case round =>
      obtain ⟨k, hk, rfl, HB, HC⟩ := hrel
      by_cases hlt : k < n
      · obtain ⟨b, o, x, ax, nx, capx, rfl, hbB, Hx, x0, x1, x2, x3, GX⟩ := (Tms.keep H.out HB.out).at k hlt
        obtain ⟨b', o', y, ay, ny, capy, rfl, hbB', Hy, y0, y1, y2, y3, GY⟩ := (Tms.keep H'.out HB.out).at k hlt
        have HD := Lib.hid (dTs_drop Hx.out Hy.out)
        have GA := Lib.hid (IH.out x (mem_of_at Hx.out))
        have p0 := cell_alloc (.cells #[.int .i64 x.kind, .string x.name, .int .i64 x.n, .slice ax nx capx] 39) y0
        have p1 := cell_alloc (.cells #[.int .i64 x.kind, .string x.name, .int .i64 x.n, .slice ax nx capx] 39) y1
        have p2 := cell_alloc (.cells #[.int .i64 x.kind, .string x.name, .int .i64 x.n, .slice ax nx capx] 39) y2
        have p3 := cell_alloc (.cells #[.int .i64 x.kind, .string x.name, .int .i64 x.n, .slice ax nx capx] 39) y3
        cases hc : dT x y with
        | true =>
          have HZ := Lib.hid hc
          clear hc
          go_wp2_with (first | (go_at_call 15 ; refine (GA.out y _ ax ay nx ny capx capy (MemW.alloc (MemW.alloc GX.out _) _) (MemW.alloc (MemW.alloc GY.out _) _)).mono ?_; rintro e w2 ⟨rfl, hb⟩; rw [HZ.out]; have HB2 := Lib.hid hb; clear hb))
          go_roundw
          case rel => exact ⟨k + 1, by omega, by go_num, Below.toAA HB.out HB2.out, show dTs l m = _ by rw [HC.out, HD.out, HZ.out, Bool.true_and]⟩
          case measure => simp [intOf]; omega
        | false =>
          have HZ := Lib.hid hc
          have HF : Hid (dTs l m = false) := Lib.hid (by rw [HC.out, HD.out, hc, Bool.false_and])
          clear hc
          go_wp2_with (first | (go_at_call 15 ; refine (GA.out y _ ax ay nx ny capx capy (MemW.alloc (MemW.alloc GX.out _) _) (MemW.alloc (MemW.alloc GY.out _) _)).mono ?_; rintro e w2 ⟨rfl, hb⟩; rw [HZ.out]; have HB2 := Lib.hid hb; clear hb))
          go_ret
          exact ⟨ret_bool HF.out.symm, Below.toAA HB.out HB2.out⟩
      · have HF : Hid (dTs l m = true) := Lib.hid (by rw [HC.out]; exact dTs_nil _ _ _ (by rw [HL.out]; omega) (by rw [HL'.out]; omega))
        go_wp2
        go_ret
        exact ⟨ret_bool HF.out.symm, HB.out⟩
  · have HF := Lib.hid (dTs_len l m (by rw [HL.out, HL'.out]; exact hnn))
    have e1 : ((n : Int) != (n' : Int)) = true := by rw [bne_iff_ne]; omega
    clear hnn
    go_enter Try.func36, Try.ntmps36
    go_wp2
    go_ret
    exact ⟨ret_bool HF.out.symm, Below.refl _ _⟩
set_option maxRecDepth 100000 in
set_option maxHeartbeats 2000000 in
theorem sameD_of {x : Tm} (hx : ∀ z ∈ x.args, SameDAt z) : SameDAt x := by
  intro y w a a' n n' cap cap' h h'
  have HE := Lib.hid (fun (w2 : World) (g1 : MemW w2 (.s 4 (Tm.rows x.args)) (.slice a n cap)) (g2 : MemW w2 (.s 4 (Tm.rows y.args)) (.slice a' n' cap')) => equalFuncD w2 g1 g2 hx)
  have H1 := Lib.hid h
  have H2 := Lib.hid h'
  clear h h' hx
  have HB := Lib.hid ((below_new w (.cells #[.int .i64 x.kind, .string x.name, .int .i64 x.n, .slice a n cap] 39)).alloc (by rw [World.size_alloc]; omega) (.cells #[.int .i64 y.kind, .string y.name, .int .i64 y.n, .slice a' n' cap'] 39))
  by_cases hk : x.kind = y.kind
  · have e1 : (x.kind == y.kind) = true := by simp [hk]
    by_cases hs : x.name = y.name
    · have e2 : (x.name == y.name) = true := by simp [hs]
      by_cases hn : x.n = y.n
      · have e3 : (x.n == y.n) = true := by simp [hn]
        have HZ := Lib.hid (dT_args hk hs hn)
        clear hk hs hn
        generalize x.kind = xk at *
        generalize y.kind = yk at *
        generalize x.name = xs at *
        generalize y.name = ys at *
        generalize x.n = xn at *
        generalize y.n = yn at *
        go_enter Try.func15, Try.ntmps15
        go_wp2_with (fail)
        refine (HE.out _ (H1.out.keep HB.out) (H2.out.keep HB.out)).mono ?_
        rintro e w4 ⟨rfl, hb4⟩
        have HB4 := Lib.hid (HB.out.trans (hb4.mono HB.out.size))
        clear hb4
        generalize hq : dTs x.args y.args = q at HZ ⊢
        go_wp2_with (fail)
        go_ret
        exact ⟨ret_bool HZ.out.symm, HB4.out⟩
      · have e3 : (x.n == y.n) = false := by simp [hn]
        have HZ := Lib.hid (dT_n hn)
        clear hk hs hn HE
        go_enter Try.func15, Try.ntmps15
        go_wp2_with (fail)
        go_ret
        exact ⟨ret_bool HZ.out.symm, HB.out⟩
    · have e2 : (x.name == y.name) = false := by simp [hs]
      have HZ := Lib.hid (dT_name hs)
      clear hk hs HE
      go_enter Try.func15, Try.ntmps15
      go_wp2_with (fail)
      go_ret
      exact ⟨ret_bool HZ.out.symm, HB.out⟩
  · have e1 : (x.kind == y.kind) = false := by simp [hk]
    have HZ := Lib.hid (dT_kind hk)
    clear hk HE
    go_enter Try.func15, Try.ntmps15
    go_wp2_with (fail)
    go_ret
    exact ⟨ret_bool HZ.out.symm, HB.out⟩
theorem sameD_size : ∀ (m : Nat) (x : Tm), SizeOf.sizeOf x ≤ m → SameDAt x
  | 0, x, h => by cases x; simp at h
  | m + 1, x, h => sameD_of fun z hz => sameD_size m z (by
    cases x with
    | mk k s n xs =>
      have h3 := List.sizeOf_lt_of_mem (show z ∈ xs from hz)
      simp at h
      omega)
theorem sameD_any (x : Tm) : SameDAt x := sameD_size _ x (Nat.le_refl _)
end Go.Proofs.Ytcoiagfeoonpbaa

/-
  All: a type (a term), and all that is in it, as a list. No condition but how it lies, and how many there are.
-/
namespace Go.Proofs.Ytcoiagfeoonpbaa
open Go.RowKit
theorem info_type : (Try.prog.info? 39).map (fun i => (i.zero, i.size, i.bytes)) = some (some (.agg #[.int .i64 0, .string .empty, .int .i64 0, .slice none 0 0]), 4, 56) := by kernel_rfl
set_option maxRecDepth 100000 in
set_option maxHeartbeats 2000000 in
theorem all09_any (m : Nat) : ∀ (t : Tm) (B n cap : Nat) (a : Option Addr) (w : World), t.size ≤ m → m ≤ 1048576 → Mem (· < B) w (.s 4 (Tm.rows t.args)) (.slice a n cap) → B ≤ w.heap.size →
    Calls Try.prog 12 #[.agg #[.int .i64 t.kind, .string t.name, .int .i64 t.n, .slice a n cap]] w (Gives B 4 (Tm.rows t.all) w) := by
  induction m with
  | zero => intro t _ _ _ _ w h; have := t.size_pos; omega
  | succ m ih =>
    intro t B n cap a w hm hmm h hB
    have IH := Lib.hid ih
    clear ih
    have hl := h.len
    rw [Tm.rows_len] at hl
    have hln := Lib.hid hl.1
    have hcap := hl.2.1
    have hmx := hl.2.2
    clear hl
    have HA := Lib.hid (show ∀ x ∈ t.args, x.size ≤ m from fun x hx => by have := Tm.size_arg hx; omega)
    have HM := Lib.hid (show t.size ≤ 1048576 by omega)
    have HMM := Lib.hid (show m ≤ 1048576 by omega)
    clear hm hmm
    have H := Lib.hid h
    clear h
    have H0 := Lib.hid hB
    clear hB
    go_enter Try.func12, Try.ntmps12
    go_wp2
    go_loopw [3, 11] (fun v i wr => ∃ k : Nat, k ≤ n ∧ i = .int .i64 k ∧ Hid (Below w.heap.size w wr) ∧ Hid (OwnD B w.heap.size 39 4 wr v (Tm.rows (t :: Tm.alls (t.args.take k))))) (fun _ i _ => n - (intOf i).toNat)
    case atStart =>
      refine ⟨0, Nat.zero_le _, rfl, (below_new _ _).alloc (by simp) _, ?_⟩
      have := tm_one (B := B) (base := w.heap.size) (e := 39) (w := w.alloc (.cells #[.int .i64 t.kind, .string t.name, .int .i64 t.n, .slice a n cap] 39)) t ((H.out.keep (Nat.le_refl _) ((below_new w _).mono H0.out)).mono (fun b hb => ⟨.inl hb, by have := H0.out; rw [World.size_alloc]; omega⟩) fun _ _ => rfl) (by simp)
      rw [World.size_alloc] at this
      rw [List.take_zero, Tm.alls]
      exact this
    case round =>
      obtain ⟨k, hk, rfl, HB, HO⟩ := hrel
      by_cases hlt : k < n
      · obtain ⟨b, o, x, ax, nx, capx, rfl, hbB, Hx, x0, x1, x2, x3, GX⟩ := tm_at (H.out.keep (Nat.le_refl _) (HB.out.mono H0.out)) k hlt
        have GA := Lib.hid (HA.out x (mem_of_at Hx.out))
        have HW := Lib.hid (show B ≤ wr.heap.size from Nat.le_trans H0.out HB.out.size)
        have HL := Lib.hid (show (Tm.rows (t :: Tm.alls (t.args.take k))).length + (Tm.rows x.all).length ≤ 1048576 by
          have h1 := HM.out
          rw [Tm.size_eq] at h1
          have h2 := Tm.alls_le (ts := t.args) (k + 1)
          rw [Tm.alls_at Hx.out, List.length_append] at h2
          rw [Tm.rows_len, Tm.rows_len, List.length_cons]; omega)
        go_wp2_with (first
          | (go_at_call 12
             refine (IH.out x B _ _ _ _ GA.out HMM.out (GX.out.keep (Nat.le_refl _) ((below_new wr _).mono HW.out)) (by have := HW.out; rw [World.size_alloc]; omega)).mono ?_
             rintro e w2 ⟨a2, n2, cap2, rfl, hb, hm⟩
             have HB2 := Lib.hid hb; clear hb
             have HM2 := Lib.hid hm; clear hm)
          | (at_builtin
             refine wpList_append_D rfl _ _ rfl Try.underlying37 info_type rfl (by decide) rfl rfl ((HO.out.alloc _).keep HB2.out) ((HO.out.alloc _).apart H0.out (by have := HB.out.size; rw [World.size_alloc]; omega) HM2.out) (by have := HL.out; omega) (by have := HL.out; omega) (by have := HB.out.size; have := HB2.out.size; rw [World.size_alloc] at this; omega) ?_
             intro v' w3 ho hg
             have HO3 := Lib.hid ho; clear ho
             have HG3 := Lib.hid hg; clear hg))
        go_roundw
        case rel =>
          refine ⟨k + 1, by omega, by go_num, grown_below (Below.toA HB.out HB2.out) HG3.out (Nat.le_refl _) (fun b hb => (HO.out.lt b hb).1), ?_⟩
          have := HO3.out
          rw [← Tm.rows_app, List.cons_append, ← Tm.alls_at Hx.out] at this
          exact this
        case measure => simp [intOf]; omega
      · have hk' : t.args.take k = t.args := List.take_of_length_le (by rw [hln.out]; omega)
        rw [hk', ← Tm.all_eq] at HO
        clear hk'
        obtain ⟨a', cap', rfl, _, _⟩ := HO.out.form
        go_wp2
        go_ret
        exact ⟨_, _, _, rfl, HB.out, HO.out.mem⟩
theorem all09 {t : Tm} {B n cap : Nat} {a : Option Addr} {w : World} (hm : t.size ≤ 1048576) (h : Mem (· < B) w (.s 4 (Tm.rows t.args)) (.slice a n cap)) (hB : B ≤ w.heap.size) :
    Calls Try.prog 12 #[.agg #[.int .i64 t.kind, .string t.name, .int .i64 t.n, .slice a n cap]] w (Gives B 4 (Tm.rows t.all) w) := all09_any 1048576 t B n cap a w hm (Nat.le_refl _) h hB
end Go.Proofs.Ytcoiagfeoonpbaa
