/-
  ty.Vars: the variables of a type, each once. No condition but how it lies, and how great it is.
-/
import Derived.Test.YtemkpecagflafaaEachTy
import Derived.Test.YtemkpecagflafaaAppInt
import Derived.Test.YtemkpecagflafaaIndexI
namespace Go.Proofs.Ytemkpecagflafaa
open Go.RowKit
attribute [local go_sem] Oper.semAt_some

theorem vrs_has {k : Int} {l : List Int} {ts : List Tm} {x : Tm} (hk : x.kind = k) (h : x.n ∈ vrs k l ts) : vrs k l (ts ++ [x]) = vrs k l ts := by rw [vrs_snoc, if_pos hk]; unfold putI; rw [if_pos h]
theorem vrs_new {k : Int} {l : List Int} {ts : List Tm} {x : Tm} (hk : x.kind = k) (h : x.n ∉ vrs k l ts) : vrs k l (ts ++ [x]) = vrs k l ts ++ [x.n] := by rw [vrs_snoc, if_pos hk]; unfold putI; rw [if_neg h]
theorem vrs_not {k : Int} {l : List Int} {ts : List Tm} {x : Tm} (hk : ¬ x.kind = k) : vrs k l (ts ++ [x]) = vrs k l ts := by rw [vrs_snoc, if_neg hk]

set_option maxRecDepth 100000 in
set_option maxHeartbeats 2000000 in
theorem vars11_any {t : Tm} {a : Option Addr} {n cap : Nat} (w : World) (h : MemW w (.s 4 (Tm.rows t.args)) (.slice a n cap)) (hs : t.size ≤ 1048576) :
    Calls Try.prog 60 #[.agg #[.int .i64 t.kind, .string t.name, .int .i64 t.n, .slice a n cap]] w (Gives 0 1 (intRows (vrs 1 [] t.all)) w) := by
  have b2 := Bo.new ((w.alloc (.cells #[.int .i64 t.kind, .string t.name, .int .i64 t.n, .slice a n cap] 52)).alloc (.cells #[.slice none 0 0] 22)) 52 #[.int .i64 t.kind, .string t.name, .int .i64 t.n, .slice a n cap]
  have b1 := (Boxed.new (w.alloc (.cells #[.int .i64 t.kind, .string t.name, .int .i64 t.n, .slice a n cap] 52)) 22 (.slice none 0 0)).alloc (.cells #[.int .i64 t.kind, .string t.name, .int .i64 t.n, .slice a n cap] 52)
  have hB0 : Below w.heap.size w (((w.alloc (.cells #[.int .i64 t.kind, .string t.name, .int .i64 t.n, .slice a n cap] 52)).alloc (.cells #[.slice none 0 0] 22)).alloc (.cells #[.int .i64 t.kind, .string t.name, .int .i64 t.n, .slice a n cap] 52)) := (((Below.refl _ w).alloc (Nat.le_refl _) _).alloc (by simp) _).alloc (by simp; omega) _
  have hsz : (((w.alloc (.cells #[.int .i64 t.kind, .string t.name, .int .i64 t.n, .slice a n cap] 52)).alloc (.cells #[.slice none 0 0] 22)).alloc (.cells #[.int .i64 t.kind, .string t.name, .int .i64 t.n, .slice a n cap] 52)).heap.size = w.heap.size + 3 := by simp
  simp only [World.size_alloc] at b1 b2
  have H1 := Lib.hid b1
  have H2 := Lib.hid b2
  have HB0 := Lib.hid hB0
  have HSZ := Lib.hid hsz
  have HS := Lib.hid hs
  clear b1 b2 hB0 hsz hs
  refine (callsIn_wide (n := 9)).1 ?_
  refine callsIn_of_wp_marks Try.func60 rfl trivial ?_ rfl; simp only [Try.ntmps60, List.size_toArray, List.length_cons, List.length_nil, Nat.reduceAdd, Nat.reduceSub, Array.replicate_succ, Array.replicate_zero, List.push_toArray, List.append_toArray, List.nil_append, List.cons_append]
  refine wpIn_wide.2 ?_
  go_wp2_with (first | (go_at_call 51; refine (all11_any _ _ _ _ _).mono ?_; rintro e w' ⟨rfl, rfl⟩))
  refine (wpIn_wide (n := 9)).1 ?_
  generalize (((w.alloc (.cells #[.int .i64 t.kind, .string t.name, .int .i64 t.n, .slice a n cap] 52)).alloc (.cells #[.slice none 0 0] 22)).alloc (.cells #[.int .i64 t.kind, .string t.name, .int .i64 t.n, .slice a n cap] 52)) = w3 at *
  have hseq : IterT Try.prog 96 #[.pointer (some ⟨w.heap.size + 1 + 1, 0, none⟩)] w t [w.heap.size + 1] [w.heap.size + 1] w3 := all1_type h H2.out (Sd.new HB0.out (fun b hb => by simp at hb; have := HSZ.out; omega) (fun k hk => by
    rcases hk with h | ⟨b, hb, n, c, hc⟩
    · simp at h; have := HSZ.out; omega
    · obtain rfl : b = w.heap.size + 1 := by simpa using hb
      rw [H1.out.cell] at hc; cases hc))
  refine wpIn_rangeFunc_ownH (w0 := w3) rfl (by decide) (gf := 96) (lb := #[.pointer (some ⟨w.heap.size + 1 + 1, 0, none⟩)]) rfl trivial (enters_of Try.func96 (by kernel_rfl) rfl)
    (hseq 8) (fun h k => KpT.trans h k) (KpT_b (fun b hb => by simp at hb; have := HSZ.out; omega)) (Below.refl _ _) (fun _ => rfl)
    (fun pre W => HoldsD (w.heap.size + 1) 0 (w.heap.size + 2) 22 3 1 (fun pre => intRows (vrs 1 [] (pre.map Fx.t))) (fun _ => True) pre W ∧ Below w.heap.size w W)
    (fun _ _ _ => False)
    (OwnFrom.and (Own.from (holdsD_own _ _ _ _ _ _ _ _) _) (ownFrom_below (Nat.le_refl _) (by rw [HSZ.out]; omega)))
    (fun _ _ _ _ _ hs _ _ => hs)
    ⟨⟨_, H1.out, OwnD.nil _ _ _ _ _, trivial⟩, HB0.out⟩
    (fun x A' W => ∃ Bx, w.heap.size + 1 < Bx ∧ Bo W Bx 52 #[.int .i64 x.t.kind, .string x.t.name, .int .i64 x.t.n, .slice x.a x.n x.cap] ∧ A' = { tmps := #[.agg #[.int .i64 t.kind, .string t.name, .int .i64 t.n, .slice a n cap], .pointer (some ⟨w.heap.size, 0, none⟩), .slice none 0 0, .pointer (some ⟨w.heap.size + 1, 0, none⟩), .pointer (some ⟨Bx, 0, none⟩), .agg #[.int .i64 t.kind, .string t.name, .int .i64 t.n, .slice a n cap], .func (.func 96) #[] #[.pointer (some ⟨w.heap.size + 1 + 1, 0, none⟩)], .agg #[.int .i64 x.t.kind, .string x.t.name, .int .i64 x.t.n, .slice x.a x.n x.cap], undef, undef, undef, undef, undef, undef, undef, undef, undef, undef, undef, undef, undef, undef, undef, undef], defers := [] })
    (fun x _ _ X Y row hs hg hr => by obtain ⟨Bx, e1, e2, e3⟩ := hs; exact ⟨Bx, e1, e2.own hg (fun r e => (hr r e).2), e3⟩)
    ?assign ?body ?done ?stop
  case assign =>
    rintro l pre x W K ⟨⟨v, hv, hO, _⟩, hB⟩ hK
    simp only [Fx.enc]
    gi_wp2
    exact hK _ _ ((KeepsOthers.alloc _ _).from _) (KpT.alloc _ (fun b hb => by simp at hb; subst hb; exact hv.lt)) ⟨⟨v, hv.alloc _, hO.alloc _, trivial⟩, hB.alloc hB.size _⟩ ⟨W.heap.size, hv.lt, Bo.new W _ _, rfl⟩
  case body =>
    rintro l pre x A' W hl ⟨r, hr⟩ ⟨⟨v, hv, hO, _⟩, hB⟩ ⟨Bx, hBx, bX, rfl⟩ hlt
    obtain ⟨c0, c1, c2, c3⟩ := bX.c4
    have hO : OwnD 0 (w.heap.size + 2) 3 1 W v (intRows (vrs 1 [] (pre.map Fx.t))) := hO
    obtain ⟨va, vc, rfl, _, _⟩ := hO.form
    rw [intRows_len] at *
    have cR := hv.cell
    have fR := hv.frozen
    have hVL := vrs_len 1 [] (pre.map Fx.t)
    rw [List.length_map, List.length_nil, Nat.zero_add] at hVL
    have hsn : (pre ++ [x]).map Fx.t = pre.map Fx.t ++ [x.t] := by rw [List.map_append]; rfl
    have HSN : Hid (∀ V, vrs 1 [] (pre.map Fx.t ++ [x.t]) = V → vrs 1 [] ((pre ++ [x]).map Fx.t) = V) := Lib.hid fun V h => by rw [hsn]; exact h
    by_cases hk3 : x.t.kind = 1
    · have e3 : (x.t.kind == 1) = true := by rw [beq_iff_eq]; exact hk3
      by_cases hin : x.t.n ∈ vrs 1 [] (pre.map Fx.t)
      · have HV := Lib.hid (HSN.out _ (vrs_has hk3 hin))
        have HC := Lib.hid (contains_int_any x.t.n W hO.memW)
        rw [decide_eq_true hin] at HC
        have HO := Lib.hid hO
        have HH := Lib.hid hv
        have HB := Lib.hid hB
        clear hk3 hin hVL hsn hO hv hB hlt
        generalize vrs 1 [] (pre.map Fx.t) = V at *
        gi_wp2_with (first | (refine ⟨trivial, ?_⟩; gi_at_call 104 ; refine (CallsIn.inRound l (callsIn_wide.2 HC.out)).mono ?_; rintro e w' ⟨rfl, rfl⟩) | (gi_at_call 104 ; refine (CallsIn.inRound l (callsIn_wide.2 HC.out)).mono ?_; rintro e w' ⟨rfl, rfl⟩))
        exact ⟨KeepsFrom.refl _ _, KpT.refl _ _ _, ⟨_, HH.out, by show OwnD _ _ _ _ _ _ (intRows (vrs 1 [] ((pre ++ [x]).map Fx.t))); rw [HV.out]; exact HO.out, trivial⟩, HB.out⟩
      · have HV := Lib.hid (HSN.out _ (vrs_new hk3 hin))
        have HC := Lib.hid (contains_int_any x.t.n W hO.memW)
        rw [decide_eq_false hin] at HC
        have hgW : w.heap.size + 2 ≤ W.heap.size := hv.lt
        obtain ⟨v', w1, hrun, hb1, ⟨va', vc', rfl⟩, hkp, hkt, hbx, hown, hbel⟩ := app_int (P := Try.prog) (t := 22) (e := 3) 22 3 x.t.n Try.underlying22 info_int3 hv hO (Nat.lt_succ_self _) hgW (by have := HS.out; omega)
        have HRUN := Lib.hid hrun
        have c1B := hb1.cell
        have f1B := hb1.frozen
        have HE : Hid (KeepsFrom w3.heap.size W _ ∧ KpT [w.heap.size + 1] [w.heap.size + 1] W _ ∧ HoldsD (w.heap.size + 1) 0 (w.heap.size + 2) 22 3 1 (fun pre : List (Fx w) => intRows (vrs 1 [] (pre.map Fx.t))) (fun _ => True) (pre ++ [x]) _ ∧ Below w.heap.size w _) :=
          Lib.hid ⟨hkp w3.heap.size, hkt, ⟨_, hbx, by show OwnD _ _ _ _ _ _ (intRows (vrs 1 [] ((pre ++ [x]).map Fx.t))); rw [HV.out]; exact hown, trivial⟩, hbel w.heap.size w (by omega) (Nat.le_refl _) hB⟩
        clear hk3 hin hVL hsn hO hv hB hlt hrun hb1 hkp hkt hbx hown hbel hgW
        gi_wp2_with (first
          | (refine ⟨trivial, ?_⟩; gi_at_call 104 ; refine (CallsIn.inRound l (callsIn_wide.2 HC.out)).mono ?_; rintro e w' ⟨rfl, rfl⟩)
          | (gi_at_call 104 ; refine (CallsIn.inRound l (callsIn_wide.2 HC.out)).mono ?_; rintro e w' ⟨rfl, rfl⟩)
          | (gi_at_builtin; refine wpListIn_ran (by rfl) _ _ (by rfl) (by rfl) (by rfl) HRUN.out ?_))
        exact HE.out
    · have e3 : (x.t.kind == 1) = false := by rw [beq_eq_false_iff_ne]; exact hk3
      have HV := Lib.hid (HSN.out _ (vrs_not hk3))
      have HO := Lib.hid hO
      have HH := Lib.hid hv
      have HB := Lib.hid hB
      clear hk3 hVL hsn hO hv hB hlt
      gi_wp2
      refine ⟨trivial, ?_⟩
      gi_wp2
      exact ⟨KeepsFrom.refl _ _, KpT.refl _ _ _, ⟨_, HH.out, by show OwnD _ _ _ _ _ _ (intRows (vrs 1 [] ((pre ++ [x]).map Fx.t))); rw [HV.out]; exact HO.out, trivial⟩, HB.out⟩
  case done =>
    rintro D zs W hD hzs ⟨⟨v, hv, hO, _⟩, hB⟩ hK
    have hO : OwnD 0 (w.heap.size + 2) 3 1 W v (intRows (vrs 1 [] t.all)) := by rw [← hzs]; exact hO
    clear hzs
    obtain ⟨va, vc, rfl, _, _⟩ := hO.form
    have HO := Lib.hid hO
    have cR := hv.cell
    have fR := hv.frozen
    clear hO hv
    go_wp2
    refine ⟨by simp, .inl ⟨_, _, rfl, run_takeDeferred hK, ?_⟩⟩
    refine ⟨_, results_tmp rfl _ _ _, _, _, _, rfl, hB.trans (belowK_b (w := w) (Nat.le_refl _) W D _ _ (by have := HSZ.out; omega) hK rfl rfl), ?_⟩
    have h1 := (HO.out.own (grownBy_putObj' W D (.deferred none)) (fun r e => by cases e; exact ⟨_, hK, rfl⟩)).mem
    exact h1.mono (fun b hb => ⟨.inr (by rcases hb.1 with h | h <;> omega), hb.2⟩) fun _ _ => rfl
  case stop =>
    rintro D c pre W _ _ h _
    exact h.elim
end Go.Proofs.Ytemkpecagflafaa
