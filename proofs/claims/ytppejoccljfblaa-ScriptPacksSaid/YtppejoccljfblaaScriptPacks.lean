/-
  The walk of the law ScriptPacks: it answers true at every input. No condition but how the bytes lie.
-/
import Derived.Test.YtppejoccljfblaaPacks18
import Derived.Test.YtppejoccljfblaaHeld
import Derived.Test.YtppejoccljfblaaAwake37
namespace Go.Proofs.Ytppejoccljfblaa
open Go.RowKit
attribute [local go_sem ↓] store_scr
attribute [local go_sem] stOk_scr stB_eq stC_eq wr_drew wr_alloc wr_row
attribute [local go_sem] toList_beq

set_option maxRecDepth 100000 in
set_option maxHeartbeats 2000000 in
theorem scriptPacks_far {a : Option Addr} {n cap : Nat} {l : List UInt8} (s g : ByteArray) (a0 a1 a2 a3 : Int) (w : World) (h : Rd w.heap.size w a n cap 1 (u8s l)) (hk : 3000 < s.size ∨ 1000 < g.size ∨ 3000 < n) :
    Calls Try.prog 6 #[.agg #[.string s, .string g, .int .i64 a0, .int .i64 a1, .int .i64 a2, .int .i64 a3], .slice a n cap] w fun e w' => e = .returned (.bool true) ∧ Below w.heap.size w w' := by
  have hcap := h.2.1
  have hcm := h.2.2.1
  clear h
  have HB := Lib.hid (Bo.new w 27 #[.string s, .string g, .int .i64 a0, .int .i64 a1, .int .i64 a2, .int .i64 a3])
  by_cases h1 : 3000 < s.size
  · have e1 : decide ((3000 : Int) < (s.size : Int)) = true := by rw [decide_eq_true_eq]; omega
    clear hk
    go_enter Try.func6, Try.ntmps6
    go_wp2_with (first | (go_at_call 14 ; refine (awake37_any _).mono ?_; rintro e w1 ⟨rfl, hb⟩; have HB1 := Lib.hid ((below_new w _).trans (hb.mono (by simp))); obtain ⟨x0, x1, x2, x3, x4, x5⟩ := (HB.out.keep hb).c6; clear hb))
    go_ret
    exact ⟨rfl, HB1.out⟩
  · have e1 : decide ((3000 : Int) < (s.size : Int)) = false := by rw [decide_eq_false_iff_not]; omega
    by_cases h2 : 1000 < g.size
    · have e2 : decide ((1000 : Int) < (g.size : Int)) = true := by rw [decide_eq_true_eq]; omega
      clear hk
      go_enter Try.func6, Try.ntmps6
      go_wp2_with (first | (go_at_call 14 ; refine (awake37_any _).mono ?_; rintro e w1 ⟨rfl, hb⟩; have HB1 := Lib.hid ((below_new w _).trans (hb.mono (by simp))); obtain ⟨x0, x1, x2, x3, x4, x5⟩ := (HB.out.keep hb).c6; clear hb))
      go_ret
      exact ⟨rfl, HB1.out⟩
    · have e2 : decide ((1000 : Int) < (g.size : Int)) = false := by rw [decide_eq_false_iff_not]; omega
      have e3 : decide ((3000 : Int) < (n : Int)) = true := by rw [decide_eq_true_eq]; omega
      clear hk
      go_enter Try.func6, Try.ntmps6
      go_wp2_with (first | (go_at_call 14 ; refine (awake37_any _).mono ?_; rintro e w1 ⟨rfl, hb⟩; have HB1 := Lib.hid ((below_new w _).trans (hb.mono (by simp))); obtain ⟨x0, x1, x2, x3, x4, x5⟩ := (HB.out.keep hb).c6; clear hb))
      go_ret
      exact ⟨rfl, HB1.out⟩
set_option maxRecDepth 100000 in
set_option maxHeartbeats 40000000 in
theorem scriptPacks_main {a : Option Addr} {n cap : Nat} {l : List UInt8} (s g : ByteArray) (a0 a1 a2 a3 : Int) (w : World) (h : Rd w.heap.size w a n cap 1 (u8s l)) (hs : s.size ≤ 3000) (hg : g.size ≤ 1000) (hn : n ≤ 3000) (h0 : inI a0) (h1 : inI a1) (h2 : inI a2) (h3 : inI a3) :
    Calls Try.prog 6 #[.agg #[.string s, .string g, .int .i64 a0, .int .i64 a1, .int .i64 a2, .int .i64 a3], .slice a n cap] w fun e w' => e = .returned (.bool true) ∧ Below w.heap.size w w' := by
  have hcap := h.2.1
  have hcm := h.2.2.1
  have HR := Lib.hid h
  have HSZ := Lib.hid hs
  have HGZ := Lib.hid hg
  have e1 : decide ((3000 : Int) < (s.size : Int)) = false := by rw [decide_eq_false_iff_not]; omega
  have e2 : decide ((1000 : Int) < (g.size : Int)) = false := by rw [decide_eq_false_iff_not]; omega
  have e3 : decide ((3000 : Int) < (n : Int)) = false := by rw [decide_eq_false_iff_not]; omega
  clear h
  have H0 := Lib.hid h0
  have H1 := Lib.hid h1
  have H2 := Lib.hid h2
  have H3 := Lib.hid h3
  clear h0 h1 h2 h3
  have HB := Lib.hid (Bo.new w 27 #[.string s, .string g, .int .i64 a0, .int .i64 a1, .int .i64 a2, .int .i64 a3])
  obtain ⟨F, hF⟩ : ∃ F, fitsP a0 a1 a2 a3 = F := ⟨_, rfl⟩
  obtain ⟨R, hR⟩ : ∃ R, (if fitsP a0 a1 a2 a3 then packL s g a0 a1 a2 a3 else []) = R := ⟨_, rfl⟩
  have HF := Lib.hid hF
  have HRR := Lib.hid hR
  clear hF hR
  obtain ⟨F0, hF0⟩ : ∃ F0, (decide (0 ≤ a0) && decide (a0 < 256)) = F0 := ⟨_, rfl⟩
  have HF0 := Lib.hid hF0
  clear hF0
  go_enter Try.func6, Try.ntmps6
  go_wp2_with (first
    | (go_at_call 14
       refine (awake37_any _).mono ?_
       rintro e w1 ⟨rfl, hb⟩
       have HB1 := Lib.hid ((below_new w _).trans (hb.mono (by simp)))
       have HX1 := Lib.hid (HB.out.keep hb)
       obtain ⟨x0, x1, x2, x3, x4, x5⟩ := HX1.out.c6
       clear hb)
    | (go_at_call 24
       refine (pack_any s g a0 a1 a2 a3 _ H0.out H1.out H2.out H3.out (by have := HSZ.out; omega) (by have := HGZ.out; omega)).mono ?_
       rintro e w2 ⟨y2, rfl, ho, hb⟩
       rw [HRR.out] at ho
       rw [HF.out]
       have HO2 := Lib.hid ho
       have HB2 := Lib.hid hb
       have HX2 := Lib.hid (HX1.out.keep hb)
       clear ho hb x0 x1 x2 x3 x4 x5
       obtain ⟨x0, x1, x2, x3, x4, x5⟩ := HX2.out.c6))
  all_goals
    have HBW := Lib.hid (Bo.new w2 3 #[.int .i64 a1, .int .i64 a2, .int .i64 a3])
    clear x0 x1 x2 x3 x4 x5
    go_loop [7, 9, 55] (fun fv _ j => ∃ (k : Nat) (f : Bool), k ≤ 3 ∧ j = .int .i64 k ∧ fv = .bool f ∧ Hid ((f && (([a1, a2, a3] : List Int).drop k).all (fitsB · 3)) = F)) (fun _ _ j => 3 - (intOf j).toNat)
    case atStart =>
      refine ⟨0, _, by omega, rfl, rfl, ?_⟩
      first
        | exact Lib.hid (by rw [← HF.out, fitsP, show fitsB a0 1 = false by simp [fitsB]; omega]; simp)
        | exact Lib.hid (by rw [← HF.out, fitsP, show fitsB a0 1 = decide (a0 < 256) by simp [fitsB]; omega]; simp)
        | exact Lib.hid (by rw [← HF.out, fitsP, show fitsB a0 1 = true by simp [fitsB]; omega]; simp)
    case round =>
      obtain ⟨k, f, hk, rfl, rfl, HA⟩ := hrel
      by_cases hlt : k < 3
      · obtain ⟨x, hd, hc⟩ : ∃ x, ([a1, a2, a3] : List Int).drop k = x :: ([a1, a2, a3] : List Int).drop (k + 1) ∧ (w2.alloc (.cells #[.int .i64 a1, .int .i64 a2, .int .i64 a3] 3)).cell? ⟨w2.heap.size, k, none⟩ = some (.int .i64 x) := by
          rcases (show k = 0 ∨ k = 1 ∨ k = 2 by omega) with rfl | rfl | rfl
          · exact ⟨a1, rfl, HBW.out.cell (j := 0) rfl⟩
          · exact ⟨a2, rfl, HBW.out.cell (j := 1) rfl⟩
          · exact ⟨a3, rfl, HBW.out.cell (j := 2) rfl⟩
        have HD := Lib.hid hd
        clear hd
        have HNX : Hid ((f && (fitsB x 3 && (([a1, a2, a3] : List Int).drop (k + 1)).all (fitsB · 3))) = F) := Lib.hid (by
          have := HA.out
          rw [HD.out, List.all_cons] at this
          exact this)
        by_cases hx : 0 ≤ x ∧ x < 16777216
        · have hf3 : fitsB x 3 = true := by simp [fitsB]; omega
          have d1 : decide (0 ≤ x) = true := by simp; omega
          have d2 : decide (x < 16777216) = true := by simp; omega
          rw [hf3] at HNX
          cases f
          all_goals
            go_wp2
            go_round
            case rel => exact ⟨k + 1, _, by omega, by go_num, rfl, HNX.out⟩
            case measure => simp [intOf]; omega
        · have hf3 : fitsB x 3 = false := by simp [fitsB]; omega
          rw [hf3, Bool.false_and, Bool.and_false] at HNX
          by_cases hx0 : 0 ≤ x
          · have d1 : decide (0 ≤ x) = true := by simp; omega
            have d2 : decide (x < 16777216) = false := by simp; omega
            cases f
            all_goals
              go_wp2
              go_round
              case rel => exact ⟨k + 1, false, by omega, by go_num, rfl, HNX.out⟩
              case measure => simp [intOf]; omega
          · have d1 : decide (0 ≤ x) = false := by simp; omega
            cases f
            all_goals
              go_wp2
              go_round
              case rel => exact ⟨k + 1, false, by omega, by go_num, rfl, HNX.out⟩
              case measure => simp [intOf]; omega
      · have hk3 : k = 3 := by omega
        subst hk3
        have ha := HA.out
        simp only [List.drop_succ_cons, List.drop_zero, List.all_nil, Bool.and_true] at ha
        subst ha
        clear HBW
        cases f
        · have hR0 : R = [] := by rw [← HRR.out, HF.out]; rfl
          subst hR0
          obtain ⟨ay, cy, rfl, hrd⟩ := HO2.out.form
          simp only [List.length_nil]
          have HBL : Hid (Below w.heap.size w (w2.alloc (.cells #[.int .i64 a1, .int .i64 a2, .int .i64 a3] 3))) := Lib.hid ((HB1.out.trans (HB2.out.mono HB1.out.size)).alloc (Nat.le_trans HB1.out.size HB2.out.size) _)
          obtain ⟨b, hbf⟩ : ∃ b : Nat → Nat, ∀ i, (l.getD i 0).toNat = b i := ⟨_, fun _ => rfl⟩
          have HBF := Lib.hid hbf
          have HV0 : Hid (((l.headD 0).toNat : Int) = (b 0 : Int)) := Lib.hid (by rw [headD_getD, hbf])
          have HV1 : Hid ((numV (l.drop 1) 3 : Int) = 65536 * (b 1 : Int) + 256 * (b 2 : Int) + (b 3 : Int)) := Lib.hid (by rw [numV_three, hbf, hbf, hbf])
          have HV4 : Hid ((numV (l.drop 4) 3 : Int) = 65536 * (b 4 : Int) + 256 * (b 5 : Int) + (b 6 : Int)) := Lib.hid (by rw [numV_three, hbf, hbf, hbf])
          have HV7 : Hid ((numV (l.drop 7) 3 : Int) = 65536 * (b 7 : Int) + 256 * (b 8 : Int) + (b 9 : Int)) := Lib.hid (by rw [numV_three, hbf, hbf, hbf])
          obtain ⟨S0, hS0⟩ : ∃ S0 : ByteArray, ⟨((l.drop 12).take (numV (l.drop 10) 2)).toArray⟩ = S0 := ⟨_, rfl⟩
          obtain ⟨S1, hS1⟩ : ∃ S1 : ByteArray, ⟨((l.drop 12).drop (numV (l.drop 10) 2)).toArray⟩ = S1 := ⟨_, rfl⟩
          have HS0 := Lib.hid hS0
          have HS1 := Lib.hid hS1
          have HLT : Hid (∀ i, b i < 256) := Lib.hid (fun i => by rw [← hbf]; exact UInt8.toNat_lt _)
          clear hbf hS0 hS1
          obtain ⟨p, hp, hp2⟩ : ∃ p : Nat, min (12 : Int) (n : Int) = (p : Int) ∧ p = min 12 n := ⟨min 12 n, by omega, rfl⟩
          have hpn : p ≤ n := by omega
          have HP2 := Lib.hid hp2
          clear hp2
          go_wp2
          go_quiet (fail)
          have HBX := Lib.hid (below_drewN HBL.out nq)
          clear hrd HO2 HRR HA HX2 HB2 HX1 HB1 HB H0 H1 H2 H3 HBL hs hg
          go_wp2_with (first
            | (go_at_call 16
               refine (raw_any _ ((HR.out.mono HBX.out).le HBX.out.size) (by omega)).mono ?_
               rintro e w5 ⟨rfl, hb⟩
               rw [HV0.out, HV1.out, HV4.out, HV7.out, HS0.out, HS1.out]
               have HB5 := Lib.hid (HBX.out.trans (hb.mono HBX.out.size))
               have HY := Lib.hid (Bo.new w5 27 #[.string S0, .string S1, .int .i64 (b 0), .int .i64 (65536 * (b 1 : Int) + 256 * (b 2 : Int) + (b 3 : Int)), .int .i64 (65536 * (b 4 : Int) + 256 * (b 5 : Int) + (b 6 : Int)), .int .i64 (65536 * (b 7 : Int) + 256 * (b 8 : Int) + (b 9 : Int))])
               have HB6 := Lib.hid (HB5.out.alloc HB5.out.size (.cells #[.string S0, .string S1, .int .i64 (b 0), .int .i64 (65536 * (b 1 : Int) + 256 * (b 2 : Int) + (b 3 : Int)), .int .i64 (65536 * (b 4 : Int) + 256 * (b 5 : Int) + (b 6 : Int)), .int .i64 (65536 * (b 7 : Int) + 256 * (b 8 : Int) + (b 9 : Int))] 27))
               have l10 := HLT.out 10
               have l11 := HLT.out 11
               clear hb)
            | (go_at_call 25
               refine (at37_int _ _ ((HR.out.mono HB6.out).le HB6.out.size) HBF.out (by decide)).mono ?_
               rintro e w'' ⟨rfl, rfl⟩))
          · obtain rfl : n = p := by omega
            have hK0 : min (256 * (b 10 : Int) + (b 11 : Int)) 0 = 0 := by omega
            have hd0 : l.drop 12 = [] := List.drop_eq_nil_of_le (by have h1 := HR.out.u8Len; have h2 := HP2.out; omega)
            have hE0 : S0 = .empty := by rw [← HS0.out, hd0, List.take_nil]; rfl
            have hE1 : S1 = .empty := by rw [← HS1.out, hd0, List.drop_nil]; rfl
            obtain ⟨t0, t1, t2, t3, t4, t5⟩ := HY.out.c6
            subst h
            simp only [Nat.sub_self, Int.natCast_zero, hK0]
            refine packs18 (K := 0) rfl ((HR.out.mono HB6.out).le HB6.out.size) HBF.out (Nat.le_refl _) (Nat.le_refl _) (by omega) t0 t1 t2 t3 t4 t5 (fun m => by rw [hE0]; exact conv_empty _ _ _) (fun m => by rw [hE1]; exact conv_empty _ _ _) ?_
            intros
            go_wp2
            go_ret
            exact ⟨rfl, below_drewN HB6.out _⟩
          · obtain ⟨X, hX⟩ : ∃ X, Option.map (fun x => x.add p) a = X := ⟨_, rfl⟩
            obtain ⟨nr, hnr⟩ : ∃ nr, n - p = nr := ⟨_, rfl⟩
            obtain ⟨cq, hcq⟩ : ∃ cq, cap - p = cq := ⟨_, rfl⟩
            obtain ⟨K, hK, hK2⟩ : ∃ K : Nat, min (256 * (b 10 : Int) + (b 11 : Int)) (nr : Int) = (K : Int) ∧ K = min (256 * b 10 + b 11) nr := ⟨min (256 * b 10 + b 11) nr, by omega, rfl⟩
            have hKn : K ≤ nr := by omega
            have hnc : nr ≤ cq := by omega
            have hpk : p + nr = n := by omega
            have hXa : ∀ b o, a = some ⟨b, o, none⟩ → X = some ⟨b, o + p, none⟩ := fun b o e => by subst e; rw [← hX]; simp [Addr.add]
            have hRw := fun m => HR.out.mono (below_drewN HB6.out m)
            have hN : numV (l.drop 10) 2 = 256 * b 10 + b 11 := by have := numV_two l 10; simp only [HBF.out, Nat.reduceAdd] at this; omega
            have hl := HR.out.u8Len
            have h12 : 12 ≤ p ∨ nr = 0 := by have := HP2.out; omega
            have hd : l.drop 12 = l.drop p := by
              rcases h12 with h1 | h1
              · have : p = 12 := by have := HP2.out; omega
                rw [this]
              · rw [List.drop_eq_nil_of_le (by have := HP2.out; omega), List.drop_eq_nil_of_le (by omega)]
            have hc0 := fun m => conv_at (hRw m) p K cq (S := S0) (by omega) hXa (by rw [← HS0.out, hd, hN, hK2]; congr 2; rw [List.take_eq_take_iff, List.length_drop]; omega)
            have hS1' : S1 = ⟨((l.drop (p + K)).take (nr - K)).toArray⟩ := by
              rw [← HS1.out, hd, hN, List.drop_drop, List.take_of_length_le (by rw [List.length_drop]; omega), hK2]
              congr 2
              by_cases hm : 256 * b 10 + b 11 ≤ nr
              · rw [Nat.min_eq_left hm]
              · rw [Nat.min_eq_right (by omega), List.drop_eq_nil_of_le (by omega), List.drop_eq_nil_of_le (by omega)]
            have hc1 : ∀ m, (convert 22 9 (.slice (if cq = K then X else Option.map (fun x => x.add K) X) (nr - K) (cq - K))).run Try.prog ((w5.alloc (.cells #[.string S0, .string S1, .int .i64 (b 0), .int .i64 (65536 * (b 1 : Int) + 256 * (b 2 : Int) + (b 3 : Int)), .int .i64 (65536 * (b 4 : Int) + 256 * (b 5 : Int) + (b 6 : Int)), .int .i64 (65536 * (b 7 : Int) + 256 * (b 8 : Int) + (b 9 : Int))] 27)).drewN m) = .ok (.string S1) ((w5.alloc (.cells #[.string S0, .string S1, .int .i64 (b 0), .int .i64 (65536 * (b 1 : Int) + 256 * (b 2 : Int) + (b 3 : Int)), .int .i64 (65536 * (b 4 : Int) + 256 * (b 5 : Int) + (b 6 : Int)), .int .i64 (65536 * (b 7 : Int) + 256 * (b 8 : Int) + (b 9 : Int))] 27)).drewN m) := fun m => by
              by_cases hq : cq = K
              · have e0 : nr - K = 0 := by omega
                rw [if_pos hq, e0, hS1', e0, List.take_zero]; exact conv_empty _ _ _
              · rw [if_neg hq]
                exact conv_at (hRw m) (p + K) (nr - K) (cq - K) (X := Option.map (fun x => x.add K) X) (by omega) (fun b o e => by rw [hXa b o e]; show some (Addr.add ⟨b, o + p, none⟩ K) = _; unfold Addr.add; split <;> simp_all [Nat.add_assoc]) hS1'
            obtain ⟨t0, t1, t2, t3, t4, t5⟩ := HY.out.c6
            simp only [hX, hnr, hcq, hK]
            refine packs18 rfl ((HR.out.mono HB6.out).le HB6.out.size) HBF.out hKn hnc (by omega) t0 t1 t2 t3 t4 t5 hc0 hc1 ?_
            intros
            go_wp2
            go_ret
            exact ⟨rfl, below_drewN HB6.out _⟩
        · have hfp := HF.out
          have hR0 : packL s g a0 a1 a2 a3 = R := by have := HRR.out; rw [if_pos hfp] at this; exact this
          obtain ⟨pv0, pv1, pv4, pv7, ps0, ps1⟩ := pack_raw hfp (by omega : s.size ≤ 20000)
          rw [hR0] at pv0 pv1 pv4 pv7 ps0 ps1
          have P0 := Lib.hid pv0
          have P1 := Lib.hid pv1
          have P4 := Lib.hid pv4
          have P7 := Lib.hid pv7
          have PS0 := Lib.hid ps0
          have PS1 := Lib.hid ps1
          have HRL : Hid (R.length ≤ 1000000) := Lib.hid (by rw [← hR0, packL]; simp only [List.length_append, laidL_length, length_data]; omega)
          clear pv0 pv1 pv4 pv7 ps0 ps1 hR0 hfp
          obtain ⟨ay, cy, rfl, hrd⟩ := HO2.out.form
          have HRD := Lib.hid hrd
          clear hrd
          have HBL : Hid (Below w.heap.size w w2) := Lib.hid (HB1.out.trans (HB2.out.mono HB1.out.size))
          have HXL := Lib.hid (HX2.out.alloc (.cells #[.int .i64 a1, .int .i64 a2, .int .i64 a3] 3))
          obtain ⟨b, hbf⟩ : ∃ b : Nat → Nat, ∀ i, (l.getD i 0).toNat = b i := ⟨_, fun _ => rfl⟩
          have HBF := Lib.hid hbf
          have HV0 : Hid (((l.headD 0).toNat : Int) = (b 0 : Int)) := Lib.hid (by rw [headD_getD, hbf])
          have HV1 : Hid ((numV (l.drop 1) 3 : Int) = 65536 * (b 1 : Int) + 256 * (b 2 : Int) + (b 3 : Int)) := Lib.hid (by rw [numV_three, hbf, hbf, hbf])
          have HV4 : Hid ((numV (l.drop 4) 3 : Int) = 65536 * (b 4 : Int) + 256 * (b 5 : Int) + (b 6 : Int)) := Lib.hid (by rw [numV_three, hbf, hbf, hbf])
          have HV7 : Hid ((numV (l.drop 7) 3 : Int) = 65536 * (b 7 : Int) + 256 * (b 8 : Int) + (b 9 : Int)) := Lib.hid (by rw [numV_three, hbf, hbf, hbf])
          obtain ⟨S0, hS0⟩ : ∃ S0 : ByteArray, ⟨((l.drop 12).take (numV (l.drop 10) 2)).toArray⟩ = S0 := ⟨_, rfl⟩
          obtain ⟨S1, hS1⟩ : ∃ S1 : ByteArray, ⟨((l.drop 12).drop (numV (l.drop 10) 2)).toArray⟩ = S1 := ⟨_, rfl⟩
          have HS0 := Lib.hid hS0
          have HS1 := Lib.hid hS1
          have HLT : Hid (∀ i, b i < 256) := Lib.hid (fun i => by rw [← hbf]; exact UInt8.toNat_lt _)
          clear hbf hS0 hS1
          obtain ⟨p, hp, hp2⟩ : ∃ p : Nat, min (12 : Int) (n : Int) = (p : Int) ∧ p = min 12 n := ⟨min 12 n, by omega, rfl⟩
          have hpn : p ≤ n := by omega
          have HP2 := Lib.hid hp2
          clear hp2
          clear HO2 HRR HA HX1 HB1 HB H0 H1 H2 H3 hs hg
          go_wp2
          refine wp_region_held_drew (S := (fun w' => w'.cell? ⟨w.heap.size, 0, none⟩ = some (.string s) ∧ w'.cell? ⟨w.heap.size, 1, none⟩ = some (.string g) ∧ w'.cell? ⟨w.heap.size, 2, none⟩ = some (.int .i64 a0) ∧ w'.cell? ⟨w.heap.size, 3, none⟩ = some (.int .i64 a1) ∧ w'.cell? ⟨w.heap.size, 4, none⟩ = some (.int .i64 a2) ∧ w'.cell? ⟨w.heap.size, 5, none⟩ = some (.int .i64 a3))) (by kernel_rfl) HXL.out.c6 (fun hS0 => ?_)
          refine takeL 0 (v := ?_) rfl (by kernel_rfl) (by kernel_rfl) (by kernel_rfl) (fun _ _ _ h => h) (by rfl) ?_ (by assumption) ?_
          rotate_left
          · (intro w hSw; (try dsimp only at hSw); go_simp; try with_reducible rfl)
          try simp only [Act.put, List.setIfInBounds_toArray, List.set_cons_zero, List.set_cons_succ]
          refine takeL 1 (v := ?_) rfl (by kernel_rfl) (by kernel_rfl) (by kernel_rfl) (fun _ _ _ h => h) (by rfl) ?_ (by assumption) ?_
          rotate_left
          · (intro w hSw; (try dsimp only at hSw); go_simp; try with_reducible rfl)
          try simp only [Act.put, List.setIfInBounds_toArray, List.set_cons_zero, List.set_cons_succ]
          refine takeL 2 (v := ?_) rfl (by kernel_rfl) (by kernel_rfl) (by kernel_rfl) (fun _ _ _ h => h) (by rfl) ?_ (by assumption) ?_
          rotate_left
          · (intro w hSw; (try dsimp only at hSw); go_simp; try with_reducible rfl)
          try simp only [Act.put, List.setIfInBounds_toArray, List.set_cons_zero, List.set_cons_succ]
          refine takeL 3 (v := ?_) rfl (by kernel_rfl) (by kernel_rfl) (by kernel_rfl) (fun _ _ _ h => h) (by rfl) ?_ (by assumption) ?_
          rotate_left
          · (intro w hSw; (try dsimp only at hSw); go_simp; try with_reducible rfl)
          try simp only [Act.put, List.setIfInBounds_toArray, List.set_cons_zero, List.set_cons_succ]
          refine takeL 4 (v := ?_) rfl (by kernel_rfl) (by kernel_rfl) (by kernel_rfl) (fun _ _ _ h => h) (by rfl) ?_ (by assumption) ?_
          rotate_left
          · (intro w hSw; (try dsimp only at hSw); go_simp; try with_reducible rfl)
          try simp only [Act.put, List.setIfInBounds_toArray, List.set_cons_zero, List.set_cons_succ]
          refine takeL 5 (v := ?_) rfl (by kernel_rfl) (by kernel_rfl) (by kernel_rfl) (fun _ _ _ h => h) (by rfl) ?_ (by assumption) ?_
          rotate_left
          · (intro w hSw; (try dsimp only at hSw); go_simp; try with_reducible rfl)
          try simp only [Act.put, List.setIfInBounds_toArray, List.set_cons_zero, List.set_cons_succ]
          refine takeL 6 (v := ?_) rfl (by kernel_rfl) (by kernel_rfl) (by kernel_rfl) (fun _ _ _ h => h) (by rfl) ?_ (by assumption) ?_
          rotate_left
          · (intro w hSw; (try dsimp only at hSw); go_simp; try with_reducible rfl)
          try simp only [Act.put, List.setIfInBounds_toArray, List.set_cons_zero, List.set_cons_succ]
          refine skipL 7 rfl (by kernel_rfl) (by kernel_rfl) (by kernel_rfl) (fun _ _ _ h => h) (by rfl) (by assumption) ?_
          try simp only [Act.put, List.setIfInBounds_toArray, List.set_cons_zero, List.set_cons_succ]
          refine skipL 8 rfl (by kernel_rfl) (by kernel_rfl) (by kernel_rfl) (fun _ _ _ h => h) (by rfl) (by assumption) ?_
          try simp only [Act.put, List.setIfInBounds_toArray, List.set_cons_zero, List.set_cons_succ]
          refine skipL 9 rfl (by kernel_rfl) (by kernel_rfl) (by kernel_rfl) (fun _ _ _ h => h) (by rfl) (by assumption) ?_
          try simp only [Act.put, List.setIfInBounds_toArray, List.set_cons_zero, List.set_cons_succ]
          refine takeL 10 (v := ?_) rfl (by kernel_rfl) (by kernel_rfl) (by kernel_rfl) (fun _ _ _ h => h) (by rfl) ?_ (by assumption) ?_
          rotate_left
          · (intro w hSw; (try dsimp only at hSw); go_simp; try with_reducible rfl)
          try simp only [Act.put, List.setIfInBounds_toArray, List.set_cons_zero, List.set_cons_succ]
          refine takeL 11 (v := ?_) rfl (by kernel_rfl) (by kernel_rfl) (by kernel_rfl) (fun _ _ _ h => h) (by rfl) ?_ (by assumption) ?_
          rotate_left
          · (intro w hSw; (try dsimp only at hSw); go_simp; try with_reducible rfl)
          try simp only [Act.put, List.setIfInBounds_toArray, List.set_cons_zero, List.set_cons_succ]
          refine takeL 12 (v := ?_) rfl (by kernel_rfl) (by kernel_rfl) (by kernel_rfl) (fun _ _ _ h => h) (by rfl) ?_ (by assumption) ?_
          rotate_left
          · (intro w hSw; (try dsimp only at hSw); go_simp; try with_reducible rfl)
          try simp only [Act.put, List.setIfInBounds_toArray, List.set_cons_zero, List.set_cons_succ]
          refine takeL 13 (v := ?_) rfl (by kernel_rfl) (by kernel_rfl) (by kernel_rfl) (fun _ _ _ h => h) (by rfl) ?_ (by assumption) ?_
          rotate_left
          · (intro w hSw; (try dsimp only at hSw); go_simp; try with_reducible rfl)
          try simp only [Act.put, List.setIfInBounds_toArray, List.set_cons_zero, List.set_cons_succ]
          refine takeL 14 (v := ?_) rfl (by kernel_rfl) (by kernel_rfl) (by kernel_rfl) (fun _ _ _ h => h) (by rfl) ?_ (by assumption) ?_
          rotate_left
          · (intro w hSw; (try dsimp only at hSw); go_simp; try with_reducible rfl)
          try simp only [Act.put, List.setIfInBounds_toArray, List.set_cons_zero, List.set_cons_succ]
          refine takeL 15 (v := ?_) rfl (by kernel_rfl) (by kernel_rfl) (by kernel_rfl) (fun _ _ _ h => h) (by rfl) ?_ (by assumption) ?_
          rotate_left
          · (intro w hSw; (try dsimp only at hSw); go_simp; try with_reducible rfl)
          try simp only [Act.put, List.setIfInBounds_toArray, List.set_cons_zero, List.set_cons_succ]
          refine takeL 17 (v := ?_) rfl (by kernel_rfl) (by kernel_rfl) (by kernel_rfl) (fun _ _ _ h => h) (by rfl) ?_ (by assumption) ?_
          rotate_left
          · (intro w hSw; (try dsimp only at hSw); go_simp; try with_reducible rfl)
          try simp only [Act.put, List.setIfInBounds_toArray, List.set_cons_zero, List.set_cons_succ]
          refine callL 16 rfl (by kernel_rfl) (by rfl) (fun K hK => ?_)
          go_simp
          go_wp2_with (first
            | (go_at_call 16
               refine (raw_any _ ((HRD.out.mono (below_new w2 _).drew).le (Nat.le_of_lt (by show w2.heap.size < (w2.alloc _).heap.size; rw [World.size_alloc]; exact Nat.lt_succ_self _))) HRL.out).mono ?_
               rintro e w3 ⟨rfl, hb⟩
               rw [P0.out, P1.out, P4.out, P7.out, PS0.out, PS1.out]
               have HBX : Hid (Below w.heap.size w w3) := Lib.hid ((HBL.out.alloc HBL.out.size _).drew.trans (hb.mono (Nat.le_trans HBL.out.size (Nat.le_of_lt (by show w2.heap.size < (w2.alloc _).heap.size; rw [World.size_alloc]; exact Nat.lt_succ_self _)))))
               have HX3 := Lib.hid (HXL.out.drew.keep hb)
               clear hb))
          refine hK.out _ _ ?_ (fun hS1 => ?_)
          · exact HX3.out.c6
          clear hK K
          refine takeL 18 (v := ?_) rfl (by kernel_rfl) (by kernel_rfl) (by kernel_rfl) (fun _ _ _ h => h) (by rfl) ?_ (by assumption) ?_
          rotate_left
          · (intro w hSw; (try dsimp only at hSw); go_simp; try with_reducible rfl)
          try simp only [Act.put, List.setIfInBounds_toArray, List.set_cons_zero, List.set_cons_succ]
          refine takeL 19 (v := ?_) rfl (by kernel_rfl) (by kernel_rfl) (by kernel_rfl) (fun _ _ _ h => h) (by rfl) ?_ (by assumption) ?_
          rotate_left
          · (intro w hSw; (try dsimp only at hSw); go_simp; try with_reducible rfl)
          try simp only [Act.put, List.setIfInBounds_toArray, List.set_cons_zero, List.set_cons_succ]
          refine takeL 20 (v := ?_) rfl (by kernel_rfl) (by kernel_rfl) (by kernel_rfl) (fun _ _ _ h => h) (by rfl) ?_ (by assumption) ?_
          rotate_left
          · (intro w hSw; (try dsimp only at hSw); go_simp; try with_reducible rfl)
          try simp only [Act.put, List.setIfInBounds_toArray, List.set_cons_zero, List.set_cons_succ]
          refine wpAnyH_done (by kernel_rfl) ?_ _
          go_wp2_with (first
            | (go_at_call 16
               refine (raw_any _ ((HR.out.mono HBX.out).le HBX.out.size) (by omega)).mono ?_
               rintro e w5 ⟨rfl, hb⟩
               rw [HV0.out, HV1.out, HV4.out, HV7.out, HS0.out, HS1.out]
               have HB5 := Lib.hid (HBX.out.trans (hb.mono HBX.out.size))
               have HY := Lib.hid (Bo.new w5 27 #[.string S0, .string S1, .int .i64 (b 0), .int .i64 (65536 * (b 1 : Int) + 256 * (b 2 : Int) + (b 3 : Int)), .int .i64 (65536 * (b 4 : Int) + 256 * (b 5 : Int) + (b 6 : Int)), .int .i64 (65536 * (b 7 : Int) + 256 * (b 8 : Int) + (b 9 : Int))])
               have HB6 := Lib.hid (HB5.out.alloc HB5.out.size (.cells #[.string S0, .string S1, .int .i64 (b 0), .int .i64 (65536 * (b 1 : Int) + 256 * (b 2 : Int) + (b 3 : Int)), .int .i64 (65536 * (b 4 : Int) + 256 * (b 5 : Int) + (b 6 : Int)), .int .i64 (65536 * (b 7 : Int) + 256 * (b 8 : Int) + (b 9 : Int))] 27))
               have l10 := HLT.out 10
               have l11 := HLT.out 11
               clear hb)
            | (go_at_call 25
               refine (at37_int _ _ ((HR.out.mono HB6.out).le HB6.out.size) HBF.out (by decide)).mono ?_
               rintro e w'' ⟨rfl, rfl⟩))
          · obtain rfl : n = p := by omega
            have hK0 : min (256 * (b 10 : Int) + (b 11 : Int)) 0 = 0 := by omega
            have hd0 : l.drop 12 = [] := List.drop_eq_nil_of_le (by have h1 := HR.out.u8Len; have h2 := HP2.out; omega)
            have hE0 : S0 = .empty := by rw [← HS0.out, hd0, List.take_nil]; rfl
            have hE1 : S1 = .empty := by rw [← HS1.out, hd0, List.drop_nil]; rfl
            obtain ⟨t0, t1, t2, t3, t4, t5⟩ := HY.out.c6
            subst h
            simp only [Nat.sub_self, Int.natCast_zero, hK0]
            refine packs18 (K := 0) rfl ((HR.out.mono HB6.out).le HB6.out.size) HBF.out (Nat.le_refl _) (Nat.le_refl _) (by omega) t0 t1 t2 t3 t4 t5 (fun m => by rw [hE0]; exact conv_empty _ _ _) (fun m => by rw [hE1]; exact conv_empty _ _ _) ?_
            intros
            go_wp2
            go_ret
            exact ⟨rfl, below_drewN HB6.out _⟩
          · obtain ⟨X, hX⟩ : ∃ X, Option.map (fun x => x.add p) a = X := ⟨_, rfl⟩
            obtain ⟨nr, hnr⟩ : ∃ nr, n - p = nr := ⟨_, rfl⟩
            obtain ⟨cq, hcq⟩ : ∃ cq, cap - p = cq := ⟨_, rfl⟩
            obtain ⟨K, hK, hK2⟩ : ∃ K : Nat, min (256 * (b 10 : Int) + (b 11 : Int)) (nr : Int) = (K : Int) ∧ K = min (256 * b 10 + b 11) nr := ⟨min (256 * b 10 + b 11) nr, by omega, rfl⟩
            have hKn : K ≤ nr := by omega
            have hnc : nr ≤ cq := by omega
            have hpk : p + nr = n := by omega
            have hXa : ∀ b o, a = some ⟨b, o, none⟩ → X = some ⟨b, o + p, none⟩ := fun b o e => by subst e; rw [← hX]; simp [Addr.add]
            have hRw := fun m => HR.out.mono (below_drewN HB6.out m)
            have hN : numV (l.drop 10) 2 = 256 * b 10 + b 11 := by have := numV_two l 10; simp only [HBF.out, Nat.reduceAdd] at this; omega
            have hl := HR.out.u8Len
            have h12 : 12 ≤ p ∨ nr = 0 := by have := HP2.out; omega
            have hd : l.drop 12 = l.drop p := by
              rcases h12 with h1 | h1
              · have : p = 12 := by have := HP2.out; omega
                rw [this]
              · rw [List.drop_eq_nil_of_le (by have := HP2.out; omega), List.drop_eq_nil_of_le (by omega)]
            have hc0 := fun m => conv_at (hRw m) p K cq (S := S0) (by omega) hXa (by rw [← HS0.out, hd, hN, hK2]; congr 2; rw [List.take_eq_take_iff, List.length_drop]; omega)
            have hS1' : S1 = ⟨((l.drop (p + K)).take (nr - K)).toArray⟩ := by
              rw [← HS1.out, hd, hN, List.drop_drop, List.take_of_length_le (by rw [List.length_drop]; omega), hK2]
              congr 2
              by_cases hm : 256 * b 10 + b 11 ≤ nr
              · rw [Nat.min_eq_left hm]
              · rw [Nat.min_eq_right (by omega), List.drop_eq_nil_of_le (by omega), List.drop_eq_nil_of_le (by omega)]
            have hc1 : ∀ m, (convert 22 9 (.slice (if cq = K then X else Option.map (fun x => x.add K) X) (nr - K) (cq - K))).run Try.prog ((w5.alloc (.cells #[.string S0, .string S1, .int .i64 (b 0), .int .i64 (65536 * (b 1 : Int) + 256 * (b 2 : Int) + (b 3 : Int)), .int .i64 (65536 * (b 4 : Int) + 256 * (b 5 : Int) + (b 6 : Int)), .int .i64 (65536 * (b 7 : Int) + 256 * (b 8 : Int) + (b 9 : Int))] 27)).drewN m) = .ok (.string S1) ((w5.alloc (.cells #[.string S0, .string S1, .int .i64 (b 0), .int .i64 (65536 * (b 1 : Int) + 256 * (b 2 : Int) + (b 3 : Int)), .int .i64 (65536 * (b 4 : Int) + 256 * (b 5 : Int) + (b 6 : Int)), .int .i64 (65536 * (b 7 : Int) + 256 * (b 8 : Int) + (b 9 : Int))] 27)).drewN m) := fun m => by
              by_cases hq : cq = K
              · have e0 : nr - K = 0 := by omega
                rw [if_pos hq, e0, hS1', e0, List.take_zero]; exact conv_empty _ _ _
              · rw [if_neg hq]
                exact conv_at (hRw m) (p + K) (nr - K) (cq - K) (X := Option.map (fun x => x.add K) X) (by omega) (fun b o e => by rw [hXa b o e]; show some (Addr.add ⟨b, o + p, none⟩ K) = _; unfold Addr.add; split <;> simp_all [Nat.add_assoc]) hS1'
            obtain ⟨t0, t1, t2, t3, t4, t5⟩ := HY.out.c6
            simp only [hX, hnr, hcq, hK]
            refine packs18 rfl ((HR.out.mono HB6.out).le HB6.out.size) HBF.out hKn hnc (by omega) t0 t1 t2 t3 t4 t5 hc0 hc1 ?_
            intros
            go_wp2
            go_ret
            exact ⟨rfl, below_drewN HB6.out _⟩
theorem scriptPacks_any {a : Option Addr} {n cap : Nat} {l : List UInt8} (s g : ByteArray) (a0 a1 a2 a3 : Int) (w : World) (h : Rd w.heap.size w a n cap 1 (u8s l)) (h0 : inI a0) (h1 : inI a1) (h2 : inI a2) (h3 : inI a3) :
    Calls Try.prog 6 #[.agg #[.string s, .string g, .int .i64 a0, .int .i64 a1, .int .i64 a2, .int .i64 a3], .slice a n cap] w fun e w' => e = .returned (.bool true) ∧ Below w.heap.size w w' := by
  by_cases hk : 3000 < s.size ∨ 1000 < g.size ∨ 3000 < n
  · exact scriptPacks_far s g a0 a1 a2 a3 w h hk
  · exact scriptPacks_main s g a0 a1 a2 a3 w h (by omega) (by omega) (by omega) h0 h1 h2 h3
end Go.Proofs.Ytppejoccljfblaa
