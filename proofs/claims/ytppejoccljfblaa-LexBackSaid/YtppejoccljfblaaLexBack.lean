/-
  The walk of the law LexBack: it answers true at every text. No condition but sizes.
-/
import Derived.Test.YtppejoccljfblaaLexSame
import Derived.Test.YtppejoccljfblaaLexLines
namespace Go.Proofs.Ytppejoccljfblaa
open Go.RowKit
attribute [local go_sem ↓] store_flt store_tok
attribute [local go_sem] stOk_flt stOk_tok stB_eq stC_eq wr_drew wr_alloc wr_row wr_drewN
attribute [local go_sem] toList_beq

theorem show_len : ∀ (n : Nat) (com : Bool) (A : List UInt8) (l c : Nat), A.length ≤ n → ∀ f g, (showL f g (scanB com A l c).2).length ≤ 3 * A.length := by
  intro n
  induction n with
  | zero =>
    intro com A l c hA f g
    have : A = [] := List.eq_nil_of_length_eq_zero (by omega)
    subst this
    have e : scanB com [] l c = (none, [endT l c]) := by cases com <;> (show scanS [] l c = _; exact scanS_nil l c)
    rw [e]
    simp [showL, endT]
  | succ n ih =>
    intro com A l c hA f g
    have hle := skipG_le com A l c
    rw [scanB]
    generalize skipG com A l c = R at hle ⊢
    obtain ⟨r, l1, c1⟩ := R
    simp only at hle ⊢
    cases r with
    | nil => rw [scanS_nil]; simp [showL]
    | cons x r =>
      cases hk : tokL (x :: r) with
      | none => rw [scanS_bad _ _ (by simp) hk]; simp [showL]
      | some v =>
        obtain ⟨k, t, m⟩ := v
        have hp := tokL_pre hk
        rw [scanS_tok _ _ hk]
        have h1 := fun f g => ih false ((x :: r).drop t.length) l1 (c1 + t.length) (by rw [List.length_drop]; omega) f g
        simp only [List.length_drop] at h1
        have h3 := hp.2.1.length_le
        have h4 := hp.1
        have h5 := hp.2.2
        have k0 : ¬ k = 0 := by omega
        have k1 : ¬ k = 1 := by omega
        have e1 : ((str t).data.toList).length = t.length := rfl
        by_cases hc : c1 = 1
        · simp only [addT, if_pos hc, if_true, List.cons_append, List.nil_append, showL, if_neg k0, if_neg k1, Int.reduceEq, if_false, List.length_append, e1]
          have := h1 false false
          have h6 : (if g = true then ([] : List UInt8) else [10]).length ≤ 1 := by split <;> simp
          omega
        · simp only [addT, if_neg hc, List.cons_append, List.nil_append, showL, if_neg k0, if_neg k1, List.length_append, e1]
          have := h1 false false
          have h6 : (if f = true then ([] : List UInt8) else [32]).length ≤ 1 := by split <;> simp
          omega
theorem strip_pl {ts us : List Tok} (h : us.map stripT = ts.map stripT) : ts.map plT = us.map plT := by
  have e : ∀ l : List Tok, l.map plT = (l.map stripT).map fun x => (⟨x.1, x.2.1, x.2.2, 0, 0⟩ : Tok) := fun l => by rw [List.map_map]; rfl
  rw [e, e, h]

set_option maxRecDepth 100000 in
set_option maxHeartbeats 2000000 in
theorem lexBack_any (s : ByteArray) (w : World) (hs : s.size ≤ maxLen) :
    Calls Try.prog 10 #[.string s] w fun e w' => e = .returned (.bool true) ∧ Below w.heap.size w w' := by
  unfold maxLen at hs
  by_cases h2 : 2000 < s.size
  · have e1 : decide ((2000 : Int) < (s.size : Int)) = true := by rw [decide_eq_true_eq]; omega
    go_enter Try.func10, Try.ntmps10
    go_wp2_with (go_at_call 20 ; refine (awake02_any _).mono ?_; rintro e w1 ⟨rfl, hb⟩; have HB1 := Lib.hid hb; clear hb)
    go_ret
    exact ⟨rfl, HB1.out⟩
  · have e1 : decide ((2000 : Int) < (s.size : Int)) = false := by rw [decide_eq_false_iff_not]; omega
    have hs1 : s.size ≤ 1000000 := by omega
    have hn4 : ¬ 4096 < s.size := by omega
    have hshow := show_len s.data.toList.length false s.data.toList 1 1 (Nat.le_refl _) false true
    have hll := scanB_len s.data.toList.length false s.data.toList 1 1 (Nat.le_refl _)
    rw [length_data] at hshow hll
    rcases hX : scanB false s.data.toList 1 1 with ⟨_ | ⟨l, c⟩, ts⟩
    · rw [hX] at hshow hll
      have hg := scan_good _ _ _ _ _ _ (Nat.le_refl _) hX
      have hlen1 : 0 < ts.length := by cases hg <;> simp
      have hlen2 : ts.length ≤ 100000 := by simp only at hll; omega
      have HSA := Lib.hid (scans_of hs1 (lexes_ok s hn4 hX))
      have HLN : Hid ((showL false true ts).length ≤ 1000000) := Lib.hid (by simp only at hshow; omega)
      obtain ⟨t, ht⟩ : ∃ t, str (showL false true ts) = t := ⟨_, rfl⟩
      have HT := Lib.hid ht
      have htz : t.size ≤ 1000000 := by rw [← ht, str_size]; exact HLN.out
      have tok1 : True := trivial
      by_cases h4 : 4096 < t.size
      · have e2 : decide ((4096 : Int) < (t.size : Int)) = true := by rw [decide_eq_true_eq]; omega
        have HSB := Lib.hid (scans_of htz (lexes_long t h4))
        clear hX hshow hll hg ht h4 h2 hn4
        go_enter Try.func10, Try.ntmps10
        go_wp2_with (first
        | (go_at_call 20 ; refine (awake02_any _).mono ?_; rintro e w1 ⟨rfl, hb⟩; have HB1 := Lib.hid hb; clear hb)
        | (
            go_at_call 21
            have _t := tok1
            refine (HSA.out _).mono ?_
            rintro e w2 ⟨a, n, cap, rfl, hb, hR⟩
            obtain rfl : n = _ := hR.tokLen.symm
            obtain ⟨ab, ao, rfl⟩ : ∃ b o, a = some ⟨b, o, none⟩ := by
              rcases hR.2.2.2 with h0 | ⟨b, o, h0, _⟩
              · exact absurd h0 (by omega)
              · exact ⟨b, o, h0⟩
            have HB2 : Hid (Below w.heap.size w (w2.alloc (.cells #[.int .i64 0, .int .i64 0, .int .i64 0] 38))) := Lib.hid ((HB1.out.trans (hb.mono HB1.out.size)).alloc (Nat.le_trans HB1.out.size hb.size) _)
            have HR2 : Hid (Rd (w2.heap.size + 1) (w2.alloc (.cells #[.int .i64 0, .int .i64 0, .int .i64 0] 38)) (some ⟨ab, ao, none⟩) ts.length cap 5 (tokVs ts)) := Lib.hid ((hR.mono (below_new w2 (.cells #[.int .i64 0, .int .i64 0, .int .i64 0] 38))).le (Nat.le_succ _))
            have hcap := hR.2.1
            have hcm := hR.2.2.1
            clear hb hR tok1 _t)
        | (
            go_at_call 50
            refine (lshow_any _ HR2.out (by rw [World.size_alloc]; omega) HLN.out).mono ?_
            rintro e w3 ⟨rfl, hb⟩
            rw [HT.out]
            have HB3 : Hid (Below w.heap.size w w3) := Lib.hid (HB2.out.trans (hb.mono HB2.out.size))
            have hz3 : w2.heap.size + 1 ≤ w3.heap.size := by have := hb.size; rw [World.size_alloc] at this; exact this
            have HR3 : Hid (Rd (w2.heap.size + 1) w3 (some ⟨ab, ao, none⟩) ts.length cap 5 (tokVs ts)) := Lib.hid (HR2.out.mono (hb.mono (by rw [World.size_alloc]; omega)))
            clear hb)
        | (
            go_at_call 21
            refine (HSB.out _).mono ?_
            rintro e w4 ⟨a4, n4, cap4, rfl, hb, hR⟩
            have HB4 : Hid (Below w.heap.size w (w4.alloc (.cells #[.int .i64 11, .int .i64 0, .int .i64 0] 38))) := Lib.hid ((HB3.out.trans (hb.mono HB3.out.size)).alloc (Nat.le_trans HB3.out.size hb.size) _)
            have hz4 : w3.heap.size ≤ w4.heap.size := hb.size
            have HR4 : Hid (Rd (w2.heap.size + 1) (w4.alloc (.cells #[.int .i64 11, .int .i64 0, .int .i64 0] 38)) (some ⟨ab, ao, none⟩) ts.length cap 5 (tokVs ts)) := Lib.hid ((HR3.out.mono (hb.mono hz3)).mono ((below_new w4 (.cells #[.int .i64 11, .int .i64 0, .int .i64 0] 38)).mono (by omega)))
            have HF4 : Hid (Bo (w4.alloc (.cells #[.int .i64 11, .int .i64 0, .int .i64 0] 38)) w4.heap.size 38 #[.int .i64 11, .int .i64 0, .int .i64 0]) := Lib.hid (Bo.new _ _ _)
            clear hb hR))
        go_loopw [8, 10, 36] (fun v _ j wr => ∃ (k m : Nat), k ≤ ts.length ∧ m ≤ k ∧ j = .int .i64 k ∧ v = .int .i64 m ∧ Hid (Below (w4.heap.size + 1) (w4.alloc (.cells #[.int .i64 11, .int .i64 0, .int .i64 0] 38)) wr) ∧ Hid (itemsN (ts.take k) = m)) (fun _ _ j _ => ts.length - (intOf j).toNat)
        case atStart => exact ⟨0, 0, Nat.zero_le _, Nat.le_refl _, rfl, rfl, Lib.hid (Below.refl _ _), Lib.hid rfl⟩
        case round =>
          obtain ⟨k, m, hk, hmk, rfl, rfl, HW, HE⟩ := hrel
          by_cases hlt : k < ts.length
          · have hlt' : (k : Int) < (ts.length : Int) := by omega
            obtain ⟨b, o, hae, hb, hl, c0, c1, c2, c3, c4⟩ := (HR4.out.mono (HW.out.mono (by omega))).tokAt k hlt
            cases hae
            have HE2 := itemsN_take hl
            rw [HE.out] at HE2
            generalize ts[k] = t at *
            obtain ⟨tk, tS, tn, tl, tc⟩ := t
            simp only at c0 c1 c2 c3 c4 HE2
            have HWA : ∀ o, Below (w4.heap.size + 1) (w4.alloc (.cells #[.int .i64 11, .int .i64 0, .int .i64 0] 38)) (wr.alloc o) := fun o => HW.out.alloc (by have := HW.out.size; rw [World.size_alloc] at this; exact this) o
            have HWB := Lib.hid HWA
            cases hq : (tk == 1) with
            | true =>
              rw [hq, if_pos rfl] at HE2
              skip
              have HE3 := Lib.hid HE2
              clear HE2 HWA
              go_wp2
              go_roundw
              case rel => exact ⟨k + 1, m + 1, by omega, by omega, by go_num, by go_num, Lib.hid (HWB.out _), HE3⟩
              case measure => simp [intOf]; omega
            | false =>
              rw [hq] at HE2
              simp only [Bool.false_eq_true, if_false, Nat.add_zero] at HE2
              have HE3 := Lib.hid HE2
              clear HE2 HWA
              go_wp2
              go_roundw
              case rel => exact ⟨k + 1, m, by omega, by omega, by go_num, rfl, Lib.hid (HWB.out _), HE3⟩
              case measure => simp [intOf]; omega
          · have hlt' : ¬ (k : Int) < (ts.length : Int) := by omega
            have hout : itemsN ts = m := by
              have := HE.out
              rwa [List.take_of_length_le (by omega)] at this
            have HIT := Lib.hid hout
            have hsz := HW.out.size
            rw [World.size_alloc] at hsz
            have HBW : Hid (Below w.heap.size w wr) := Lib.hid (HB4.out.trans (HW.out.mono (by have := HB4.out.size; rw [World.size_alloc] at this; exact this)))
            have HRW : Hid (Rd (w2.heap.size + 1) wr (some ⟨ab, ao, none⟩) ts.length cap 5 (tokVs ts)) := Lib.hid (HR4.out.mono (HW.out.mono (by omega)))
            have HFW := Lib.hid (HF4.out.below HW.out (Nat.lt_succ_self _))
            clear hout HE
            go_wp2_with (first
              | (
                 go_at_call 51
                 refine (rshow_any _ HRW.out (by omega) HLN.out).mono ?_
                 rintro e w5 ⟨rfl, hb⟩
                 rw [HT.out]
                 have HB5 : Hid (Below w.heap.size w w5) := Lib.hid (HBW.out.trans (hb.mono HBW.out.size))
                 have hz5 := hb.size
                 have HR5 : Hid (Rd (w2.heap.size + 1) w5 (some ⟨ab, ao, none⟩) ts.length cap 5 (tokVs ts)) := Lib.hid (HRW.out.mono (hb.mono (by omega)))
                 have HF5 := Lib.hid (HFW.out.keep hb)
                 clear hb)
              | (
                 go_at_call 52
                 refine (items_any _ HR5.out (by omega)).mono ?_
                 rintro e w6 ⟨rfl, hb⟩
                 rw [HIT.out]
                 have HB6 : Hid (Below w.heap.size w w6) := Lib.hid (HB5.out.trans (hb.mono HB5.out.size))
                 have hz6 := hb.size
                 have HR6 : Hid (Rd (w2.heap.size + 1) w6 (some ⟨ab, ao, none⟩) ts.length cap 5 (tokVs ts)) := Lib.hid (HR5.out.mono (hb.mono (by omega)))
                 obtain ⟨f0, f1, f2⟩ := (HF5.out.keep hb).t3
                 clear hb))
            go_ret
            exact ⟨rfl, HB6.out⟩
      · have e2 : decide ((4096 : Int) < (t.size : Int)) = false := by rw [decide_eq_false_iff_not]; omega
        obtain ⟨us, hu1, hu2⟩ := scan_show hg true 1 1 (fun _ => rfl) (Nat.le_refl _)
        have HSB := Lib.hid (scans_of htz (lexes_ok t h4 (by rw [← ht, str_data]; exact hu1)))
        have HPL := Lib.hid (strip_pl hu2)
        have hul : us.length = ts.length := by have := congrArg List.length hu2; simpa using this
        have HUL := Lib.hid hul
        clear hX hshow hll hg ht h4 h2 hn4 hu1 hu2 hul
        go_enter Try.func10, Try.ntmps10
        go_wp2_with (first
        | (go_at_call 20 ; refine (awake02_any _).mono ?_; rintro e w1 ⟨rfl, hb⟩; have HB1 := Lib.hid hb; clear hb)
        | (
            go_at_call 21
            have _t := tok1
            refine (HSA.out _).mono ?_
            rintro e w2 ⟨a, n, cap, rfl, hb, hR⟩
            obtain rfl : n = _ := hR.tokLen.symm
            obtain ⟨ab, ao, rfl⟩ : ∃ b o, a = some ⟨b, o, none⟩ := by
              rcases hR.2.2.2 with h0 | ⟨b, o, h0, _⟩
              · exact absurd h0 (by omega)
              · exact ⟨b, o, h0⟩
            have HB2 : Hid (Below w.heap.size w (w2.alloc (.cells #[.int .i64 0, .int .i64 0, .int .i64 0] 38))) := Lib.hid ((HB1.out.trans (hb.mono HB1.out.size)).alloc (Nat.le_trans HB1.out.size hb.size) _)
            have HR2 : Hid (Rd (w2.heap.size + 1) (w2.alloc (.cells #[.int .i64 0, .int .i64 0, .int .i64 0] 38)) (some ⟨ab, ao, none⟩) ts.length cap 5 (tokVs ts)) := Lib.hid ((hR.mono (below_new w2 (.cells #[.int .i64 0, .int .i64 0, .int .i64 0] 38))).le (Nat.le_succ _))
            have hcap := hR.2.1
            have hcm := hR.2.2.1
            clear hb hR tok1 _t)
        | (
            go_at_call 50
            refine (lshow_any _ HR2.out (by rw [World.size_alloc]; omega) HLN.out).mono ?_
            rintro e w3 ⟨rfl, hb⟩
            rw [HT.out]
            have HB3 : Hid (Below w.heap.size w w3) := Lib.hid (HB2.out.trans (hb.mono HB2.out.size))
            have hz3 : w2.heap.size + 1 ≤ w3.heap.size := by have := hb.size; rw [World.size_alloc] at this; exact this
            have HR3 : Hid (Rd (w2.heap.size + 1) w3 (some ⟨ab, ao, none⟩) ts.length cap 5 (tokVs ts)) := Lib.hid (HR2.out.mono (hb.mono (by rw [World.size_alloc]; omega)))
            clear hb)
        | (
            go_at_call 21
            refine (HSB.out _).mono ?_
            rintro e w4 ⟨a4, n4, cap4, rfl, hb, hR⟩
            obtain rfl : n4 = _ := hR.tokLen.symm
            obtain ⟨ub, uo, rfl⟩ : ∃ b o, a4 = some ⟨b, o, none⟩ := by
              rcases hR.2.2.2 with h0 | ⟨b, o, h0, _⟩
              · exact absurd h0 (by have := HUL.out; omega)
              · exact ⟨b, o, h0⟩
            have HU4 : Hid (Rd (w4.heap.size + 1) (w4.alloc (.cells #[.int .i64 0, .int .i64 0, .int .i64 0] 38)) (some ⟨ub, uo, none⟩) us.length cap4 5 (tokVs us)) := Lib.hid ((hR.mono (below_new w4 (.cells #[.int .i64 0, .int .i64 0, .int .i64 0] 38))).le (Nat.le_succ _))
            have HB4 : Hid (Below w.heap.size w (w4.alloc (.cells #[.int .i64 0, .int .i64 0, .int .i64 0] 38))) := Lib.hid ((HB3.out.trans (hb.mono HB3.out.size)).alloc (Nat.le_trans HB3.out.size hb.size) _)
            have hz4 : w3.heap.size ≤ w4.heap.size := hb.size
            have HR4 : Hid (Rd (w2.heap.size + 1) (w4.alloc (.cells #[.int .i64 0, .int .i64 0, .int .i64 0] 38)) (some ⟨ab, ao, none⟩) ts.length cap 5 (tokVs ts)) := Lib.hid ((HR3.out.mono (hb.mono hz3)).mono ((below_new w4 (.cells #[.int .i64 0, .int .i64 0, .int .i64 0] 38)).mono (by omega)))
            have HF4 : Hid (Bo (w4.alloc (.cells #[.int .i64 0, .int .i64 0, .int .i64 0] 38)) w4.heap.size 38 #[.int .i64 0, .int .i64 0, .int .i64 0]) := Lib.hid (Bo.new _ _ _)
            clear hb hR))
        go_loopw [8, 10, 36] (fun v _ j wr => ∃ (k m : Nat), k ≤ ts.length ∧ m ≤ k ∧ j = .int .i64 k ∧ v = .int .i64 m ∧ Hid (Below (w4.heap.size + 1) (w4.alloc (.cells #[.int .i64 0, .int .i64 0, .int .i64 0] 38)) wr) ∧ Hid (itemsN (ts.take k) = m)) (fun _ _ j _ => ts.length - (intOf j).toNat)
        case atStart => exact ⟨0, 0, Nat.zero_le _, Nat.le_refl _, rfl, rfl, Lib.hid (Below.refl _ _), Lib.hid rfl⟩
        case round =>
          obtain ⟨k, m, hk, hmk, rfl, rfl, HW, HE⟩ := hrel
          by_cases hlt : k < ts.length
          · have hlt' : (k : Int) < (ts.length : Int) := by omega
            obtain ⟨b, o, hae, hb, hl, c0, c1, c2, c3, c4⟩ := (HR4.out.mono (HW.out.mono (by omega))).tokAt k hlt
            cases hae
            have HE2 := itemsN_take hl
            rw [HE.out] at HE2
            generalize ts[k] = t at *
            obtain ⟨tk, tS, tn, tl, tc⟩ := t
            simp only at c0 c1 c2 c3 c4 HE2
            have HWA : ∀ o, Below (w4.heap.size + 1) (w4.alloc (.cells #[.int .i64 0, .int .i64 0, .int .i64 0] 38)) (wr.alloc o) := fun o => HW.out.alloc (by have := HW.out.size; rw [World.size_alloc] at this; exact this) o
            have HWB := Lib.hid HWA
            cases hq : (tk == 1) with
            | true =>
              rw [hq, if_pos rfl] at HE2
              skip
              have HE3 := Lib.hid HE2
              clear HE2 HWA
              go_wp2
              go_roundw
              case rel => exact ⟨k + 1, m + 1, by omega, by omega, by go_num, by go_num, Lib.hid (HWB.out _), HE3⟩
              case measure => simp [intOf]; omega
            | false =>
              rw [hq] at HE2
              simp only [Bool.false_eq_true, if_false, Nat.add_zero] at HE2
              have HE3 := Lib.hid HE2
              clear HE2 HWA
              go_wp2
              go_roundw
              case rel => exact ⟨k + 1, m, by omega, by omega, by go_num, rfl, Lib.hid (HWB.out _), HE3⟩
              case measure => simp [intOf]; omega
          · have hlt' : ¬ (k : Int) < (ts.length : Int) := by omega
            have hout : itemsN ts = m := by
              have := HE.out
              rwa [List.take_of_length_le (by omega)] at this
            have HIT := Lib.hid hout
            have hsz := HW.out.size
            rw [World.size_alloc] at hsz
            have HBW : Hid (Below w.heap.size w wr) := Lib.hid (HB4.out.trans (HW.out.mono (by have := HB4.out.size; rw [World.size_alloc] at this; exact this)))
            have HRW : Hid (Rd (w2.heap.size + 1) wr (some ⟨ab, ao, none⟩) ts.length cap 5 (tokVs ts)) := Lib.hid (HR4.out.mono (HW.out.mono (by omega)))
            have HFW := Lib.hid (HF4.out.below HW.out (Nat.lt_succ_self _))
            have HUW : Hid (Rd (w4.heap.size + 1) wr (some ⟨ub, uo, none⟩) us.length cap4 5 (tokVs us)) := Lib.hid (HU4.out.mono HW.out)
            clear hout HE
            go_wp2_with (first
              | (
                 go_at_call 51
                 refine (rshow_any _ HRW.out (by omega) HLN.out).mono ?_
                 rintro e w5 ⟨rfl, hb⟩
                 rw [HT.out]
                 have HB5 : Hid (Below w.heap.size w w5) := Lib.hid (HBW.out.trans (hb.mono HBW.out.size))
                 have hz5 := hb.size
                 have HR5 : Hid (Rd (w2.heap.size + 1) w5 (some ⟨ab, ao, none⟩) ts.length cap 5 (tokVs ts)) := Lib.hid (HRW.out.mono (hb.mono (by omega)))
                 have HF5 := Lib.hid (HFW.out.keep hb)
                 have HU5 := Lib.hid (HUW.out.mono (hb.mono (by omega)))
                 clear hb)
              | (
                 go_at_call 52
                 refine (items_any _ HR5.out (by omega)).mono ?_
                 rintro e w6 ⟨rfl, hb⟩
                 rw [HIT.out]
                 have HB6 : Hid (Below w.heap.size w w6) := Lib.hid (HB5.out.trans (hb.mono HB5.out.size))
                 have hz6 := hb.size
                 have HR6 : Hid (Rd (w2.heap.size + 1) w6 (some ⟨ab, ao, none⟩) ts.length cap 5 (tokVs ts)) := Lib.hid (HR5.out.mono (hb.mono (by omega)))
                 obtain ⟨f0, f1, f2⟩ := (HF5.out.keep hb).t3
                 have HU6 := Lib.hid (HU5.out.mono (hb.mono (by omega)))
                 clear hb)
              | (
                 go_at_call 53
                 refine (same_any _ HR6.out HU6.out (by omega) (by omega) hlen2 hlen1 HPL.out).mono ?_
                 rintro e w7 ⟨rfl, hb⟩
                 have HB7 : Hid (Below w.heap.size w w7) := Lib.hid (HB6.out.trans (hb.mono HB6.out.size))
                 clear hb))
            go_ret
            exact ⟨rfl, HB7.out⟩
    · have HSA := Lib.hid (scans_of hs1 (lexes_bad s hn4 hX))
      clear hX hshow hll h2 hn4
      go_enter Try.func10, Try.ntmps10
      go_wp2_with (first
      | (go_at_call 20 ; refine (awake02_any _).mono ?_; rintro e w1 ⟨rfl, hb⟩; have HB1 := Lib.hid hb; clear hb)
      | (
         go_at_call 21
         refine (HSA.out _).mono ?_
         rintro e w2 ⟨a, n, cap, rfl, hb, hR⟩
         obtain rfl : n = 0 := hR.tokLen.symm
         have HB2 : Hid (Below w.heap.size w (w2.alloc (.cells #[.int .i64 1, .int .i64 l, .int .i64 c] 38))) := Lib.hid ((HB1.out.trans (hb.mono HB1.out.size)).alloc (Nat.le_trans HB1.out.size hb.size) _)
         clear hb hR))
      go_ret
      exact ⟨rfl, HB2.out⟩
end Go.Proofs.Ytppejoccljfblaa
