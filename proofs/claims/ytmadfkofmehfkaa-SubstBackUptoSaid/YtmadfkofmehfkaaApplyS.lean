/-
  subst.replaced with Apply's function; subst.Apply. No condition but how the terms lie, and how great they are.
-/
import Derived.Test.YtmadfkofmehfkaaApplyR
namespace Go.Proofs.Ytmadfkofmehfkaa
open Go.RowKit
attribute [local go_sem ↓] store_tmF
attribute [local go_sem] stOk_tmF
attribute [local go_sem] stB_eq stC_eq wr_drew wr_alloc wr_row
attribute [local go_sem ↓] wp_store_O
attribute [local go_sem] stO_eq stF_eq wrO_set

set_option maxRecDepth 100000 in
set_option maxHeartbeats 20000000 in
theorem replacedA_any {V : List (Int × Tm)} (m : Nat) : ∀ (t : Tm) (B q bn bc n cap : Nat) (ba a : Option Addr) (w : World), t.size ≤ m → m ≤ 1048576 → w.cell? ⟨q, 0, none⟩ = some (.slice ba bn bc) → Mem (· < B) w (.s 5 (bindsT V)) (.slice ba bn bc) → Mem (· < B) w (.s 4 (Tm.rows t.args)) (.slice a n cap) → B ≤ w.heap.size →
    Calls Try.prog 37 #[.agg #[.int .i64 t.kind, .string t.name, .int .i64 t.n, .slice a n cap], .func (.func 38) #[] #[.pointer (some ⟨q, 0, none⟩)]] w (GivesT B (apT V t) w) := by
  induction m with
  | zero => intro t _ _ _ _ _ _ _ _ w h; have := t.size_pos; omega
  | succ m ih =>
    intro t B q bn bc n cap ba a w hm hmm hq hb ht hB
    have IH := Lib.hid ih
    clear ih
    have HW1 := Lib.hid (((below_new w (.cells #[.int .i64 t.kind, .string t.name, .int .i64 t.n, .slice a n cap] 24)).alloc (by simp) (.cells #[.int .i64 0, .string ⟨#[]⟩, .int .i64 0, .slice none 0 0] 24)))
    have HX := Lib.hid ((Bo.new w 24 #[.int .i64 t.kind, .string t.name, .int .i64 t.n, .slice a n cap]).alloc (.cells #[.int .i64 0, .string ⟨#[]⟩, .int .i64 0, .slice none 0 0] 24))
    have HY := Lib.hid (World.size_alloc w (.cells #[.int .i64 t.kind, .string t.name, .int .i64 t.n, .slice a n cap] 24) ▸ Bo.new (w.alloc (.cells #[.int .i64 t.kind, .string t.name, .int .i64 t.n, .slice a n cap] 24)) 24 #[.int .i64 0, .string ⟨#[]⟩, .int .i64 0, .slice none 0 0])
    have HQ := Lib.hid hq
    have HBD := Lib.hid hb
    have HT := Lib.hid ht
    have H0 := Lib.hid hB
    have hl := ht.len
    rw [Tm.rows_len] at hl
    have hln := Lib.hid hl.1
    have hcap := hl.2.1
    have hmx := hl.2.2
    have HA := Lib.hid (show ∀ x ∈ t.args, x.size ≤ m from fun x hx => by have := Tm.size_arg hx; omega)
    have HM := Lib.hid (show t.size ≤ 1048576 by omega)
    have HMM := Lib.hid (show m ≤ 1048576 by omega)
    obtain ⟨x0, x1, x2, x3⟩ := HX.out.c4
    have HC := Lib.hid (apply1_any (V := V) (n := t.n) (cell_below hq HW1.out) (Mem.keep hb (Nat.le_refl _) (HW1.out.mono hB)) (Nat.le_trans hB HW1.out.size))
    unfold Found at HC
    clear hq hb ht hB hm hmm hl
    by_cases hk : t.kind = 3
    · have e1 : (t.kind == 3) = true := by rw [beq_iff_eq]; exact hk
      cases hlk : look V t.n with
      | some x =>
        have HF := Lib.hid (apT_hit hk hlk)
        rw [hlk] at HC
        clear hk hlk
        go_enter Try.func37, Try.ntmps37
        go_wp2_with fail
        refine HC.out.mono ?_
        rintro e w2 ⟨⟨a2, n2, c2, rfl, hm⟩, hb⟩
        have HB2 := Lib.hid (HW1.out.trans (hb.mono HW1.out.size))
        have HM2 := Lib.hid hm
        have HY2 := Lib.hid (HY.out.keep hb)
        have hwr : Wr w2 (w.heap.size + 1) 24 4 := HY2.out.wr
        have hz2 := HY2.out.lt
        clear hb hm x0 x1 x2 x3
        go_wp2_with fail
        have HR := Lib.hid (fun (o : Obj) => ((HY2.out.alloc o).row #[.int .i64 x.kind, .string x.name, .int .i64 x.n, .slice a2 n2 c2]).c4)
        refine bodyPost_ret (v := .agg #[.int .i64 x.kind, .string x.name, .int .i64 x.n, .slice a2 n2 c2]) (by simp [results, Try.results37, go_sem, HR.out]) rfl ?_
        rw [HF.out]
        refine ⟨a2, n2, c2, rfl, below_setRow (HB2.out.alloc HB2.out.size _) (by omega) _, HM2.out.mono (fun b hb => ⟨.inl hb, by rw [size_setRow, World.size_alloc]; have := H0.out; have := HB2.out.size; omega⟩) fun b' hb' => (setRow_other _ _ b' _ (by have := H0.out; omega)).trans ((below_new w2 _).block b' (by have := H0.out; have := HB2.out.size; omega))⟩
      | none =>
        have HF := Lib.hid (apT_miss (l := V) (t := t) (fun _ => hlk))
        rw [hlk] at HC
        clear hk hlk
        go_enter Try.func37, Try.ntmps37
        go_wp2_with fail
        refine HC.out.mono ?_
        rintro e wv ⟨rfl, hb⟩
        have HB := Lib.hid ((HW1.out.trans (hb.mono HW1.out.size)).alloc (Nat.le_trans HW1.out.size hb.size) (.cells #[.int .i64 0, .string ⟨#[]⟩, .int .i64 0, .slice none 0 0] 24))
        have HX1 := Lib.hid ((HX.out.keep hb).alloc (.cells #[.int .i64 0, .string ⟨#[]⟩, .int .i64 0, .slice none 0 0] 24))
        have HY1 := Lib.hid ((HY.out.keep hb).alloc (.cells #[.int .i64 0, .string ⟨#[]⟩, .int .i64 0, .slice none 0 0] 24))
        clear hb x0 x1 x2 x3
        obtain ⟨x0, x1, x2, x3⟩ := HX1.out.c4
        have HZS : Hid ((wv.alloc (.cells #[.int .i64 0, .string ⟨#[]⟩, .int .i64 0, .slice none 0 0] 24)).heap.size = wv.heap.size + 1) := Lib.hid (World.size_alloc _ _)
        have hz0 := HY1.out.lt
        by_cases hn0 : n = 0
        · have e5 : ((n : Int) == 0) = true := by rw [beq_iff_eq]; omega
          have HA0 : Hid (t.args = []) := Lib.hid (List.length_eq_zero_iff.1 (by have := hln.out; omega))
          have hwr : Wr (wv.alloc (.cells #[.int .i64 0, .string ⟨#[]⟩, .int .i64 0, .slice none 0 0] 24)) (w.heap.size + 1) 24 4 := HY1.out.wr
          have HTW := Lib.hid (Mem.keep HT.out (Nat.le_refl _) (HB.out.mono H0.out))
          clear hn0
          go_wp2_with fail
          have HR := Lib.hid (HY1.out.row #[.int .i64 t.kind, .string t.name, .int .i64 t.n, .slice a n cap]).c4
          refine bodyPost_ret (v := .agg #[.int .i64 t.kind, .string t.name, .int .i64 t.n, .slice a n cap]) (by simp [results, Try.results37, go_sem, HR.out]) rfl ?_
          rw [HF.out]
          refine ⟨a, n, cap, rfl, below_setRow HB.out (by omega) _, ?_⟩
          show Mem _ _ (.s 4 (Tm.rows (apTs _ t.args))) _
          have hT := HTW.out
          rw [HA0.out] at hT ⊢
          rw [apTs, Tm.rows] at *
          exact Mem.none_to hT
        · have e5 : ((n : Int) == 0) = false := by rw [beq_eq_false_iff_ne]; omega
          have hn9 : n ≤ 1048576 := by
            have h1 := HM.out
            rw [Tm.size_eq] at h1
            have h2 := Tm.len_args t.args
            have := hln.out
            omega
          have hmk := run_madeT n hn9
          have HRR := Lib.hid (RB.made B (wv.alloc (.cells #[.int .i64 0, .string ⟨#[]⟩, .int .i64 0, .slice none 0 0] 24)) (wv.alloc (.cells #[.int .i64 0, .string ⟨#[]⟩, .int .i64 0, .slice none 0 0] 24)).heap.size n 24 (Nat.le_refl _))
          rw [HZS.out] at HRR
          have HW2 := Lib.hid (HB.out.alloc HB.out.size (.cells (madeT n) 24))
          have HX2 := Lib.hid (HX1.out.alloc (.cells (madeT n) 24))
          have HY2 := Lib.hid (HY1.out.alloc (.cells (madeT n) 24))
          have HQ2 : Hid (w.heap.size + 2 ≤ (wv.heap.size + 1)) := Lib.hid (by have := HZS.out; omega)
          obtain ⟨y0, y1, y2, y3⟩ := HX2.out.c4
          clear hn0 HB HX1 HY1 hz0
          go_wp2_with fail
          clear x0 x1 x2 x3 y0 y1 y2 y3 hmk
          generalize (wv.alloc (.cells #[.int .i64 0, .string ⟨#[]⟩, .int .i64 0, .slice none 0 0] 24)).alloc (.cells (madeT n) 24) = W2 at *
          go_loopw [8, 34] (fun _ i wr => ∃ (k : Nat) (d : Array El), k ≤ n ∧ i = .int .i64 k ∧ d.size = n ∧ Hid (Below w.heap.size w wr) ∧ Hid (Bo wr w.heap.size 24 #[.int .i64 t.kind, .string t.name, .int .i64 t.n, .slice a n cap]) ∧ Hid (Bo wr (w.heap.size + 1) 24 #[.int .i64 0, .string ⟨#[]⟩, .int .i64 0, .slice none 0 0]) ∧ Hid (RB B (wv.heap.size + 1) (wv.heap.size + 1) d wr) ∧ Hid (LaidA V t.args d k)) (fun _ i _ => n - (intOf i).toNat)
          case atStart => exact ⟨0, Array.replicate n default, Nat.zero_le _, rfl, by simp, HW2, HX2, HY2, HRR, Lib.hid (fun j x hj => absurd hj (Nat.not_lt_zero _))⟩
          case round =>
            obtain ⟨k, d, hk, rfl, hd, HB, HX1, HY1, HRW, HLD⟩ := hrel
            by_cases hlt : k < n
            · have hltz : (k : Int) < (n : Int) := by omega
              obtain ⟨b', o, x, ax, nx, capx, rfl, hbB, Hx, x0, x1, x2, x3, GX⟩ := tm_at (Mem.keep HT.out (Nat.le_refl _) (HB.out.mono H0.out)) k hlt
              have GA := Lib.hid (HA.out x (mem_of_at Hx.out))
              have HBA := Lib.hid (HB.out.alloc HB.out.size (.cells #[.int .i64 x.kind, .string x.name, .int .i64 x.n, .slice ax nx capx] 24))
              have HC := Lib.hid (IH.out x B q bn bc nx capx ba ax (wr.alloc (.cells #[.int .i64 x.kind, .string x.name, .int .i64 x.n, .slice ax nx capx] 24)) GA.out HMM.out (cell_below HQ.out HBA.out) (Mem.keep HBD.out (Nat.le_refl _) (HBA.out.mono H0.out)) (Mem.keep GX.out (Nat.le_refl _) ((below_new wr _).mono (Nat.le_trans H0.out HB.out.size))) (Nat.le_trans H0.out HBA.out.size))
              have hdk : k < d.size := by omega
              go_wp2_with (first
                | (go_at_call 37
                   refine HC.out.mono ?_
                   rintro e w2 ⟨a2, n2, cap2, rfl, hb, hm⟩
                   have HB2 := Lib.hid hb; clear hb
                   have HM2 := Lib.hid hm; clear hm
                   have HR2 := Lib.hid ((HRW.out.alloc (.cells #[.int .i64 x.kind, .string x.name, .int .i64 x.n, .slice ax nx capx] 24)).keep HB2.out)
                   have hwo : WrO w2 (wv.heap.size + 1) (k * 4) := HR2.out.wr0 hdk))
              go_roundw
              case rel =>
                have hg := grownBy_setCells w2 (wv.heap.size + 1) [.int .i64 (apT V x).kind, .string (apT V x).name, .int .i64 (apT V x).n, .slice a2 n2 cap2] (k * 4)
                refine ⟨k + 1, d.setIfInBounds k ⟨apT V x, a2, n2, cap2⟩, by omega, by go_num, by rw [Array.size_setIfInBounds]; exact hd, Lib.hid (grown_below (HBA.out.trans (HB2.out.mono HBA.out.size)) hg (Nat.le_refl _) (fun b hb => by cases hb; have := HQ2.out; omega)), Lib.hid (((HX1.out.alloc _).keep HB2.out).grown hg (fun b hb => by cases hb; have := HQ2.out; omega)), Lib.hid (((HY1.out.alloc _).keep HB2.out).grown hg (fun b hb => by cases hb; have := HQ2.out; omega)), Lib.hid (HR2.out.put0 hdk ⟨apT V x, a2, n2, cap2⟩ ?_), Lib.hid (HLD.out.put hdk Hx.out _ rfl)⟩
                exact HM2.out.mono (fun b hb => by
                  have h1 := hb.1
                  have h2 := HRW.out.hq
                  have h3 := HQ2.out
                  have h4 := H0.out
                  rw [World.size_alloc] at h1
                  exact ⟨⟨by omega, hb.2⟩, by omega⟩) fun _ _ => rfl
              case measure => simp [intOf]; omega
            · obtain rfl : k = n := by omega
              have hltz : ¬ (k : Int) < (k : Int) := by omega
              have hts : d.toList.map (·.t) = apTs V t.args := by
                have h := HLD.out
                rw [← hln.out] at h
                exact h.all (by rw [hd, hln.out])
              have h0q := H0.out
              have hq2 := HQ2.out
              have HRW2 := Lib.hid (HRW.out.far w.heap.size 3 (.slice (some ⟨(wv.heap.size + 1), 0, none⟩) k k) (by omega) h0q)
              have HX2 : Hid (Bo (wr.setCell ⟨w.heap.size, 3, none⟩ (.slice (some ⟨(wv.heap.size + 1), 0, none⟩) k k)) w.heap.size 24 #[.int .i64 t.kind, .string t.name, .int .i64 t.n, .slice (some ⟨(wv.heap.size + 1), 0, none⟩) k k]) := Lib.hid (HX1.out.set 3 _)
              have HY2 : Hid (Bo (wr.setCell ⟨w.heap.size, 3, none⟩ (.slice (some ⟨(wv.heap.size + 1), 0, none⟩) k k)) (w.heap.size + 1) 24 #[.int .i64 0, .string ⟨#[]⟩, .int .i64 0, .slice none 0 0]) := Lib.hid (HY1.out.far 3 _ (by omega))
              obtain ⟨g0, g1, g2, g3⟩ := HX1.out.c4
              obtain ⟨p0, p1, p2, p3⟩ := HX2.out.c4
              have f3 := HX1.out.frozen 3
              have hwr : Wr (wr.setCell ⟨w.heap.size, 3, none⟩ (.slice (some ⟨(wv.heap.size + 1), 0, none⟩) k k)) (w.heap.size + 1) 24 4 := HY2.out.wr
              have HTS := Lib.hid hts
              clear g0 g1 g2 hts
              go_wp2
              have HR := Lib.hid (HY2.out.row #[.int .i64 t.kind, .string t.name, .int .i64 t.n, .slice (some ⟨(wv.heap.size + 1), 0, none⟩) k k]).c4
              refine bodyPost_ret (v := .agg #[.int .i64 t.kind, .string t.name, .int .i64 t.n, .slice (some ⟨(wv.heap.size + 1), 0, none⟩) k k]) (by simp [results, Try.results37, go_sem, HR.out]) rfl ?_
              rw [HF.out]
              refine ⟨some ⟨(wv.heap.size + 1), 0, none⟩, k, k, rfl, below_setRow (HB.out.setCell (p := ⟨w.heap.size, 3, none⟩) (Nat.le_refl _) _) (by omega) _, ?_⟩
              have h9 := ((HRW2.out.rowFar (w.heap.size + 1) #[.int .i64 t.kind, .string t.name, .int .i64 t.n, .slice (some ⟨(wv.heap.size + 1), 0, none⟩) k k] (by omega) (by omega)).memT (by omega) HTS.out).mono (S' := Nw B w.heap.size _) (fun b hb => ⟨hb.1.imp id fun h => by omega, hb.2⟩) fun _ _ => rfl
              rw [hd] at h9
              exact h9
    · have e1 : (t.kind == 3) = false := by rw [beq_eq_false_iff_ne]; exact hk
      have HF := Lib.hid (apT_miss (l := V) (t := t) (fun h => absurd h hk))
      have HB := HW1
      have HX1 := HX
      have HY1 := HY
      clear hk HC x0 x1 x2 x3
      have HZS : Hid (((w.alloc (.cells #[.int .i64 t.kind, .string t.name, .int .i64 t.n, .slice a n cap] 24)).alloc (.cells #[.int .i64 0, .string ⟨#[]⟩, .int .i64 0, .slice none 0 0] 24)).heap.size = w.heap.size + 2) := Lib.hid (by simp)
      obtain ⟨x0, x1, x2, x3⟩ := HX1.out.c4
      have hz0 := HY1.out.lt
      by_cases hn0 : n = 0
      · have e5 : ((n : Int) == 0) = true := by rw [beq_iff_eq]; omega
        have HA0 : Hid (t.args = []) := Lib.hid (List.length_eq_zero_iff.1 (by have := hln.out; omega))
        have hwr : Wr ((w.alloc (.cells #[.int .i64 t.kind, .string t.name, .int .i64 t.n, .slice a n cap] 24)).alloc (.cells #[.int .i64 0, .string ⟨#[]⟩, .int .i64 0, .slice none 0 0] 24)) (w.heap.size + 1) 24 4 := HY1.out.wr
        have HTW := Lib.hid (Mem.keep HT.out (Nat.le_refl _) (HB.out.mono H0.out))
        clear hn0
        go_enter Try.func37, Try.ntmps37
        go_wp2
        have HR := Lib.hid (HY1.out.row #[.int .i64 t.kind, .string t.name, .int .i64 t.n, .slice a n cap]).c4
        refine bodyPost_ret (v := .agg #[.int .i64 t.kind, .string t.name, .int .i64 t.n, .slice a n cap]) (by simp [results, Try.results37, go_sem, HR.out]) rfl ?_
        rw [HF.out]
        refine ⟨a, n, cap, rfl, below_setRow HB.out (by omega) _, ?_⟩
        show Mem _ _ (.s 4 (Tm.rows (apTs _ t.args))) _
        have hT := HTW.out
        rw [HA0.out] at hT ⊢
        rw [apTs, Tm.rows] at *
        exact Mem.none_to hT
      · have e5 : ((n : Int) == 0) = false := by rw [beq_eq_false_iff_ne]; omega
        have hn9 : n ≤ 1048576 := by
          have h1 := HM.out
          rw [Tm.size_eq] at h1
          have h2 := Tm.len_args t.args
          have := hln.out
          omega
        have hmk := run_madeT n hn9
        have HRR := Lib.hid (RB.made B ((w.alloc (.cells #[.int .i64 t.kind, .string t.name, .int .i64 t.n, .slice a n cap] 24)).alloc (.cells #[.int .i64 0, .string ⟨#[]⟩, .int .i64 0, .slice none 0 0] 24)) ((w.alloc (.cells #[.int .i64 t.kind, .string t.name, .int .i64 t.n, .slice a n cap] 24)).alloc (.cells #[.int .i64 0, .string ⟨#[]⟩, .int .i64 0, .slice none 0 0] 24)).heap.size n 24 (Nat.le_refl _))
        rw [HZS.out] at HRR
        have HW2 := Lib.hid (HB.out.alloc HB.out.size (.cells (madeT n) 24))
        have HX2 := Lib.hid (HX1.out.alloc (.cells (madeT n) 24))
        have HY2 := Lib.hid (HY1.out.alloc (.cells (madeT n) 24))
        have HQ2 : Hid (w.heap.size + 2 ≤ (w.heap.size + 2)) := Lib.hid (by have := HZS.out; omega)
        obtain ⟨y0, y1, y2, y3⟩ := HX2.out.c4
        clear hn0 HB HX1 HY1 hz0
        go_enter Try.func37, Try.ntmps37
        go_wp2
        clear x0 x1 x2 x3 y0 y1 y2 y3 hmk
        generalize ((w.alloc (.cells #[.int .i64 t.kind, .string t.name, .int .i64 t.n, .slice a n cap] 24)).alloc (.cells #[.int .i64 0, .string ⟨#[]⟩, .int .i64 0, .slice none 0 0] 24)).alloc (.cells (madeT n) 24) = W2 at *
        go_loopw [8, 34] (fun _ i wr => ∃ (k : Nat) (d : Array El), k ≤ n ∧ i = .int .i64 k ∧ d.size = n ∧ Hid (Below w.heap.size w wr) ∧ Hid (Bo wr w.heap.size 24 #[.int .i64 t.kind, .string t.name, .int .i64 t.n, .slice a n cap]) ∧ Hid (Bo wr (w.heap.size + 1) 24 #[.int .i64 0, .string ⟨#[]⟩, .int .i64 0, .slice none 0 0]) ∧ Hid (RB B (w.heap.size + 2) (w.heap.size + 2) d wr) ∧ Hid (LaidA V t.args d k)) (fun _ i _ => n - (intOf i).toNat)
        case atStart => exact ⟨0, Array.replicate n default, Nat.zero_le _, rfl, by simp, HW2, HX2, HY2, HRR, Lib.hid (fun j x hj => absurd hj (Nat.not_lt_zero _))⟩
        case round =>
          obtain ⟨k, d, hk, rfl, hd, HB, HX1, HY1, HRW, HLD⟩ := hrel
          by_cases hlt : k < n
          · have hltz : (k : Int) < (n : Int) := by omega
            obtain ⟨b', o, x, ax, nx, capx, rfl, hbB, Hx, x0, x1, x2, x3, GX⟩ := tm_at (Mem.keep HT.out (Nat.le_refl _) (HB.out.mono H0.out)) k hlt
            have GA := Lib.hid (HA.out x (mem_of_at Hx.out))
            have HBA := Lib.hid (HB.out.alloc HB.out.size (.cells #[.int .i64 x.kind, .string x.name, .int .i64 x.n, .slice ax nx capx] 24))
            have HC := Lib.hid (IH.out x B q bn bc nx capx ba ax (wr.alloc (.cells #[.int .i64 x.kind, .string x.name, .int .i64 x.n, .slice ax nx capx] 24)) GA.out HMM.out (cell_below HQ.out HBA.out) (Mem.keep HBD.out (Nat.le_refl _) (HBA.out.mono H0.out)) (Mem.keep GX.out (Nat.le_refl _) ((below_new wr _).mono (Nat.le_trans H0.out HB.out.size))) (Nat.le_trans H0.out HBA.out.size))
            have hdk : k < d.size := by omega
            go_wp2_with (first
              | (go_at_call 37
                 refine HC.out.mono ?_
                 rintro e w2 ⟨a2, n2, cap2, rfl, hb, hm⟩
                 have HB2 := Lib.hid hb; clear hb
                 have HM2 := Lib.hid hm; clear hm
                 have HR2 := Lib.hid ((HRW.out.alloc (.cells #[.int .i64 x.kind, .string x.name, .int .i64 x.n, .slice ax nx capx] 24)).keep HB2.out)
                 have hwo : WrO w2 (w.heap.size + 2) (k * 4) := HR2.out.wr0 hdk))
            go_roundw
            case rel =>
              have hg := grownBy_setCells w2 (w.heap.size + 2) [.int .i64 (apT V x).kind, .string (apT V x).name, .int .i64 (apT V x).n, .slice a2 n2 cap2] (k * 4)
              refine ⟨k + 1, d.setIfInBounds k ⟨apT V x, a2, n2, cap2⟩, by omega, by go_num, by rw [Array.size_setIfInBounds]; exact hd, Lib.hid (grown_below (HBA.out.trans (HB2.out.mono HBA.out.size)) hg (Nat.le_refl _) (fun b hb => by cases hb; have := HQ2.out; omega)), Lib.hid (((HX1.out.alloc _).keep HB2.out).grown hg (fun b hb => by cases hb; have := HQ2.out; omega)), Lib.hid (((HY1.out.alloc _).keep HB2.out).grown hg (fun b hb => by cases hb; have := HQ2.out; omega)), Lib.hid (HR2.out.put0 hdk ⟨apT V x, a2, n2, cap2⟩ ?_), Lib.hid (HLD.out.put hdk Hx.out _ rfl)⟩
              exact HM2.out.mono (fun b hb => by
                have h1 := hb.1
                have h2 := HRW.out.hq
                have h3 := HQ2.out
                have h4 := H0.out
                rw [World.size_alloc] at h1
                exact ⟨⟨by omega, hb.2⟩, by omega⟩) fun _ _ => rfl
            case measure => simp [intOf]; omega
          · obtain rfl : k = n := by omega
            have hltz : ¬ (k : Int) < (k : Int) := by omega
            have hts : d.toList.map (·.t) = apTs V t.args := by
              have h := HLD.out
              rw [← hln.out] at h
              exact h.all (by rw [hd, hln.out])
            have h0q := H0.out
            have hq2 := HQ2.out
            have HRW2 := Lib.hid (HRW.out.far w.heap.size 3 (.slice (some ⟨(w.heap.size + 2), 0, none⟩) k k) (by omega) h0q)
            have HX2 : Hid (Bo (wr.setCell ⟨w.heap.size, 3, none⟩ (.slice (some ⟨(w.heap.size + 2), 0, none⟩) k k)) w.heap.size 24 #[.int .i64 t.kind, .string t.name, .int .i64 t.n, .slice (some ⟨(w.heap.size + 2), 0, none⟩) k k]) := Lib.hid (HX1.out.set 3 _)
            have HY2 : Hid (Bo (wr.setCell ⟨w.heap.size, 3, none⟩ (.slice (some ⟨(w.heap.size + 2), 0, none⟩) k k)) (w.heap.size + 1) 24 #[.int .i64 0, .string ⟨#[]⟩, .int .i64 0, .slice none 0 0]) := Lib.hid (HY1.out.far 3 _ (by omega))
            obtain ⟨g0, g1, g2, g3⟩ := HX1.out.c4
            obtain ⟨p0, p1, p2, p3⟩ := HX2.out.c4
            have f3 := HX1.out.frozen 3
            have hwr : Wr (wr.setCell ⟨w.heap.size, 3, none⟩ (.slice (some ⟨(w.heap.size + 2), 0, none⟩) k k)) (w.heap.size + 1) 24 4 := HY2.out.wr
            have HTS := Lib.hid hts
            clear g0 g1 g2 hts
            go_wp2
            have HR := Lib.hid (HY2.out.row #[.int .i64 t.kind, .string t.name, .int .i64 t.n, .slice (some ⟨(w.heap.size + 2), 0, none⟩) k k]).c4
            refine bodyPost_ret (v := .agg #[.int .i64 t.kind, .string t.name, .int .i64 t.n, .slice (some ⟨(w.heap.size + 2), 0, none⟩) k k]) (by simp [results, Try.results37, go_sem, HR.out]) rfl ?_
            rw [HF.out]
            refine ⟨some ⟨(w.heap.size + 2), 0, none⟩, k, k, rfl, below_setRow (HB.out.setCell (p := ⟨w.heap.size, 3, none⟩) (Nat.le_refl _) _) (by omega) _, ?_⟩
            have h9 := ((HRW2.out.rowFar (w.heap.size + 1) #[.int .i64 t.kind, .string t.name, .int .i64 t.n, .slice (some ⟨(w.heap.size + 2), 0, none⟩) k k] (by omega) (by omega)).memT (by omega) HTS.out).mono (S' := Nw B w.heap.size _) (fun b hb => ⟨hb.1.imp id fun h => by omega, hb.2⟩) fun _ _ => rfl
            rw [hd] at h9
            exact h9
set_option maxRecDepth 100000 in
set_option maxHeartbeats 20000000 in
theorem applyS_any {V : List (Int × Tm)} {t : Tm} {B bn bc n cap : Nat} {ba a : Option Addr} (w : World) (hs : t.size ≤ 1048576) (hb : Mem (· < B) w (.s 5 (bindsT V)) (.slice ba bn bc)) (ht : Mem (· < B) w (.s 4 (Tm.rows t.args)) (.slice a n cap)) (hB : B ≤ w.heap.size) :
    Calls Try.prog 13 #[.slice ba bn bc, .agg #[.int .i64 t.kind, .string t.name, .int .i64 t.n, .slice a n cap]] w (GivesT B (apT V t) w) := by
  have HB0 := Lib.hid (((below_new w (.cells #[.slice ba bn bc] 30)).alloc (by simp) (.cells #[.int .i64 t.kind, .string t.name, .int .i64 t.n, .slice a n cap] 24)).alloc (by simp; omega) (.cells #[.int .i64 0, .string ⟨#[]⟩, .int .i64 0, .slice none 0 0] 24))
  have HQ := Lib.hid (((Bo.new w 30 #[.slice ba bn bc]).alloc (.cells #[.int .i64 t.kind, .string t.name, .int .i64 t.n, .slice a n cap] 24)).alloc (.cells #[.int .i64 0, .string ⟨#[]⟩, .int .i64 0, .slice none 0 0] 24))
  have HX := Lib.hid ((World.size_alloc w (.cells #[.slice ba bn bc] 30) ▸ Bo.new (w.alloc (.cells #[.slice ba bn bc] 30)) 24 #[.int .i64 t.kind, .string t.name, .int .i64 t.n, .slice a n cap] : Bo ((w.alloc (.cells #[.slice ba bn bc] 30)).alloc (.cells #[.int .i64 t.kind, .string t.name, .int .i64 t.n, .slice a n cap] 24)) (w.heap.size + 1) 24 #[.int .i64 t.kind, .string t.name, .int .i64 t.n, .slice a n cap]).alloc (.cells #[.int .i64 0, .string ⟨#[]⟩, .int .i64 0, .slice none 0 0] 24))
  have HY : Hid (Bo (((w.alloc (.cells #[.slice ba bn bc] 30)).alloc (.cells #[.int .i64 t.kind, .string t.name, .int .i64 t.n, .slice a n cap] 24)).alloc (.cells #[.int .i64 0, .string ⟨#[]⟩, .int .i64 0, .slice none 0 0] 24)) (w.heap.size + 2) 24 #[.int .i64 0, .string ⟨#[]⟩, .int .i64 0, .slice none 0 0]) := Lib.hid (by have := Bo.new ((w.alloc (.cells #[.slice ba bn bc] 30)).alloc (.cells #[.int .i64 t.kind, .string t.name, .int .i64 t.n, .slice a n cap] 24)) 24 #[.int .i64 0, .string ⟨#[]⟩, .int .i64 0, .slice none 0 0]; rw [World.size_alloc, World.size_alloc] at this; exact this)
  have HC := Lib.hid (replacedA_any (V := V) 1048576 t B w.heap.size bn bc n cap ba a _ hs (Nat.le_refl _) (HQ.out.cell (j := 0) rfl) (Mem.keep hb (Nat.le_refl _) (HB0.out.mono hB)) (Mem.keep ht (Nat.le_refl _) (HB0.out.mono hB)) (Nat.le_trans hB HB0.out.size))
  have H0 := Lib.hid hB
  obtain ⟨x0, x1, x2, x3⟩ := HX.out.c4
  clear hs hb ht hB
  go_enter Try.func13, Try.ntmps13
  go_wp2_with fail
  refine HC.out.mono ?_
  rintro e w4 ⟨a2, n2, c2, rfl, hb, hm⟩
  have HB4 := Lib.hid (HB0.out.trans (hb.mono HB0.out.size))
  have HY4 := Lib.hid (HY.out.keep hb)
  have HM4 := Lib.hid hm
  have HZ0 : Hid ((((w.alloc (.cells #[.slice ba bn bc] 30)).alloc (.cells #[.int .i64 t.kind, .string t.name, .int .i64 t.n, .slice a n cap] 24)).alloc (.cells #[.int .i64 0, .string ⟨#[]⟩, .int .i64 0, .slice none 0 0] 24)).heap.size = w.heap.size + 3) := Lib.hid (by simp)
  have hz4 := HY4.out.lt
  have hwr : Wr w4 (w.heap.size + 2) 24 4 := HY4.out.wr
  clear hb hm x0 x1 x2 x3
  go_wp2_with fail
  have HR := Lib.hid (HY4.out.row #[.int .i64 (apT V t).kind, .string (apT V t).name, .int .i64 (apT V t).n, .slice a2 n2 c2]).c4
  refine bodyPost_ret (v := .agg #[.int .i64 (apT V t).kind, .string (apT V t).name, .int .i64 (apT V t).n, .slice a2 n2 c2]) (by simp [results, Try.results13, go_sem, HR.out]) rfl ?_
  refine ⟨a2, n2, c2, rfl, below_setRow HB4.out (by omega) _, HM4.out.mono (fun b hb => ⟨hb.1.imp id fun h => by rw [HZ0.out] at h; omega, by rw [size_setRow]; exact hb.2⟩) fun b' hb' => setRow_other _ _ b' _ ?_⟩
  have h1 := hb'.1
  rw [HZ0.out] at h1
  have := H0.out
  omega
end Go.Proofs.Ytmadfkofmehfkaa
