/-
  Matching, walked: the matcher's match, and slices.EqualFunc with it. No condition but how the terms lie, and how great they are.
-/
import Derived.Test.YtmadfkofmehfkaaAt10
import Derived.Test.YtmadfkofmehfkaaAt9
import Derived.Test.YtmadfkofmehfkaaAt13
import Derived.Test.YtmadfkofmehfkaaAt1
namespace Go.Proofs.Ytmadfkofmehfkaa
open Go.RowKit Go.Maps

theorem zeroT (w : World) : (zeroValue 24).run Try.prog w = .ok (.agg #[.int .i64 0, .string ⟨#[]⟩, .int .i64 0, .slice none 0 0]) w := by kernel_rfl
theorem far_grown {b : Nat} {w w' : World} (h : w.grownBy w' (some b)) : Far (fun k => k = b) w w' := ⟨h.os, h.tape, h.output, h.size, fun k hk hs => h.block k hk (fun e => hs (by injection e))⟩
theorem mts_app : ∀ (ps ts : List Tm) (qs us : List Tm) (M : List (Int × Tm)), ps.length = ts.length → mts (ps ++ qs) (ts ++ us) M = if (mts ps ts M).1 = true then mts qs us (mts ps ts M).2 else (false, (mts ps ts M).2)
  | [], [], qs, us, M, _ => by rw [List.nil_append, List.nil_append, mts, if_pos rfl]
  | p :: ps, t :: ts, qs, us, M, h => by
    rw [List.cons_append, List.cons_append, mts, mts]
    by_cases hp : (mt p t M).1 = true
    · rw [if_pos hp, if_pos hp]
      exact mts_app ps ts qs us _ (by simpa using h)
    · rw [if_neg hp, if_neg hp]
      simp
theorem mts_at {ps ts : List Tm} {k : Nat} {p t : Tm} {M : List (Int × Tm)} (hp : ps[k]? = some p) (ht : ts[k]? = some t) (hl : ps.length = ts.length) (h : (mts (ps.take k) (ts.take k) M).1 = true) :
    mts (ps.take (k + 1)) (ts.take (k + 1)) M = mt p t (mts (ps.take k) (ts.take k) M).2 := by
  rw [take_at hp, take_at ht, mts_app _ _ _ _ _ (by rw [List.length_take, List.length_take, hl]), if_pos h, mts]
  by_cases hm : (mt p t (mts (ps.take k) (ts.take k) M).2).1 = true
  · rw [if_pos hm, mts, ← hm]
  · rw [if_neg hm]
    have hm' : (mt p t (mts (ps.take k) (ts.take k) M).2).1 = false := by simpa using hm
    rw [← hm']
theorem mts_stop {ps ts : List Tm} {k : Nat} {M : List (Int × Tm)} (hl : ps.length = ts.length) (h : (mts (ps.take k) (ts.take k) M).1 = false) : mts ps ts M = (false, (mts (ps.take k) (ts.take k) M).2) := by
  have e1 : ps = ps.take k ++ ps.drop k := (List.take_append_drop k ps).symm
  have e2 : ts = ts.take k ++ ts.drop k := (List.take_append_drop k ts).symm
  conv => lhs; rw [e1, e2]
  rw [mts_app _ _ _ _ _ (by rw [List.length_take, List.length_take, hl]), if_neg (by rw [h]; decide)]
/-- What a call of match does. -/
def MatchOut (b : Nat) (w : World) (B : Nat) (sz : Nat) (ME : List (Int × El)) (r : Bool × List (Int × Tm)) (e : Ending) (w' : World) : Prop :=
  e = .returned (.bool r.1) ∧ ∃ ME', tmE ME' = r.2 ∧ MapIs B w' b ME' ∧ Far (fun k => k = b) w w' ∧ ME'.length ≤ ME.length + sz
def MC (p : Tm) : Prop := ∀ (t : Tm) (B b : Nat) (ME : List (Int × El)) (pa ta : Option Addr) (pn pc tn tc : Nat) (w : World), Mem (· < B) w (.s 4 (Tm.rows p.args)) (.slice pa pn pc) → Mem (· < B) w (.s 4 (Tm.rows t.args)) (.slice ta tn tc) → B ≤ b → MapIs B w b ME → ME.length + p.size ≤ 4000000 → p.ok →
  Calls Try.prog 41 #[.map (some b), .agg #[.int .i64 p.kind, .string p.name, .int .i64 p.n, .slice pa pn pc], .agg #[.int .i64 t.kind, .string t.name, .int .i64 t.n, .slice ta tn tc]] w (MatchOut b w B p.size ME (mt p t (tmE ME)))
theorem Mem.farB {B b : Nat} {w w' : World} {x : At} {y : Value} (h : Mem (· < B) w x y) (hf : Far (fun k => k = b) w w') (hb : B ≤ b) (hB : B ≤ w.heap.size) : Mem (· < B) w' x y :=
  h.mono (fun _ hb => hb) fun k hk => hf.block k (Nat.lt_of_lt_of_le hk hB) (by omega)

set_option maxRecDepth 100000 in
set_option maxHeartbeats 20000000 in
theorem eqfM_any {ps ts : List Tm} (IH : ∀ x ∈ ps, MC x) (B b : Nat) (ME : List (Int × El)) (pa ta : Option Addr) (pn pc tn tc : Nat) (w : World) (hp : Mem (· < B) w (.s 4 (Tm.rows ps)) (.slice pa pn pc)) (ht : Mem (· < B) w (.s 4 (Tm.rows ts)) (.slice ta tn tc)) (hB : B ≤ b) (hM : MapIs B w b ME) (hs : ME.length + (Tm.alls ps).length ≤ 4000000) (hok : ∀ x ∈ ps, x.ok) :
    Calls Try.prog 58 #[.slice pa pn pc, .slice ta tn tc, .func (.func 41) #[.map (some b)] #[]] w (MatchOut b w B (Tm.alls ps).length ME (if ps.length = ts.length then mts ps ts (tmE ME) else (false, tmE ME))) := by
  have hpl := hp.len
  have htl := ht.len
  rw [Tm.rows_len] at hpl htl
  have HPL := Lib.hid hpl.1
  have HTL := Lib.hid htl.1
  have hpc := hpl.2.1
  have hpm := hpl.2.2
  have htc := htl.2.1
  have htm := htl.2.2
  have HI := Lib.hid IH
  have HP := Lib.hid hp
  have HT := Lib.hid ht
  have HB := Lib.hid hB
  have HM := Lib.hid hM
  have HS := Lib.hid hs
  have HOK := Lib.hid hok
  have HBW : Hid (B ≤ w.heap.size) := Lib.hid (by have := hM.own.lt; omega)
  clear hp ht hB hM hs hok IH hpl htl
  by_cases hn : pn = tn
  · have HN : Hid (ps.length = ts.length) := Lib.hid (by rw [HPL.out, HTL.out]; exact hn)
    rw [if_pos HN.out]
    subst hn
    go_enter Try.func58, Try.ntmps58
    go_wp2
    go_loopw [7, 17] (fun _ i wr => ∃ (k : Nat) (MK : List (Int × El)), k ≤ pn ∧ i = .int .i64 k ∧ Hid (Far (fun k => k = b) w wr) ∧ Hid (MapIs B wr b MK) ∧ Hid ((mts (ps.take k) (ts.take k) (tmE ME)).1 = true) ∧ Hid (tmE MK = (mts (ps.take k) (ts.take k) (tmE ME)).2) ∧ Hid (MK.length ≤ ME.length + (Tm.alls (ps.take k)).length)) (fun _ i _ => pn - (intOf i).toNat)
    case atStart => exact ⟨0, ME, Nat.zero_le _, rfl, Lib.hid (Far.refl _ _), HM, Lib.hid (by rw [List.take_zero, List.take_zero, mts]), Lib.hid (by rw [List.take_zero, List.take_zero, mts]), Lib.hid (Nat.le_add_right _ _)⟩
    case round =>
      obtain ⟨k, MK, hk, rfl, HF, HMK, H1, H2, HLK⟩ := hrel
      by_cases hlt : k < pn
      · have hltz : (k : Int) < (pn : Int) := by omega
        have HWR := Lib.hid (Nat.le_trans HBW.out HF.out.size)
        obtain ⟨b1, o1, p, ax, nx, capx, rfl, hbB1, Hx, x0, x1, x2, x3, GX⟩ := tm_at (Mem.farB HP.out HF.out HB.out HBW.out) k hlt
        obtain ⟨b2, o2, t, ay, ny, capy, rfl, hbB2, Hy, y0, y1, y2, y3, GY⟩ := tm_at (Mem.farB HT.out HF.out HB.out HBW.out) k hlt
        have HA := Lib.hid (mts_at Hx.out Hy.out HN.out H1.out)
        have HBA := Lib.hid ((below_new wr (.cells #[.int .i64 p.kind, .string p.name, .int .i64 p.n, .slice ax nx capx] 24)).alloc (below_new wr (.cells #[.int .i64 p.kind, .string p.name, .int .i64 p.n, .slice ax nx capx] 24)).size (.cells #[.int .i64 t.kind, .string t.name, .int .i64 t.n, .slice ay ny capy] 24))
        have HMA := Lib.hid (HMK.out.keep HWR.out HBA.out)
        have GXA := Lib.hid (Mem.keep GX.out (Nat.le_refl _) (HBA.out.mono HWR.out))
        have GYA := Lib.hid (Mem.keep GY.out (Nat.le_refl _) (HBA.out.mono HWR.out))
        have HSK : Hid (MK.length + p.size ≤ 4000000) := Lib.hid (by
          have h1 := Tm.alls_le (ts := ps) (k + 1)
          rw [Tm.alls_at Hx.out, List.length_append] at h1
          have e : p.all.length = p.size := rfl
          have := HLK.out
          have := HS.out
          omega)
        have HLN : Hid ((Tm.alls (ps.take (k + 1))).length = (Tm.alls (ps.take k)).length + p.size) := Lib.hid (by rw [Tm.alls_at Hx.out, List.length_append]; rfl)
        have HC := Lib.hid (HI.out p (mem_of_at Hx.out) t B b MK ax ay nx capx ny capy _ GXA.out GYA.out HB.out HMA.out HSK.out (HOK.out p (mem_of_at Hx.out)))
        rw [H2.out] at HC
        rw [← HA.out] at HC
        have y0' := cell_below y0 (below_new wr (.cells #[.int .i64 p.kind, .string p.name, .int .i64 p.n, .slice ax nx capx] 24))
        have y1' := cell_below y1 (below_new wr (.cells #[.int .i64 p.kind, .string p.name, .int .i64 p.n, .slice ax nx capx] 24))
        have y2' := cell_below y2 (below_new wr (.cells #[.int .i64 p.kind, .string p.name, .int .i64 p.n, .slice ax nx capx] 24))
        have y3' := cell_below y3 (below_new wr (.cells #[.int .i64 p.kind, .string p.name, .int .i64 p.n, .slice ax nx capx] 24))
        by_cases hr : (mts (ps.take (k + 1)) (ts.take (k + 1)) (tmE ME)).1 = true
        · have HR := Lib.hid hr
          clear hr y0 y1 y2 y3
          go_wp2_with fail
          refine HC.out.mono ?_
          rintro e w4 ⟨rfl, M4, h2, hm4, hf4, hl4⟩
          rw [HR.out]
          have H24 := Lib.hid h2
          have HM4 := Lib.hid hm4
          have HF4 := Lib.hid (HF.out.trans ((Far.of HBA.out).trans hf4))
          have HL4 := Lib.hid hl4
          clear h2 hm4 hf4 hl4
          go_wp2_with fail
          go_roundw
          case rel => exact ⟨k + 1, M4, by omega, by go_num, HF4, HM4, HR, H24, Lib.hid (by have := HL4.out; have := HLK.out; have := HLN.out; omega)⟩
          case measure => simp [intOf]; omega
        · have hr' : (mts (ps.take (k + 1)) (ts.take (k + 1)) (tmE ME)).1 = false := by simpa using hr
          have HR := Lib.hid hr'
          have HST := Lib.hid (mts_stop HN.out hr')
          clear hr hr' y0 y1 y2 y3
          go_wp2_with fail
          refine HC.out.mono ?_
          rintro e w4 ⟨rfl, M4, h2, hm4, hf4, hl4⟩
          rw [HR.out]
          have H24 := Lib.hid h2
          have HM4 := Lib.hid hm4
          have HF4 := Lib.hid (HF.out.trans ((Far.of HBA.out).trans hf4))
          have HL4 := Lib.hid hl4
          clear h2 hm4 hf4 hl4
          go_wp2_with fail
          go_ret
          exact ⟨by rw [HST.out]; rfl, M4, by rw [HST.out]; exact H24.out, HM4.out, HF4.out, by
            have h1 := Tm.alls_le (ts := ps) (k + 1)
            have := HL4.out; have := HLK.out; have := HLN.out; omega⟩
      · obtain rfl : k = pn := by omega
        have hltz : ¬ (k : Int) < (k : Int) := by omega
        have e1 : ps.take k = ps := List.take_of_length_le (by have := HPL.out; omega)
        have e2 : ts.take k = ts := List.take_of_length_le (by have := HTL.out; omega)
        rw [e1, e2] at H1 H2
        rw [e1] at HLK
        clear e1 e2
        go_wp2
        go_ret
        exact ⟨by rw [H1.out]; rfl, MK, H2.out, HMK.out, HF.out, HLK.out⟩
  · have HN : Hid (¬ ps.length = ts.length) := Lib.hid (by rw [HPL.out, HTL.out]; exact hn)
    rw [if_neg HN.out]
    have e1 : ((pn : Int) == (tn : Int)) = false := by rw [beq_eq_false_iff_ne]; omega
    clear hn
    go_enter Try.func58, Try.ntmps58
    go_wp2
    go_ret
    exact ⟨rfl, ME, rfl, HM.out, Far.refl _ _, Nat.le_add_right _ _⟩
end Go.Proofs.Ytmadfkofmehfkaa

/-
  Matching, walked: the matcher's match. No condition but how the terms lie, and how great they are.
-/
namespace Go.Proofs.Ytmadfkofmehfkaa
open Go.RowKit Go.Maps

set_option maxRecDepth 100000 in
set_option maxHeartbeats 20000000 in
theorem match_any (m : Nat) : ∀ p : Tm, p.size ≤ m → MC p := by
  induction m with
  | zero => intro p h; have := p.size_pos; omega
  | succ m ih =>
    intro p hm t B b ME pa ta pn pc tn tc w hp ht hB hM hs hok
    have HBW : Hid (B ≤ w.heap.size) := Lib.hid (by have := hM.own.lt; omega)
    have HB0 := Lib.hid ((below_new w (.cells #[.int .i64 p.kind, .string p.name, .int .i64 p.n, .slice pa pn pc] 24)).alloc (below_new w (.cells #[.int .i64 p.kind, .string p.name, .int .i64 p.n, .slice pa pn pc] 24)).size (.cells #[.int .i64 t.kind, .string t.name, .int .i64 t.n, .slice ta tn tc] 24))
    have HX := Lib.hid ((Bo.new w 24 #[.int .i64 p.kind, .string p.name, .int .i64 p.n, .slice pa pn pc]).alloc (.cells #[.int .i64 t.kind, .string t.name, .int .i64 t.n, .slice ta tn tc] 24))
    have HY := Lib.hid (World.size_alloc w (.cells #[.int .i64 p.kind, .string p.name, .int .i64 p.n, .slice pa pn pc] 24) ▸ Bo.new (w.alloc (.cells #[.int .i64 p.kind, .string p.name, .int .i64 p.n, .slice pa pn pc] 24)) 24 #[.int .i64 t.kind, .string t.name, .int .i64 t.n, .slice ta tn tc])
    have HM2 := Lib.hid (hM.keep HBW.out HB0.out)
    have HP2 := Lib.hid (Mem.keep hp (Nat.le_refl _) (HB0.out.mono HBW.out))
    have HT2 := Lib.hid (Mem.keep ht (Nat.le_refl _) (HB0.out.mono HBW.out))
    have HBB := Lib.hid hB
    have HS := Lib.hid hs
    have HBL : Hid (b < w.heap.size) := Lib.hid hM.own.lt
    obtain ⟨x0, x1, x2, x3⟩ := HX.out.c4
    obtain ⟨y0, y1, y2, y3⟩ := HY.out.c4
    by_cases hk : p.kind = 3
    · have e1 : (p.kind == 3) = true := by rw [beq_iff_eq]; exact hk
      have hwf : (Lit.int .i64 p.n).wf = true := WalkArith.wf_i64 ((hok p (by rw [Tm.all_eq]; exact List.mem_cons_self ..)).2)
      have HMT : Hid (mt p t (tmE ME) = match look (tmE ME) p.n with | some x => (cmpT x t == 0, tmE ME) | none => (true, tmE ME ++ [(p.n, t)])) := Lib.hid (by obtain ⟨k, s, n, ts⟩ := p; rw [mt]; exact if_pos hk)
      have hpz := p.size_pos
      cases hl : look ME p.n with
      | some e =>
        have HLK := Lib.hid hl
        have HMT2 : Hid (mt p t (tmE ME) = (cmpT e.t t == 0, tmE ME)) := Lib.hid (by rw [HMT.out, look_tmE, hl]; rfl)
        have HE := Lib.hid (HM2.out.ok _ (look_mem hl))
        clear hk hp ht hB hM hs hok hl HMT ih
        have HBA := Lib.hid (HB0.out.alloc HB0.out.size (.cells #[.int .i64 e.t.kind, .string e.t.name, .int .i64 e.t.n, .slice e.a e.n e.cap] 24))
        have HMA := Lib.hid (HM2.out.keep (Nat.le_trans HBW.out HB0.out.size) (below_new (((w.alloc (.cells #[.int .i64 p.kind, .string p.name, .int .i64 p.n, .slice pa pn pc] 24)).alloc (.cells #[.int .i64 t.kind, .string t.name, .int .i64 t.n, .slice ta tn tc] 24))) (.cells #[.int .i64 e.t.kind, .string e.t.name, .int .i64 e.t.n, .slice e.a e.n e.cap] 24)))
        have HEA := Lib.hid (Mem.keep HE.out (Nat.le_trans HBW.out HBA.out.size) ((below_new (((w.alloc (.cells #[.int .i64 p.kind, .string p.name, .int .i64 p.n, .slice pa pn pc] 24)).alloc (.cells #[.int .i64 t.kind, .string t.name, .int .i64 t.n, .slice ta tn tc] 24))) (.cells #[.int .i64 e.t.kind, .string e.t.name, .int .i64 e.t.n, .slice e.a e.n e.cap] 24)).mono (Nat.le_trans HBW.out HB0.out.size)))
        have HTA := Lib.hid (Mem.keep HT2.out (Nat.le_trans HBW.out HBA.out.size) ((below_new (((w.alloc (.cells #[.int .i64 p.kind, .string p.name, .int .i64 p.n, .slice pa pn pc] 24)).alloc (.cells #[.int .i64 t.kind, .string t.name, .int .i64 t.n, .slice ta tn tc] 24))) (.cells #[.int .i64 e.t.kind, .string e.t.name, .int .i64 e.t.n, .slice e.a e.n e.cap] 24)).mono (Nat.le_trans HBW.out HB0.out.size)))
        go_enter Try.func41, Try.ntmps41
        go_wp2_with (first
          | (at_lookup
             refine wpList_lookup_own_ok _ rfl _ _ 66 rfl 3 24 (int_keyed Try.underlying3) Try.underlying66 heldR (zeroT _) (.held (.agg #[.int .i64 0, .string ⟨#[]⟩, .int .i64 0, .slice none 0 0])) [] rfl b ME.length (mapE ME) rfl HM2.out.own _ _ rfl (keyOf_int_mk Try.underlying3 hwf) ?_
             intro v ps hv
             rw [mapE_at HM2.out.nodup, HLK.out] at hv
             rw [mapE_has, HLK.out]
             have hv2 : v = .agg #[.int .i64 e.t.kind, .string e.t.name, .int .i64 e.t.n, .slice e.a e.n e.cap] := by
               simp only [heldR, Option.some.injEq, Prod.mk.injEq, DataW.held.injEq] at hv
               exact hv.1
             clear hv
             subst hv2))
        refine (sameTm2 _ HEA.out HTA.out).mono ?_
        rintro e5 w5 ⟨rfl, hb5⟩
        have HB5 := Lib.hid (HBA.out.trans (hb5.mono HBA.out.size))
        have HM5 := Lib.hid (HMA.out.keep (Nat.le_trans HBW.out HBA.out.size) hb5)
        clear hb5
        go_wp2_with fail
        go_ret
        exact ⟨by rw [HMT2.out]; rfl, ME, by rw [HMT2.out], HM5.out, Far.of HB5.out, Nat.le_add_right _ _⟩
      | none =>
        have HLK := Lib.hid hl
        have HMT2 : Hid (mt p t (tmE ME) = (true, tmE ME ++ [(p.n, t)])) := Lib.hid (by rw [HMT.out, look_tmE, hl]; rfl)
        clear hk hp ht hB hM hs hok hl HMT ih
        have HBA := Lib.hid (HB0.out.alloc HB0.out.size (.cells #[.int .i64 0, .string ⟨#[]⟩, .int .i64 0, .slice none 0 0] 24))
        have HMA := Lib.hid (HM2.out.keep (Nat.le_trans HBW.out HB0.out.size) (below_new (((w.alloc (.cells #[.int .i64 p.kind, .string p.name, .int .i64 p.n, .slice pa pn pc] 24)).alloc (.cells #[.int .i64 t.kind, .string t.name, .int .i64 t.n, .slice ta tn tc] 24))) (.cells #[.int .i64 0, .string ⟨#[]⟩, .int .i64 0, .slice none 0 0] 24)))
        have HTA := Lib.hid (Mem.keep HT2.out (Nat.le_refl _) ((below_new (((w.alloc (.cells #[.int .i64 p.kind, .string p.name, .int .i64 p.n, .slice pa pn pc] 24)).alloc (.cells #[.int .i64 t.kind, .string t.name, .int .i64 t.n, .slice ta tn tc] 24))) (.cells #[.int .i64 0, .string ⟨#[]⟩, .int .i64 0, .slice none 0 0] 24)).mono (Nat.le_trans HBW.out HB0.out.size)))
        have hmx : ME.length < maxLen := by have := HS.out; unfold maxLen; omega
        go_enter Try.func41, Try.ntmps41
        go_wp2_with (first
          | (at_lookup
             refine wpList_lookup_own_ok _ rfl _ _ 66 rfl 3 24 (int_keyed Try.underlying3) Try.underlying66 heldR (zeroT _) (.held (.agg #[.int .i64 0, .string ⟨#[]⟩, .int .i64 0, .slice none 0 0])) [] rfl b ME.length (mapE ME) rfl HM2.out.own _ _ rfl (keyOf_int_mk Try.underlying3 hwf) ?_
             intro v ps hv
             rw [mapE_at HM2.out.nodup, HLK.out] at hv
             rw [mapE_has, HLK.out]
             have hv2 : v = .agg #[.int .i64 0, .string ⟨#[]⟩, .int .i64 0, .slice none 0 0] := by
               simp only [heldR, Option.some.injEq, Prod.mk.injEq, DataW.held.injEq] at hv
               exact hv.1
             clear hv
             subst hv2)
          | (at_mapUpdate
             refine wpList_mapUpdate_own _ rfl _ _ _ 66 rfl 3 24 (int_keyed Try.underlying3) Try.underlying66 heldR b ME.length (mapE ME) rfl HMA.out.own hmx _ _ _ rfl rfl (keyOf_int_mk Try.underlying3 hwf) (.held (.agg #[.int .i64 t.kind, .string t.name, .int .i64 t.n, .slice ta tn tc])) [] rfl ?_
             intro w5 hown hgrow
             have HO5 := Lib.hid hown
             have HG5 := Lib.hid hgrow
             clear hown hgrow))
        go_ret
        have hf5 : Far (fun k => k = b) w w5 := (Far.of HBA.out).trans (far_grown HG5.out)
        refine ⟨by rw [HMT2.out]; rfl, ME ++ [(p.n, ⟨t, ta, tn, tc⟩)], by rw [HMT2.out]; simp [tmE], ⟨?_, ?_, ?_⟩, hf5, by simp; omega⟩
        · rw [mapE_snoc, List.length_append]
          exact HO5.out
        · rw [List.map_append, List.nodup_append]
          refine ⟨HMA.out.nodup, by simp, fun x hx y hy e => ?_⟩
          simp only [List.map_cons, List.map_nil, List.mem_singleton] at hy
          subst e; subst hy
          obtain ⟨z, hz⟩ := look_some hx
          rw [HLK.out] at hz
          cases hz
        · intro x hx
          have hgb : ∀ k, k < B → w5.heap[k]? = ((((w.alloc (.cells #[.int .i64 p.kind, .string p.name, .int .i64 p.n, .slice pa pn pc] 24)).alloc (.cells #[.int .i64 t.kind, .string t.name, .int .i64 t.n, .slice ta tn tc] 24))).alloc (.cells #[.int .i64 0, .string ⟨#[]⟩, .int .i64 0, .slice none 0 0] 24)).heap[k]? := fun k hk => HG5.out.block k (Nat.lt_of_lt_of_le hk (Nat.le_trans HBW.out HBA.out.size)) (fun e => by have := HBB.out; injection e with e; omega)
          rcases List.mem_append.1 hx with hx | hx
          · exact (HMA.out.ok x hx).mono (fun _ hb => hb) fun k hk => hgb k hk
          · rw [List.mem_singleton.1 hx]
            exact HTA.out.mono (fun _ hb => hb) fun k hk => hgb k hk
    · have e1 : (p.kind == 3) = false := by rw [beq_eq_false_iff_ne]; exact hk
      have HM0 : Hid (mt p t (tmE ME) = if p.kind = t.kind ∧ p.n = t.n ∧ p.name = t.name then (if p.kind = 2 then (true, tmE ME) else if p.args.length = t.args.length then mts p.args t.args (tmE ME) else (false, tmE ME)) else (false, tmE ME)) := Lib.hid (by obtain ⟨k, s, n, ts⟩ := p; rw [mt]; exact if_neg hk)
      by_cases g1 : p.kind = t.kind
      case neg =>
        have HMT : Hid (mt p t (tmE ME) = (false, tmE ME)) := Lib.hid (by rw [HM0.out, if_neg (fun h => g1 h.1)])
        have e2 : (p.kind != t.kind) = true := by rw [bne_iff_ne]; exact g1
        clear hk hp ht hB hM hs hok ih HM0 g1
        go_enter Try.func41, Try.ntmps41
        go_wp2
        go_ret
        exact ⟨by rw [HMT.out]; rfl, ME, by rw [HMT.out], HM2.out, Far.of HB0.out, Nat.le_add_right _ _⟩
      by_cases g2 : p.n = t.n
      case neg =>
        have HMT : Hid (mt p t (tmE ME) = (false, tmE ME)) := Lib.hid (by rw [HM0.out, if_neg (fun h => g2 h.2.1)])
        have e3 : (p.n != t.n) = true := by rw [bne_iff_ne]; exact g2
        clear hk hp ht hB hM hs hok ih HM0 g2
        generalize p.kind = kp at *
        generalize t.kind = kt at *
        subst g1
        go_enter Try.func41, Try.ntmps41
        go_wp2
        go_ret
        exact ⟨by rw [HMT.out]; rfl, ME, by rw [HMT.out], HM2.out, Far.of HB0.out, Nat.le_add_right _ _⟩
      by_cases g3 : p.name = t.name
      case neg =>
        have HMT : Hid (mt p t (tmE ME) = (false, tmE ME)) := Lib.hid (by rw [HM0.out, if_neg (fun h => g3 h.2.2)])
        have e4 : (p.name.toList == t.name.toList) = false := by rw [beq_eq_false_iff_ne]; intro e; rw [ByteArray.toList_eq, ByteArray.toList_eq] at e; exact g3 (congrArg ByteArray.mk (Array.toList_inj.1 e))
        clear hk hp ht hB hM hs hok ih HM0 g3
        generalize p.kind = kp at *
        generalize t.kind = kt at *
        subst g1
        generalize p.n = np at *
        generalize t.n = nt at *
        subst g2
        go_enter Try.func41, Try.ntmps41
        go_wp2
        go_ret
        exact ⟨by rw [HMT.out]; rfl, ME, by rw [HMT.out], HM2.out, Far.of HB0.out, Nat.le_add_right _ _⟩
      by_cases g4 : p.kind = 2
      · have HMT : Hid (mt p t (tmE ME) = (true, tmE ME)) := Lib.hid (by rw [HM0.out, if_pos ⟨g1, g2, g3⟩, if_pos g4])
        have e5 : (p.kind == 2) = true := by rw [beq_iff_eq]; exact g4
        clear hk hp ht hB hM hs hok ih HM0 g4
        generalize p.kind = kp at *
        generalize t.kind = kt at *
        subst g1
        generalize p.n = np at *
        generalize t.n = nt at *
        subst g2
        generalize p.name = sp at *
        generalize t.name = st at *
        subst g3
        go_enter Try.func41, Try.ntmps41
        go_wp2
        go_ret
        exact ⟨by rw [HMT.out]; rfl, ME, by rw [HMT.out], HM2.out, Far.of HB0.out, Nat.le_add_right _ _⟩
      · have HMT : Hid (mt p t (tmE ME) = if p.args.length = t.args.length then mts p.args t.args (tmE ME) else (false, tmE ME)) := Lib.hid (by rw [HM0.out, if_pos ⟨g1, g2, g3⟩, if_neg g4])
        have e5 : (p.kind == 2) = false := by rw [beq_eq_false_iff_ne]; exact g4
        have HLA : Hid ((Tm.alls p.args).length ≤ p.size) := Lib.hid (by have := p.size_eq; omega)
        have HC := Lib.hid (eqfM_any (fun x hx => ih x (by have := Tm.size_arg hx; omega)) B b ME pa ta pn pc tn tc (((w.alloc (.cells #[.int .i64 p.kind, .string p.name, .int .i64 p.n, .slice pa pn pc] 24)).alloc (.cells #[.int .i64 t.kind, .string t.name, .int .i64 t.n, .slice ta tn tc] 24))) HP2.out HT2.out HBB.out HM2.out (by have := HLA.out; omega) (fun x hx y hy => hok y (Tm.args_all x hx y hy)))
        clear hk hp ht hB hM hs hok ih HM0 g4
        generalize p.kind = kp at *
        generalize t.kind = kt at *
        subst g1
        generalize p.n = np at *
        generalize t.n = nt at *
        subst g2
        generalize p.name = sp at *
        generalize t.name = st at *
        subst g3
        generalize (if p.args.length = t.args.length then mts p.args t.args (tmE ME) else (false, tmE ME)) = R at HMT HC
        go_enter Try.func41, Try.ntmps41
        go_wp2_with fail
        refine HC.out.mono ?_
        rintro e w4 ⟨rfl, M4, h2, hm4, hf4, hl4⟩
        have H24 := Lib.hid h2
        have HM4 := Lib.hid hm4
        have HF4 := Lib.hid ((Far.of HB0.out).trans hf4)
        have HL4 := Lib.hid hl4
        clear h2 hm4 hf4 hl4
        go_wp2_with fail
        go_ret
        exact ⟨by rw [HMT.out]; rfl, M4, by rw [HMT.out]; exact H24.out, HM4.out, HF4.out, by have := HL4.out; have := HLA.out; omega⟩
end Go.Proofs.Ytmadfkofmehfkaa
