/-
  Matching, walked: the matcher's match. No condition but how the terms lie, and how great they are.
-/
import Derived.Test.YtmadfkofmehfkaaMatchF
namespace Go.Proofs.Ytmadfkofmehfkaa
open Go.RowKit Go.Maps

set_option maxRecDepth 100000 in
set_option maxHeartbeats 20000000 in
theorem match_any (m : Nat) : ∀ p : Tm, p.size ≤ m → MC p := by
  induction m with
  | zero => intro p h; have := p.size_pos; omega
  | succ m ih =>
    intro p hm t B b ME pa ta pn pc tn tc w hp ht hB hM hs hok
    have HBW : Hid (B ≤ w.heap.size) := Lib.hid (by have := hM.own.lt; omega)
    have HB0 := Lib.hid ((below_new w (.cells #[.int .i64 p.kind, .string p.name, .int .i64 p.n, .slice pa pn pc] 24)).alloc (below_new w (.cells #[.int .i64 p.kind, .string p.name, .int .i64 p.n, .slice pa pn pc] 24)).size (.cells #[.int .i64 t.kind, .string t.name, .int .i64 t.n, .slice ta tn tc] 24))
    have HX := Lib.hid ((Bo.new w 24 #[.int .i64 p.kind, .string p.name, .int .i64 p.n, .slice pa pn pc]).alloc (.cells #[.int .i64 t.kind, .string t.name, .int .i64 t.n, .slice ta tn tc] 24))
    have HY := Lib.hid (World.size_alloc w (.cells #[.int .i64 p.kind, .string p.name, .int .i64 p.n, .slice pa pn pc] 24) ▸ Bo.new (w.alloc (.cells #[.int .i64 p.kind, .string p.name, .int .i64 p.n, .slice pa pn pc] 24)) 24 #[.int .i64 t.kind, .string t.name, .int .i64 t.n, .slice ta tn tc])
    have HM2 := Lib.hid (hM.keep HBW.out HB0.out)
    have HP2 := Lib.hid (Mem.keep hp (Nat.le_refl _) (HB0.out.mono HBW.out))
    have HT2 := Lib.hid (Mem.keep ht (Nat.le_refl _) (HB0.out.mono HBW.out))
    have HBB := Lib.hid hB
    have HS := Lib.hid hs
    have HBL : Hid (b < w.heap.size) := Lib.hid hM.own.lt
    obtain ⟨x0, x1, x2, x3⟩ := HX.out.c4
    obtain ⟨y0, y1, y2, y3⟩ := HY.out.c4
    by_cases hk : p.kind = 3
    · have e1 : (p.kind == 3) = true := by rw [beq_iff_eq]; exact hk
      have hwf : (Lit.int .i64 p.n).wf = true := WalkArith.wf_i64 ((hok p (by rw [Tm.all_eq]; exact List.mem_cons_self ..)).2)
      have HMT : Hid (mt p t (tmE ME) = match look (tmE ME) p.n with | some x => (cmpT x t == 0, tmE ME) | none => (true, tmE ME ++ [(p.n, t)])) := Lib.hid (by obtain ⟨k, s, n, ts⟩ := p; rw [mt]; exact if_pos hk)
      have hpz := p.size_pos
      cases hl : look ME p.n with
      | some e =>
        have HLK := Lib.hid hl
        have HMT2 : Hid (mt p t (tmE ME) = (cmpT e.t t == 0, tmE ME)) := Lib.hid (by rw [HMT.out, look_tmE, hl]; rfl)
        have HE := Lib.hid (HM2.out.ok _ (look_mem hl))
        clear hk hp ht hB hM hs hok hl HMT ih
        have HBA := Lib.hid (HB0.out.alloc HB0.out.size (.cells #[.int .i64 e.t.kind, .string e.t.name, .int .i64 e.t.n, .slice e.a e.n e.cap] 24))
        have HMA := Lib.hid (HM2.out.keep (Nat.le_trans HBW.out HB0.out.size) (below_new (((w.alloc (.cells #[.int .i64 p.kind, .string p.name, .int .i64 p.n, .slice pa pn pc] 24)).alloc (.cells #[.int .i64 t.kind, .string t.name, .int .i64 t.n, .slice ta tn tc] 24))) (.cells #[.int .i64 e.t.kind, .string e.t.name, .int .i64 e.t.n, .slice e.a e.n e.cap] 24)))
        have HEA := Lib.hid (Mem.keep HE.out (Nat.le_trans HBW.out HBA.out.size) ((below_new (((w.alloc (.cells #[.int .i64 p.kind, .string p.name, .int .i64 p.n, .slice pa pn pc] 24)).alloc (.cells #[.int .i64 t.kind, .string t.name, .int .i64 t.n, .slice ta tn tc] 24))) (.cells #[.int .i64 e.t.kind, .string e.t.name, .int .i64 e.t.n, .slice e.a e.n e.cap] 24)).mono (Nat.le_trans HBW.out HB0.out.size)))
        have HTA := Lib.hid (Mem.keep HT2.out (Nat.le_trans HBW.out HBA.out.size) ((below_new (((w.alloc (.cells #[.int .i64 p.kind, .string p.name, .int .i64 p.n, .slice pa pn pc] 24)).alloc (.cells #[.int .i64 t.kind, .string t.name, .int .i64 t.n, .slice ta tn tc] 24))) (.cells #[.int .i64 e.t.kind, .string e.t.name, .int .i64 e.t.n, .slice e.a e.n e.cap] 24)).mono (Nat.le_trans HBW.out HB0.out.size)))
        go_enter Try.func41, Try.ntmps41
        go_wp2_with (first
          | (at_lookup
             refine wpList_lookup_own_ok _ rfl _ _ 66 rfl 3 24 (int_keyed Try.underlying3) Try.underlying66 heldR (zeroT _) (.held (.agg #[.int .i64 0, .string ⟨#[]⟩, .int .i64 0, .slice none 0 0])) [] rfl b ME.length (mapE ME) rfl HM2.out.own _ _ rfl (keyOf_int_mk Try.underlying3 hwf) ?_
             intro v ps hv
             rw [mapE_at HM2.out.nodup, HLK.out] at hv
             rw [mapE_has, HLK.out]
             have hv2 : v = .agg #[.int .i64 e.t.kind, .string e.t.name, .int .i64 e.t.n, .slice e.a e.n e.cap] := by
               simp only [heldR, Option.some.injEq, Prod.mk.injEq, DataW.held.injEq] at hv
               exact hv.1
             clear hv
             subst hv2))
        refine (sameTm2 _ HEA.out HTA.out).mono ?_
        rintro e5 w5 ⟨rfl, hb5⟩
        have HB5 := Lib.hid (HBA.out.trans (hb5.mono HBA.out.size))
        have HM5 := Lib.hid (HMA.out.keep (Nat.le_trans HBW.out HBA.out.size) hb5)
        clear hb5
        go_wp2_with fail
        go_ret
        exact ⟨by rw [HMT2.out]; rfl, ME, by rw [HMT2.out], HM5.out, Far.of HB5.out, Nat.le_add_right _ _⟩
      | none =>
        have HLK := Lib.hid hl
        have HMT2 : Hid (mt p t (tmE ME) = (true, tmE ME ++ [(p.n, t)])) := Lib.hid (by rw [HMT.out, look_tmE, hl]; rfl)
        clear hk hp ht hB hM hs hok hl HMT ih
        have HBA := Lib.hid (HB0.out.alloc HB0.out.size (.cells #[.int .i64 0, .string ⟨#[]⟩, .int .i64 0, .slice none 0 0] 24))
        have HMA := Lib.hid (HM2.out.keep (Nat.le_trans HBW.out HB0.out.size) (below_new (((w.alloc (.cells #[.int .i64 p.kind, .string p.name, .int .i64 p.n, .slice pa pn pc] 24)).alloc (.cells #[.int .i64 t.kind, .string t.name, .int .i64 t.n, .slice ta tn tc] 24))) (.cells #[.int .i64 0, .string ⟨#[]⟩, .int .i64 0, .slice none 0 0] 24)))
        have HTA := Lib.hid (Mem.keep HT2.out (Nat.le_refl _) ((below_new (((w.alloc (.cells #[.int .i64 p.kind, .string p.name, .int .i64 p.n, .slice pa pn pc] 24)).alloc (.cells #[.int .i64 t.kind, .string t.name, .int .i64 t.n, .slice ta tn tc] 24))) (.cells #[.int .i64 0, .string ⟨#[]⟩, .int .i64 0, .slice none 0 0] 24)).mono (Nat.le_trans HBW.out HB0.out.size)))
        have hmx : ME.length < maxLen := by have := HS.out; unfold maxLen; omega
        go_enter Try.func41, Try.ntmps41
        go_wp2_with (first
          | (at_lookup
             refine wpList_lookup_own_ok _ rfl _ _ 66 rfl 3 24 (int_keyed Try.underlying3) Try.underlying66 heldR (zeroT _) (.held (.agg #[.int .i64 0, .string ⟨#[]⟩, .int .i64 0, .slice none 0 0])) [] rfl b ME.length (mapE ME) rfl HM2.out.own _ _ rfl (keyOf_int_mk Try.underlying3 hwf) ?_
             intro v ps hv
             rw [mapE_at HM2.out.nodup, HLK.out] at hv
             rw [mapE_has, HLK.out]
             have hv2 : v = .agg #[.int .i64 0, .string ⟨#[]⟩, .int .i64 0, .slice none 0 0] := by
               simp only [heldR, Option.some.injEq, Prod.mk.injEq, DataW.held.injEq] at hv
               exact hv.1
             clear hv
             subst hv2)
          | (at_mapUpdate
             refine wpList_mapUpdate_own _ rfl _ _ _ 66 rfl 3 24 (int_keyed Try.underlying3) Try.underlying66 heldR b ME.length (mapE ME) rfl HMA.out.own hmx _ _ _ rfl rfl (keyOf_int_mk Try.underlying3 hwf) (.held (.agg #[.int .i64 t.kind, .string t.name, .int .i64 t.n, .slice ta tn tc])) [] rfl ?_
             intro w5 hown hgrow
             have HO5 := Lib.hid hown
             have HG5 := Lib.hid hgrow
             clear hown hgrow))
        go_ret
        have hf5 : Far (fun k => k = b) w w5 := (Far.of HBA.out).trans (far_grown HG5.out)
        refine ⟨by rw [HMT2.out]; rfl, ME ++ [(p.n, ⟨t, ta, tn, tc⟩)], by rw [HMT2.out]; simp [tmE], ⟨?_, ?_, ?_⟩, hf5, by simp; omega⟩
        · rw [mapE_snoc, List.length_append]
          exact HO5.out
        · rw [List.map_append, List.nodup_append]
          refine ⟨HMA.out.nodup, by simp, fun x hx y hy e => ?_⟩
          simp only [List.map_cons, List.map_nil, List.mem_singleton] at hy
          subst e; subst hy
          obtain ⟨z, hz⟩ := look_some hx
          rw [HLK.out] at hz
          cases hz
        · intro x hx
          have hgb : ∀ k, k < B → w5.heap[k]? = ((((w.alloc (.cells #[.int .i64 p.kind, .string p.name, .int .i64 p.n, .slice pa pn pc] 24)).alloc (.cells #[.int .i64 t.kind, .string t.name, .int .i64 t.n, .slice ta tn tc] 24))).alloc (.cells #[.int .i64 0, .string ⟨#[]⟩, .int .i64 0, .slice none 0 0] 24)).heap[k]? := fun k hk => HG5.out.block k (Nat.lt_of_lt_of_le hk (Nat.le_trans HBW.out HBA.out.size)) (fun e => by have := HBB.out; injection e with e; omega)
          rcases List.mem_append.1 hx with hx | hx
          · exact (HMA.out.ok x hx).mono (fun _ hb => hb) fun k hk => hgb k hk
          · rw [List.mem_singleton.1 hx]
            exact HTA.out.mono (fun _ hb => hb) fun k hk => hgb k hk
    · have e1 : (p.kind == 3) = false := by rw [beq_eq_false_iff_ne]; exact hk
      have HM0 : Hid (mt p t (tmE ME) = if p.kind = t.kind ∧ p.n = t.n ∧ p.name = t.name then (if p.kind = 2 then (true, tmE ME) else if p.args.length = t.args.length then mts p.args t.args (tmE ME) else (false, tmE ME)) else (false, tmE ME)) := Lib.hid (by obtain ⟨k, s, n, ts⟩ := p; rw [mt]; exact if_neg hk)
      by_cases g1 : p.kind = t.kind
      case neg =>
        have HMT : Hid (mt p t (tmE ME) = (false, tmE ME)) := Lib.hid (by rw [HM0.out, if_neg (fun h => g1 h.1)])
        have e2 : (p.kind != t.kind) = true := by rw [bne_iff_ne]; exact g1
        clear hk hp ht hB hM hs hok ih HM0 g1
        go_enter Try.func41, Try.ntmps41
        go_wp2
        go_ret
        exact ⟨by rw [HMT.out]; rfl, ME, by rw [HMT.out], HM2.out, Far.of HB0.out, Nat.le_add_right _ _⟩
      by_cases g2 : p.n = t.n
      case neg =>
        have HMT : Hid (mt p t (tmE ME) = (false, tmE ME)) := Lib.hid (by rw [HM0.out, if_neg (fun h => g2 h.2.1)])
        have e3 : (p.n != t.n) = true := by rw [bne_iff_ne]; exact g2
        clear hk hp ht hB hM hs hok ih HM0 g2
        generalize p.kind = kp at *
        generalize t.kind = kt at *
        subst g1
        go_enter Try.func41, Try.ntmps41
        go_wp2
        go_ret
        exact ⟨by rw [HMT.out]; rfl, ME, by rw [HMT.out], HM2.out, Far.of HB0.out, Nat.le_add_right _ _⟩
      by_cases g3 : p.name = t.name
      case neg =>
        have HMT : Hid (mt p t (tmE ME) = (false, tmE ME)) := Lib.hid (by rw [HM0.out, if_neg (fun h => g3 h.2.2)])
        have e4 : (p.name.toList == t.name.toList) = false := by rw [beq_eq_false_iff_ne]; intro e; rw [ByteArray.toList_eq, ByteArray.toList_eq] at e; exact g3 (congrArg ByteArray.mk (Array.toList_inj.1 e))
        clear hk hp ht hB hM hs hok ih HM0 g3
        generalize p.kind = kp at *
        generalize t.kind = kt at *
        subst g1
        generalize p.n = np at *
        generalize t.n = nt at *
        subst g2
        go_enter Try.func41, Try.ntmps41
        go_wp2
        go_ret
        exact ⟨by rw [HMT.out]; rfl, ME, by rw [HMT.out], HM2.out, Far.of HB0.out, Nat.le_add_right _ _⟩
      by_cases g4 : p.kind = 2
      · have HMT : Hid (mt p t (tmE ME) = (true, tmE ME)) := Lib.hid (by rw [HM0.out, if_pos ⟨g1, g2, g3⟩, if_pos g4])
        have e5 : (p.kind == 2) = true := by rw [beq_iff_eq]; exact g4
        clear hk hp ht hB hM hs hok ih HM0 g4
        generalize p.kind = kp at *
        generalize t.kind = kt at *
        subst g1
        generalize p.n = np at *
        generalize t.n = nt at *
        subst g2
        generalize p.name = sp at *
        generalize t.name = st at *
        subst g3
        go_enter Try.func41, Try.ntmps41
        go_wp2
        go_ret
        exact ⟨by rw [HMT.out]; rfl, ME, by rw [HMT.out], HM2.out, Far.of HB0.out, Nat.le_add_right _ _⟩
      · have HMT : Hid (mt p t (tmE ME) = if p.args.length = t.args.length then mts p.args t.args (tmE ME) else (false, tmE ME)) := Lib.hid (by rw [HM0.out, if_pos ⟨g1, g2, g3⟩, if_neg g4])
        have e5 : (p.kind == 2) = false := by rw [beq_eq_false_iff_ne]; exact g4
        have HLA : Hid ((Tm.alls p.args).length ≤ p.size) := Lib.hid (by have := p.size_eq; omega)
        have HC := Lib.hid (eqfM_any (fun x hx => ih x (by have := Tm.size_arg hx; omega)) B b ME pa ta pn pc tn tc (((w.alloc (.cells #[.int .i64 p.kind, .string p.name, .int .i64 p.n, .slice pa pn pc] 24)).alloc (.cells #[.int .i64 t.kind, .string t.name, .int .i64 t.n, .slice ta tn tc] 24))) HP2.out HT2.out HBB.out HM2.out (by have := HLA.out; omega) (fun x hx y hy => hok y (Tm.args_all x hx y hy)))
        clear hk hp ht hB hM hs hok ih HM0 g4
        generalize p.kind = kp at *
        generalize t.kind = kt at *
        subst g1
        generalize p.n = np at *
        generalize t.n = nt at *
        subst g2
        generalize p.name = sp at *
        generalize t.name = st at *
        subst g3
        generalize (if p.args.length = t.args.length then mts p.args t.args (tmE ME) else (false, tmE ME)) = R at HMT HC
        go_enter Try.func41, Try.ntmps41
        go_wp2_with fail
        refine HC.out.mono ?_
        rintro e w4 ⟨rfl, M4, h2, hm4, hf4, hl4⟩
        have H24 := Lib.hid h2
        have HM4 := Lib.hid hm4
        have HF4 := Lib.hid ((Far.of HB0.out).trans hf4)
        have HL4 := Lib.hid hl4
        clear h2 hm4 hf4 hl4
        go_wp2_with fail
        go_ret
        exact ⟨by rw [HMT.out]; rfl, M4, by rw [HMT.out]; exact H24.out, HM4.out, HF4.out, by have := HL4.out; have := HLA.out; omega⟩
end Go.Proofs.Ytmadfkofmehfkaa
