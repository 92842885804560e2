/-
  subst.Match: what stands for variables, in order; Instance; Variant. No condition but how the terms lie, and how great they are.
-/
import Derived.Test.YtmadfkofmehfkaaAt15
import Derived.Test.YtmadfkofmehfkaaAt11
import Derived.Test.YtmadfkofmehfkaaAt5
namespace Go.Proofs.Ytmadfkofmehfkaa
open Go.RowKit Go.Maps

theorem info_sbind : (Try.prog.info? 33).map (fun i => (i.zero, i.size, i.bytes)) = some (some (.agg #[.int .i64 0, .int .i64 0, .string .empty, .int .i64 0, .slice none 0 0]), 5, 64) := by kernel_rfl
/-- What Match hands back. -/
def MatchIs (p t : Tm) (w : World) (e : Ending) (w' : World) : Prop :=
  Below w.heap.size w w' ∧ ((mt p t []).1 = false → e = .returned (.tuple #[.slice none 0 0, .bool false])) ∧
  ((mt p t []).1 = true → ∃ (l : List (Int × Tm)) (a : Option Addr) (n c : Nat), e = .returned (.tuple #[.slice a n c, .bool true]) ∧ l.Perm (mt p t []).2 ∧ MemW w' (.s 5 (bindsT l)) (.slice a n c))

set_option maxRecDepth 100000 in
set_option maxHeartbeats 20000000 in
theorem matchS_any {p t : Tm} {pa ta : Option Addr} {pn pc tn tc : Nat} (w : World) (hp : MemW w (.s 4 (Tm.rows p.args)) (.slice pa pn pc)) (ht : MemW w (.s 4 (Tm.rows t.args)) (.slice ta tn tc)) (hs : p.size ≤ 1048576) (hok : p.ok) :
    Calls Try.prog 15 #[.agg #[.int .i64 p.kind, .string p.name, .int .i64 p.n, .slice pa pn pc], .agg #[.int .i64 t.kind, .string t.name, .int .i64 t.n, .slice ta tn tc]] w (MatchIs p t w) := by
  have hmm := @run_makeMap Try.prog
  have HB0 := Lib.hid ((below_new w (.cells #[.int .i64 p.kind, .string p.name, .int .i64 p.n, .slice pa pn pc] 24)).alloc (below_new w (.cells #[.int .i64 p.kind, .string p.name, .int .i64 p.n, .slice pa pn pc] 24)).size (.cells #[.int .i64 t.kind, .string t.name, .int .i64 t.n, .slice ta tn tc] 24))
  have HX := Lib.hid ((Bo.new w 24 #[.int .i64 p.kind, .string p.name, .int .i64 p.n, .slice pa pn pc]).alloc (.cells #[.int .i64 t.kind, .string t.name, .int .i64 t.n, .slice ta tn tc] 24))
  have HY := Lib.hid (World.size_alloc w (.cells #[.int .i64 p.kind, .string p.name, .int .i64 p.n, .slice pa pn pc] 24) ▸ Bo.new (w.alloc (.cells #[.int .i64 p.kind, .string p.name, .int .i64 p.n, .slice pa pn pc] 24)) 24 #[.int .i64 t.kind, .string t.name, .int .i64 t.n, .slice ta tn tc])
  have HZ0 : Hid (((w.alloc (.cells #[.int .i64 p.kind, .string p.name, .int .i64 p.n, .slice pa pn pc] 24)).alloc (.cells #[.int .i64 t.kind, .string t.name, .int .i64 t.n, .slice ta tn tc] 24)).heap.size = w.heap.size + 2) := Lib.hid (by simp)
  have HM0 : Hid (MapIs w.heap.size (((w.alloc (.cells #[.int .i64 p.kind, .string p.name, .int .i64 p.n, .slice pa pn pc] 24)).alloc (.cells #[.int .i64 t.kind, .string t.name, .int .i64 t.n, .slice ta tn tc] 24)).alloc (.map #[] 0)) (w.heap.size + 2) []) := Lib.hid ⟨by have := World.ownsMap_made ((w.alloc (.cells #[.int .i64 p.kind, .string p.name, .int .i64 p.n, .slice pa pn pc] 24)).alloc (.cells #[.int .i64 t.kind, .string t.name, .int .i64 t.n, .slice ta tn tc] 24)) Try.prog 3 heldR; rw [HZ0.out] at this; exact this, List.nodup_nil, fun x hx => by cases hx⟩
  have HBM := Lib.hid (HB0.out.alloc HB0.out.size (.map #[] 0))
  have HP := Lib.hid (Mem.keep hp (Nat.le_refl _) HBM.out)
  have HT := Lib.hid (Mem.keep ht (Nat.le_refl _) HBM.out)
  have HC := Lib.hid (match_any p.size p (Nat.le_refl _) t w.heap.size (w.heap.size + 2) [] pa ta pn pc tn tc _ HP.out HT.out (by omega) HM0.out (by simp only [List.length_nil]; omega) hok)
  have HXM := Lib.hid (HX.out.alloc (.map #[] 0))
  have HYM := Lib.hid (HY.out.alloc (.map #[] 0))
  obtain ⟨x0, x1, x2, x3⟩ := HXM.out.c4
  obtain ⟨y0, y1, y2, y3⟩ := HYM.out.c4
  have HS := Lib.hid hs
  have hte : tmE [] = [] := rfl
  rw [hte] at HC
  clear hp ht hs hok hte
  cases hr : (mt p t []).1 with
  | false =>
    have HR := Lib.hid hr
    clear hr
    go_enter Try.func15, Try.ntmps15
    go_wp2_with fail
    refine HC.out.mono ?_
    rintro e w4 ⟨rfl, M4, h2, hm4, hf4, hl4⟩
    rw [HR.out]
    have HB4 : Hid (Below w.heap.size w w4) := Lib.hid ⟨hf4.os.trans HBM.out.os, hf4.tape.trans HBM.out.tape, hf4.output.trans HBM.out.output, Nat.le_trans HBM.out.size hf4.size, fun b hb => (hf4.block b (Nat.lt_of_lt_of_le hb HBM.out.size) (by omega)).trans (HBM.out.block b hb)⟩
    clear h2 hm4 hf4 hl4 x0 x1 x2 x3 y0 y1 y2 y3
    go_wp2_with fail
    go_ret2
    exact ⟨HB4.out, fun _ => rfl, fun h => by rw [HR.out] at h; cases h⟩
  | true =>
    have HR := Lib.hid hr
    clear hr
    go_enter Try.func15, Try.ntmps15
    go_wp2_with fail
    refine HC.out.mono ?_
    rintro e w4 ⟨rfl, M4, h2, hm4, hf4, hl4⟩
    rw [HR.out]
    have HB4 : Hid (Below w.heap.size w w4) := Lib.hid ⟨hf4.os.trans HBM.out.os, hf4.tape.trans HBM.out.tape, hf4.output.trans HBM.out.output, Nat.le_trans HBM.out.size hf4.size, fun b hb => (hf4.block b (Nat.lt_of_lt_of_le hb HBM.out.size) (by omega)).trans (HBM.out.block b hb)⟩
    have H24 := Lib.hid h2
    have HM4 := Lib.hid hm4
    have HL4 : Hid (M4.length ≤ 1048576) := Lib.hid (by have := HS.out; simp only [List.length_nil] at hl4; omega)
    have HSZ : Hid (Maps.size (mapE M4) ≤ 1048576) := Lib.hid (Nat.le_trans hm4.own.size_le HL4.out)
    clear h2 hm4 hf4 hl4 x0 x1 x2 x3 y0 y1 y2 y3 HC hmm
    go_wp2_with fail
    refine (keys_any _ _).mono ?_
    rintro e w5 ⟨rfl, hw5⟩
    subst hw5
    go_wp2_with fail
    refine (sorted_any HM4.out.own HSZ.out).mono ?_
    rintro e w6 ⟨v, L, rfl, hL, hLs, hLo, hb6⟩
    obtain ⟨av, cv, rfl, hcv, hmv⟩ := hLo.form
    rw [intRows_len] at hcv ⊢
    have HLM := Lib.hid hLo.memW
    rw [intRows_len] at HLM
    have HLP : Hid (L.Perm (M4.map (·.1))) := Lib.hid (hL.trans (keys_perm HM4.out.own HM4.out.nodup).symm)
    have HM6 := Lib.hid (HM4.out.keep HB4.out.size hb6)
    have HB6 := Lib.hid (HB4.out.trans (hb6.mono HB4.out.size))
    have HLL : Hid (L.length ≤ 1048576) := Lib.hid (by have := HLP.out.length_eq; rw [List.length_map] at this; have := HL4.out; omega)
    clear hL hLs hLo hb6 HM4 HB4
    obtain ⟨n, hn⟩ : ∃ n, L.length = n := ⟨_, rfl⟩
    rw [hn] at HLM HLL hcv ⊢
    have HN := Lib.hid hn
    clear hn
    go_wp2_with fail
    go_loopw [7, 9, 20] (fun v _ i wr => ∃ k : Nat, k ≤ n ∧ i = .int .i64 k ∧ Hid (Below w6.heap.size w6 wr) ∧ Hid (OwnD w.heap.size w6.heap.size 33 5 wr v (bindsT (pickT (tmE M4) (L.take k))))) (fun _ _ i _ => n - (intOf i).toNat)
    case atStart => exact ⟨0, Nat.zero_le _, rfl, Lib.hid (Below.refl _ _), Lib.hid (by rw [List.take_zero]; exact OwnD.nil _ _ _ _ _)⟩
    case round =>
      obtain ⟨k, hk, rfl, HB, HO⟩ := hrel
      by_cases hlt : k < n
      · have hltz : (k : Int) < (n : Int) := by omega
        obtain ⟨b, o, x, rfl, _, Hx, x0⟩ := int_at (MemW.keep HLM.out HB.out) k hlt
        have HMR := Lib.hid (HM6.out.keep HB6.out.size HB.out)
        have hxm : x ∈ M4.map (·.1) := HLP.out.mem_iff.1 (List.mem_of_getElem? Hx.out)
        obtain ⟨e, hl⟩ := look_some hxm
        have HLE := Lib.hid hl
        have HOK := Lib.hid (HMR.out.ok _ (look_mem hl))
        have hwf : (Lit.int .i64 x).wf = true := by
          obtain ⟨es, he⟩ : ∃ es, mapE M4 = .map es := by obtain ⟨es, he⟩ := HMR.out.own.isMap; exact ⟨es, he⟩
          have := intKeys_wf HMR.out.own Try.underlying3 x ((keys_perm HMR.out.own HMR.out.nodup).mem_iff.1 hxm)
          exact this
        have hat : (mapE M4).atKey (.int .i64 x) (.held (.agg #[.int .i64 0, .string ⟨#[]⟩, .int .i64 0, .slice none 0 0])) = .held (.agg e.cells) := by rw [mapE_at HMR.out.nodup, hl]
        have HAT := Lib.hid hat
        have HPK : Hid (pickT (tmE M4) (L.take (k + 1)) = pickT (tmE M4) (L.take k) ++ [(x, e.t)]) := Lib.hid (by
          unfold pickT
          rw [take_at Hx.out, List.map_append]
          simp only [List.map_cons, List.map_nil]
          rw [tmE_get hl]; rfl)
        have HPL : Hid ((bindsT (pickT (tmE M4) (L.take k))).length ≤ 1048576) := Lib.hid (by unfold pickT; rw [bindsT_len, List.length_map, List.length_take]; have := HLL.out; omega)
        have HWS := Lib.hid HB.out.size
        have HW6 := Lib.hid HB6.out.size
        clear hl hat hxm
        go_wp2_with (first
          | (at_lookup
             refine wpList_lookup_held _ rfl _ _ 66 rfl 3 24 (int_keyed Try.underlying3) Try.underlying66 (zeroT _) (w.heap.size + 2) M4.length (mapE M4) rfl HMR.out.own _ _ rfl (keyOf_int_mk Try.underlying3 hwf) (.agg #[.int .i64 e.t.kind, .string e.t.name, .int .i64 e.t.n, .slice e.a e.n e.cap]) HAT.out ?_)
          | (at_builtin
             refine wpList_append_D rfl _ _ rfl Try.underlying30 info_sbind rfl (by decide) rfl rfl (HO.out.alloc _) (own_row (row := bindT (x, e.t)) rfl HO.out HWS.out (.cons (.v _ rfl) (row_mk e.t (HO.out.old HW6.out HWS.out HOK.out)))) (by have := HPL.out; simp only [List.length_cons, List.length_nil]; omega) (by have := HPL.out; simp only [List.length_cons, List.length_nil]; omega) (by rw [World.size_alloc]; exact Nat.le_trans HWS.out (Nat.le_succ _)) ?_
             intro v' w7 ho hg
             have HO7 := Lib.hid ho
             have HG7 := Lib.hid hg
             clear ho hg))
        go_roundw
        case rel => exact ⟨k + 1, by omega, by go_num, Lib.hid (grown_below (HB.out.alloc HB.out.size _) HG7.out (Nat.le_refl _) (fun b hb => (HO.out.lt b hb).1)), Lib.hid (by rw [HPK.out]; unfold bindsT; rw [List.map_append]; exact HO7.out)⟩
        case measure => simp [intOf]; omega
      · obtain rfl : k = n := by omega
        have hltz : ¬ (k : Int) < (k : Int) := by omega
        have hk' : L.take k = L := List.take_of_length_le (by have := HN.out; omega)
        rw [hk'] at HO
        clear hk'
        obtain ⟨a', c', rfl, _, _⟩ := HO.out.form
        have HMF := Lib.hid HO.out.memW
        have HBF := Lib.hid (HB6.out.trans (HB.out.mono HB6.out.size))
        go_wp2_with fail
        go_ret2
        refine ⟨HBF.out, fun h => absurd h (by rw [HR.out]; decide), fun _ => ⟨pickT (tmE M4) L, a', _, c', rfl, ?_, HMF.out⟩⟩
        rw [← H24.out]
        exact pick_perm (by rw [tmE_keys]; exact HM6.out.nodup) (by rw [tmE_keys]; exact HLP.out)
end Go.Proofs.Ytmadfkofmehfkaa

/-
  subst.Instance, Variant. No condition but how the terms lie, and how great they are.
-/
namespace Go.Proofs.Ytmadfkofmehfkaa
open Go.RowKit Go.Maps

set_option maxRecDepth 100000 in
set_option maxHeartbeats 2000000 in
theorem instance_any {p t : Tm} {pa ta : Option Addr} {pn pc tn tc : Nat} (w : World) (hp : MemW w (.s 4 (Tm.rows p.args)) (.slice pa pn pc)) (ht : MemW w (.s 4 (Tm.rows t.args)) (.slice ta tn tc)) (hs : p.size ≤ 1048576) (hok : p.ok) :
    Calls Try.prog 11 #[.agg #[.int .i64 p.kind, .string p.name, .int .i64 p.n, .slice pa pn pc], .agg #[.int .i64 t.kind, .string t.name, .int .i64 t.n, .slice ta tn tc]] w fun e w' => e = .returned (.bool (inst p t)) ∧ Below w.heap.size w w' := by
  have HB0 := Lib.hid ((below_new w (.cells #[.int .i64 p.kind, .string p.name, .int .i64 p.n, .slice pa pn pc] 24)).alloc (below_new w (.cells #[.int .i64 p.kind, .string p.name, .int .i64 p.n, .slice pa pn pc] 24)).size (.cells #[.int .i64 t.kind, .string t.name, .int .i64 t.n, .slice ta tn tc] 24))
  have HX := Lib.hid ((Bo.new w 24 #[.int .i64 p.kind, .string p.name, .int .i64 p.n, .slice pa pn pc]).alloc (.cells #[.int .i64 t.kind, .string t.name, .int .i64 t.n, .slice ta tn tc] 24))
  have HY := Lib.hid (World.size_alloc w (.cells #[.int .i64 p.kind, .string p.name, .int .i64 p.n, .slice pa pn pc] 24) ▸ Bo.new (w.alloc (.cells #[.int .i64 p.kind, .string p.name, .int .i64 p.n, .slice pa pn pc] 24)) 24 #[.int .i64 t.kind, .string t.name, .int .i64 t.n, .slice ta tn tc])
  have HP := Lib.hid (MemW.keep hp HB0.out)
  have HT := Lib.hid (MemW.keep ht HB0.out)
  have HC := Lib.hid (matchS_any _ HP.out HT.out hs hok)
  obtain ⟨x0, x1, x2, x3⟩ := HX.out.c4
  obtain ⟨y0, y1, y2, y3⟩ := HY.out.c4
  clear hp ht hs hok
  cases hr : (mt p t []).1 with
  | false =>
    have HI : Hid (inst p t = false) := Lib.hid hr
    have HR := Lib.hid hr
    clear hr
    go_enter Try.func11, Try.ntmps11
    go_wp2_with fail
    refine HC.out.mono ?_
    rintro e w4 ⟨hb, h1, _⟩
    have he := h1 HR.out
    subst he
    have HB4 := Lib.hid (HB0.out.trans (hb.mono HB0.out.size))
    clear hb h1
    go_wp2_with fail
    go_ret
    exact ⟨by rw [HI.out]; rfl, HB4.out⟩
  | true =>
    have HI : Hid (inst p t = true) := Lib.hid hr
    have HR := Lib.hid hr
    clear hr
    go_enter Try.func11, Try.ntmps11
    go_wp2_with fail
    refine HC.out.mono ?_
    rintro e w4 ⟨hb, _, h2⟩
    obtain ⟨l, a, n, c, rfl, _, _⟩ := h2 HR.out
    have HB4 := Lib.hid (HB0.out.trans (hb.mono HB0.out.size))
    clear hb
    go_wp2_with fail
    go_ret
    exact ⟨by rw [HI.out]; rfl, HB4.out⟩
/-- Whether each is an instance of the other one. -/
def vari (p t : Tm) : Bool := inst p t && inst t p
set_option maxRecDepth 100000 in
set_option maxHeartbeats 2000000 in
theorem variant_any {p t : Tm} {pa ta : Option Addr} {pn pc tn tc : Nat} (w : World) (hp : MemW w (.s 4 (Tm.rows p.args)) (.slice pa pn pc)) (ht : MemW w (.s 4 (Tm.rows t.args)) (.slice ta tn tc)) (hs : p.size ≤ 1048576) (hs2 : t.size ≤ 1048576) (hok : p.ok) (hok2 : t.ok) :
    Calls Try.prog 10 #[.agg #[.int .i64 p.kind, .string p.name, .int .i64 p.n, .slice pa pn pc], .agg #[.int .i64 t.kind, .string t.name, .int .i64 t.n, .slice ta tn tc]] w fun e w' => e = .returned (.bool (vari p t)) ∧ Below w.heap.size w w' := by
  have HB0 := Lib.hid ((below_new w (.cells #[.int .i64 p.kind, .string p.name, .int .i64 p.n, .slice pa pn pc] 24)).alloc (below_new w (.cells #[.int .i64 p.kind, .string p.name, .int .i64 p.n, .slice pa pn pc] 24)).size (.cells #[.int .i64 t.kind, .string t.name, .int .i64 t.n, .slice ta tn tc] 24))
  have HX := Lib.hid ((Bo.new w 24 #[.int .i64 p.kind, .string p.name, .int .i64 p.n, .slice pa pn pc]).alloc (.cells #[.int .i64 t.kind, .string t.name, .int .i64 t.n, .slice ta tn tc] 24))
  have HY := Lib.hid (World.size_alloc w (.cells #[.int .i64 p.kind, .string p.name, .int .i64 p.n, .slice pa pn pc] 24) ▸ Bo.new (w.alloc (.cells #[.int .i64 p.kind, .string p.name, .int .i64 p.n, .slice pa pn pc] 24)) 24 #[.int .i64 t.kind, .string t.name, .int .i64 t.n, .slice ta tn tc])
  have HP := Lib.hid (MemW.keep hp HB0.out)
  have HT := Lib.hid (MemW.keep ht HB0.out)
  have HC := Lib.hid (instance_any _ HP.out HT.out hs hok)
  have HC2 := Lib.hid (fun w' (hb : Below ((w.alloc (.cells #[.int .i64 p.kind, .string p.name, .int .i64 p.n, .slice pa pn pc] 24)).alloc (.cells #[.int .i64 t.kind, .string t.name, .int .i64 t.n, .slice ta tn tc] 24)).heap.size ((w.alloc (.cells #[.int .i64 p.kind, .string p.name, .int .i64 p.n, .slice pa pn pc] 24)).alloc (.cells #[.int .i64 t.kind, .string t.name, .int .i64 t.n, .slice ta tn tc] 24)) w') => instance_any w' (MemW.keep HT.out hb) (MemW.keep HP.out hb) hs2 hok2)
  obtain ⟨x0, x1, x2, x3⟩ := HX.out.c4
  obtain ⟨y0, y1, y2, y3⟩ := HY.out.c4
  clear hp ht hs hok hs2 hok2
  cases hr : inst p t with
  | false =>
    have HI : Hid (vari p t = false) := Lib.hid (by rw [vari, hr]; rfl)
    rw [hr] at HC
    clear hr
    go_enter Try.func10, Try.ntmps10
    go_wp2_with fail
    refine HC.out.mono ?_
    rintro e w4 ⟨rfl, hb⟩
    have HB4 := Lib.hid (HB0.out.trans (hb.mono HB0.out.size))
    clear hb
    go_wp2_with fail
    go_ret
    exact ⟨by rw [HI.out]; rfl, HB4.out⟩
  | true =>
    have HI : Hid (vari p t = inst t p) := Lib.hid (by rw [vari, hr]; rfl)
    rw [hr] at HC
    clear hr
    go_enter Try.func10, Try.ntmps10
    go_wp2_with fail
    refine HC.out.mono ?_
    rintro e w4 ⟨rfl, hb⟩
    have HB4 := Lib.hid (HB0.out.trans (hb.mono HB0.out.size))
    have HCC := Lib.hid (HC2.out w4 hb)
    have HX4 := Lib.hid (HX.out.keep hb)
    have HY4 := Lib.hid (HY.out.keep hb)
    clear hb x0 x1 x2 x3 y0 y1 y2 y3
    obtain ⟨x0, x1, x2, x3⟩ := HX4.out.c4
    obtain ⟨y0, y1, y2, y3⟩ := HY4.out.c4
    go_wp2_with fail
    refine HCC.out.mono ?_
    rintro e w5 ⟨rfl, hb⟩
    have HB5 := Lib.hid (HB4.out.trans (hb.mono HB4.out.size))
    clear hb x0 x1 x2 x3 y0 y1 y2 y3
    go_wp2_with fail
    go_ret
    exact ⟨by rw [HI.out]; rfl, HB5.out⟩
theorem vari_comm (a b : Tm) : vari a b = vari b a := by unfold vari; rw [Bool.and_comm]
theorem vari_refl {a : Tm} (h : Plain a) : vari a a = true := by unfold vari; rw [inst_refl h]; rfl
theorem vari_trans {a b c : Tm} (ha : Plain a) (hb : Plain b) (hc : Plain c) (h1 : vari a b = true) (h2 : vari b c = true) : vari a c = true := by
  unfold vari at *
  rw [Bool.and_eq_true] at *
  exact ⟨inst_trans ha hb hc h1.1 h2.1, inst_trans hc hb ha h2.2 h1.2⟩
end Go.Proofs.Ytmadfkofmehfkaa
