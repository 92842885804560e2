/-
  subst.Canon: terms, their variables numbered anew. No condition but how they lie, and how great they are.
-/
import Derived.Test.YtppejoccljfblaaAv16
import Derived.Test.YtppejoccljfblaaAv11
import Derived.Test.YtppejoccljfblaaAv21
import Derived.Test.YtppejoccljfblaaAv15
import Derived.Test.YtppejoccljfblaaAv3
import Derived.Test.YtppejoccljfblaaAv6
import Derived.Test.YtppejoccljfblaaAv19
import Derived.Test.YtppejoccljfblaaAv4
namespace Go.Proofs.Ytppejoccljfblaa
open Go.RowKit Go.Maps

theorem vs_nodup (ts : List Tm) : ∀ l : List Int, l.Nodup → (vrs 3 l ts).Nodup := by
  induction ts with
  | nil => intro l h; exact h
  | cons t ts ih =>
    intro l h
    have e : vrs 3 l (t :: ts) = vrs 3 (if t.kind = 3 then putI l t.n else l) ts := rfl
    rw [e]
    refine ih _ ?_
    split
    · unfold putI
      split
      · exact h
      · rename_i h2
        rw [List.nodup_append]
        exact ⟨h, by simp, fun a ha b hb => by simp at hb; subst hb; intro e; subst e; exact h2 ha⟩
    · exact h
theorem vs_from (ts : List Tm) : ∀ l : List Int, ∀ n ∈ vrs 3 l ts, n ∈ l ∨ ∃ x ∈ ts, x.n = n := by
  induction ts with
  | nil => intro l n h; exact .inl h
  | cons t ts ih =>
    intro l n h
    have e : vrs 3 l (t :: ts) = vrs 3 (if t.kind = 3 then putI l t.n else l) ts := rfl
    rw [e] at h
    rcases ih _ n h with h | ⟨x, hx, e⟩
    · split at h
      · unfold putI at h
        split at h
        · exact .inl h
        · rcases List.mem_append.1 h with h | h
          · exact .inl h
          · exact .inr ⟨t, List.mem_cons_self .., (List.mem_singleton.1 h).symm⟩
      · exact .inl h
    · exact .inr ⟨x, List.mem_cons_of_mem _ hx, e⟩
theorem vsT_nodup (ts : List Tm) : (vsT ts).Nodup := vs_nodup _ [] List.nodup_nil
theorem vsT_ok {ts : List Tm} (h : ∀ t ∈ ts, t.ok) : ∀ n ∈ vsT ts, inI64 n := by
  intro n hn
  rcases vs_from _ [] n hn with h1 | ⟨x, hx, rfl⟩
  · cases h1
  · rw [Tm.alls_eq] at hx
    obtain ⟨t, ht, hx⟩ := List.mem_flatMap.1 hx
    exact (h t ht x hx).2

set_option maxRecDepth 100000 in
set_option maxHeartbeats 20000000 in
theorem canonS_any {ts : List Tm} {n cap : Nat} {a : Option Addr} (w : World) (h : Tms w ts a n cap) (hs : (Tm.alls ts).length ≤ 1048576) (hok : ∀ t ∈ ts, t.ok) :
    Calls Try.prog 120 #[.slice a n cap] w (Gives 0 4 (Tm.rows (canTs (idxI (vsT ts)) ts)) w) := by
  have hl := h.len
  have HL := Lib.hid hl.1
  have hcap := hl.2.1
  have hmx := hl.2.2
  have H := Lib.hid h
  have HS := Lib.hid hs
  have HOK := Lib.hid hok
  have HVI := Lib.hid (vsT_in (ts := ts))
  have HVL := Lib.hid (vsT_len (ts := ts))
  have HVN := Lib.hid (vsT_nodup ts)
  have HVO := Lib.hid (vsT_ok hok)
  have hmm := @run_makeMap Try.prog
  have HW1 := Lib.hid ((below_new w (.map #[] 0)).alloc (below_new w _).size (.cells #[.map (some w.heap.size)] 197))
  have HM1 : Hid (MapAt ((w.alloc (.map #[] 0)).alloc (.cells #[.map (some w.heap.size)] 197)) w.heap.size (vsT ts) 0) := Lib.hid (World.ownsMap.alloc (World.ownsMap_made w Try.prog 3 _) _)
  have HQ1 : Hid (Bo ((w.alloc (.map #[] 0)).alloc (.cells #[.map (some w.heap.size)] 197)) (w.heap.size + 1) 197 #[.map (some w.heap.size)]) := Lib.hid (World.size_alloc w (.map #[] 0) ▸ Bo.new (w.alloc (.map #[] 0)) 197 #[.map (some w.heap.size)])
  have HZ1 : Hid (((w.alloc (.map #[] 0)).alloc (.cells #[.map (some w.heap.size)] 197)).heap.size = w.heap.size + 2) := Lib.hid (by simp)
  have HVR := Lib.hid (termVars_any ((w.alloc (.map #[] 0)).alloc (.cells #[.map (some w.heap.size)] 197)) (h.keep HW1.out) hs)
  have hv0 : vrs 3 [] (Tm.alls ts) = vsT ts := rfl
  rw [hv0] at HVR
  clear hl h hs hok hv0
  generalize vsT ts = V at *
  go_enter Try.func120, Try.ntmps120
  go_wp2_with fail
  clear hmm
  generalize (w.alloc (.map #[] 0)).alloc (.cells #[.map (some w.heap.size)] 197) = w1 at *
  refine HVR.out.mono ?_
  rintro e w2 ⟨av, nv, cv, rfl, hb2, hm2⟩
  have HB2 := Lib.hid (HW1.out.trans (hb2.mono HW1.out.size))
  have HQ2 := Lib.hid (HQ1.out.keep hb2)
  have HM2 := Lib.hid (MapAt.keep HM1.out hb2)
  have HZ2 : Hid (w.heap.size + 2 ≤ w2.heap.size) := Lib.hid (by have := hb2.size; rw [HZ1.out] at this; exact this)
  have hvl := hm2.len
  rw [intRows_len] at hvl
  have HNV := Lib.hid hvl.1
  have hcv := hvl.2.1
  have hmv := hvl.2.2
  have HV2 : Hid (Mem (fun b => w.heap.size + 2 ≤ b ∧ b < w2.heap.size) w2 (.s 1 (intRows V)) (.slice av nv cv)) := Lib.hid (hm2.mono (fun b hb => ⟨by rcases hb.1 with h | h; exact absurd h (Nat.not_lt_zero _); rw [HZ1.out] at h; exact h, hb.2⟩) fun _ _ => rfl)
  have HNS : Hid (nv ≤ 1048576) := Lib.hid (by rw [← hvl.1]; exact Nat.le_trans HVL.out HS.out)
  clear hb2 hm2 hvl HVR HW1 HM1 HQ1 HZ1
  go_wp2_with fail
  go_loopw [4, 5, 13] (fun _ _ i wr => ∃ k : Nat, k ≤ nv ∧ i = .int .i64 k ∧ Hid (w2.grownBy wr (some w.heap.size)) ∧ Hid (MapAt wr w.heap.size V k)) (fun _ _ i _ => nv - (intOf i).toNat)
  case atStart => exact ⟨0, Nat.zero_le _, rfl, Lib.hid (grownBy_refl _ _), HM2⟩
  case round =>
    obtain ⟨k, hk, rfl, HG, HMK⟩ := hrel
    obtain ⟨wo, rfl⟩ : ∃ wo : World, wo = wr := ⟨_, rfl⟩
    have HQK := Lib.hid (HQ2.out.grown HG.out (fun b hb => by cases hb; omega))
    by_cases hlt : k < nv
    · have hltz : (k : Int) < (nv : Int) := by omega
      obtain ⟨b, o, x, rfl, _, Hx, x0⟩ := int_at (HV2.out.mono (S' := fun b => b < wo.heap.size) (fun b hb => Nat.lt_of_lt_of_le hb.2 HG.out.size) fun b hb => HG.out.block b hb.2 (fun e => by cases e; have := hb.1; omega)) k hlt
      have hwf : (Lit.int .i64 x).wf = true := WalkArith.wf_i64 (HVO.out x (List.mem_of_getElem? Hx.out))
      have c0 := HQK.out.cell (j := 0) rfl
      have HNK := HNS.out
      have hkx : k < maxLen := by unfold maxLen; omega
      have hwk : (Lit.int .i64 (k : Int)).wf = true := WalkArith.wf_i64 (by omega)
      have HGD : Hid (V.getD k 0 = x) := Lib.hid (by rw [List.getD_eq_getElem?_getD, Hx.out]; rfl)
      go_wp2_with (first
        | (at_mapUpdate
           refine wpList_mapUpdate_own _ rfl _ _ _ 197 rfl 3 3 (int_keyed Try.underlying3) Try.underlying197 _ w.heap.size k _ rfl HMK.out hkx _ _ _ rfl rfl (keyOf_int_mk Try.underlying3 hwf) _ [] (plainElem_int Try.underlying3 hwk) ?_
           intro w5 hown hgrow
           have HO5 := Lib.hid hown
           have HG5 := Lib.hid hgrow
           clear hown hgrow))
      go_roundw
      case rel => exact ⟨k + 1, by omega, by go_num, Lib.hid (grownBy_trans HG.out HG5.out), Lib.hid (by unfold MapAt; rw [atD, HGD.out]; exact HO5.out)⟩
      case measure => simp [intOf]; omega
    · obtain rfl : k = nv := by omega
      have hltz : ¬ (k : Int) < (k : Int) := by omega
      have HBW : Hid (Below w.heap.size w wo) := Lib.hid (grown_below HB2.out HG.out (Nat.le_refl _) (fun b hb => by cases hb; exact Nat.le_refl _))
      have HMV : Hid (MapAt wo w.heap.size V V.length) := Lib.hid (by rw [HNV.out]; exact HMK.out)
      clear HMK HG HV2 HM2 HQ2 HB2 HNV
      go_wp2_with fail
      obtain ⟨ws, rfl⟩ : ∃ ws : World, ws = wo := ⟨_, rfl⟩
      go_loopw [6, 24] (fun v i wr => ∃ j : Nat, j ≤ n ∧ i = .int .i64 j ∧ Hid (Below ws.heap.size ws wr) ∧ Hid (OwnD 0 ws.heap.size 96 4 wr v (Tm.rows (canTs (idxI V) (ts.take j))))) (fun _ i _ => n - (intOf i).toNat)
      case atStart => exact ⟨0, Nat.zero_le _, rfl, Lib.hid (Below.refl _ _), Lib.hid (by rw [List.take_zero, canTs, Tm.rows]; exact OwnD.nil _ _ _ _ _)⟩
      case round =>
        obtain ⟨j, hj, rfl, HB, HO⟩ := hrel
        by_cases hlt : j < n
        · have hltz2 : (j : Int) < (n : Int) := by omega
          obtain ⟨b, o, x, ax, nx, capx, rfl, hbB, Hx, x0, x1, x2, x3, GX⟩ := tm_at (Mem.keep H.out (Nat.le_refl _) (HBW.out.trans (HB.out.mono HBW.out.size))) j hlt
          have GV := Lib.hid (HVI.out x (mem_of_at Hx.out))
          have GO := Lib.hid (HOK.out x (mem_of_at Hx.out))
          have SX := Lib.hid (show x.size ≤ 1048576 from Nat.le_trans (Tm.size_mem (mem_of_at Hx.out)) HS.out)
          have HW := Lib.hid HB.out.size
          have HBA := Lib.hid (HB.out.alloc HB.out.size (.cells #[.int .i64 x.kind, .string x.name, .int .i64 x.n, .slice ax nx capx] 96))
          have GX5 : Hid (MemW (wr.alloc (.cells #[.int .i64 x.kind, .string x.name, .int .i64 x.n, .slice ax nx capx] 96)) (.s 4 (Tm.rows x.args)) (.slice ax nx capx)) := Lib.hid (Mem.keep GX.out (Nat.le_trans HBW.out.size HBA.out.size) ((below_new wr (.cells #[.int .i64 x.kind, .string x.name, .int .i64 x.n, .slice ax nx capx] 96)).mono (Nat.le_trans HBW.out.size HW.out)))
          have HCR := Lib.hid (replacedC_any HVN.out 1048576 x (w.heap.size + 1) w.heap.size nx capx ax (wr.alloc (.cells #[.int .i64 x.kind, .string x.name, .int .i64 x.n, .slice ax nx capx] 96)) SX.out (Nat.le_refl _) GV.out GO.out ((HQK.out.keep HBA.out).cell (j := 0) rfl) (HMV.out.keep HBA.out) GX5.out)
          have HN := Lib.hid (show canTs (idxI V) (ts.take (j + 1)) = canTs (idxI V) (ts.take j) ++ [canT (idxI V) x] by rw [take_at Hx.out, canTs_eq, canTs_eq, List.map_append]; rfl)
          have HLL := Lib.hid (show ((Tm.rows (canTs (idxI V) (ts.take j))).length + 1) * 56 ≤ 140737488355328 ∧ (Tm.rows (canTs (idxI V) (ts.take j))).length + 1 ≤ 4611686018427387904 by
            have h1 := HS.out
            have h2 := Tm.len_args ts
            rw [Tm.rows_len, canTs_eq, List.length_map, List.length_take]; omega)
          go_wp2_with (first
            | (go_at_call 168
               refine HCR.out.mono ?_
               rintro e w4 ⟨a2, n2, cap2, rfl, hb, hm⟩
               have HB4 := Lib.hid hb; clear hb
               have HM4 := Lib.hid hm; clear hm
               have HO4 := Lib.hid ((HO.out.alloc (.cells #[.int .i64 x.kind, .string x.name, .int .i64 x.n, .slice ax nx capx] 96)).keep HB4.out)
               have HZ4 := Lib.hid HB4.out.size)
            | (at_builtin
               refine wpList_append_D rfl _ _ rfl Try.underlying89 info_term5 rfl (by decide) rfl rfl (HO4.out.alloc _) (own_one (canT (idxI V) x) HO4.out (by have := HZ4.out; rw [World.size_alloc] at this; have := HW.out; omega) ((HO.out.alloc (.cells #[.int .i64 x.kind, .string x.name, .int .i64 x.n, .slice ax nx capx] 96)).apart (Nat.zero_le _) (by rw [World.size_alloc]; have := HW.out; omega) HM4.out)) HLL.out.1 HLL.out.2 (by have := HZ4.out; rw [World.size_alloc] at this; rw [World.size_alloc]; have := HW.out; omega) ?_
               intro v' w5 ho hg
               have HO5 := Lib.hid ho; clear ho
               have HG5 := Lib.hid hg; clear hg))
          go_roundw
          case rel => exact ⟨j + 1, by omega, by go_num, Lib.hid (grown_below ((HBA.out.trans (HB4.out.mono (by rw [World.size_alloc]; have := HW.out; omega))).alloc (by have := HZ4.out; rw [World.size_alloc] at this; have := HW.out; omega) _) HG5.out (Nat.le_refl _) (fun b hb => (HO4.out.lt b hb).1)), Lib.hid (by rw [HN.out, Tm.rows_app]; exact HO5.out)⟩
          case measure => simp [intOf]; omega
        · have hk' : ts.take j = ts := List.take_of_length_le (by have := HL.out; omega)
          have hltz2 : ¬ (j : Int) < (n : Int) := by omega
          rw [hk'] at HO
          clear hk'
          obtain ⟨a', cap', rfl, _, _⟩ := HO.out.form
          have HM := Lib.hid HO.out.mem
          have HBF := Lib.hid (HBW.out.trans (HB.out.mono HBW.out.size))
          go_wp2_with fail
          go_ret
          exact ⟨a', _, cap', rfl, HBF.out, HM.out.mono (fun b hb => ⟨hb.1.imp id fun h => Nat.le_trans HBW.out.size h, hb.2⟩) fun _ _ => rfl⟩
end Go.Proofs.Ytppejoccljfblaa

/-
  answer.Values: the values of answers, numbered anew, each once, in order. No condition but how they lie, how great they are, and that they are few.
-/
namespace Go.Proofs.Ytppejoccljfblaa
open Go.RowKit

/-- A term numbered anew. -/
def canV (t : Tm) : Tm := canT (idxI (vsT [t])) t
def valuesL (l : List Ans) : List Tm := l.map fun x => canV x.value
theorem canTs_one (t : Tm) : canTs (idxI (vsT [t])) [t] = [canV t] := by rw [canTs, canTs]; rfl
theorem valuesL_at {l : List Ans} {k : Nat} {x : Ans} (h : l[k]? = some x) : valuesL (l.take (k + 1)) = valuesL (l.take k) ++ [canV x.value] := by
  unfold valuesL
  rw [take_at h, List.map_append]; rfl
theorem alls_value {x : Ans} : (Tm.alls [x.value]).length ≤ (Tm.alls x.all).length := by
  rw [Ans.all, Tm.alls_app, List.length_append]; omega

set_option maxRecDepth 100000 in
set_option maxHeartbeats 20000000 in
theorem values_any {l : List Ans} {n cap : Nat} {a : Option Addr} (w : World) (h : MemW w (.s 5 (ansRows l)) (.slice a n cap)) (hs : ∀ x ∈ l, (Tm.alls x.all).length ≤ 1048576) (hok : ∀ x ∈ l, x.value.ok) (hn : n ≤ 10) :
    Calls Try.prog 70 #[.slice a n cap] w fun e w' => ∃ y, e = .returned y ∧ SetOut n (valuesL l) w' y ∧ Below w.heap.size w w' := by
  have hl := ans_len h
  have HL := Lib.hid hl.1
  have hcap := hl.2.1
  have hmx := hl.2.2
  have H := Lib.hid h
  have HS := Lib.hid hs
  have HOK := Lib.hid hok
  clear hl h hs hok
  go_enter Try.func70, Try.ntmps70
  go_wp2
  go_loopw [3, 8] (fun v i wr => ∃ k : Nat, k ≤ n ∧ i = .int .i64 k ∧ Hid (Below w.heap.size w wr) ∧ Hid (OwnD 0 w.heap.size 96 4 wr v (Tm.rows (valuesL (l.take k))))) (fun _ i _ => n - (intOf i).toNat)
  case atStart => exact ⟨0, Nat.zero_le _, rfl, Lib.hid (Below.refl _ _), Lib.hid (by rw [List.take_zero]; exact OwnD.nil _ _ _ _ _)⟩
  case round =>
    obtain ⟨k, hk, rfl, HB, HO⟩ := hrel
    by_cases hlt : k < n
    · have hltz : (k : Int) < (n : Int) := by omega
      obtain ⟨b, o, x, ab, nb, cb, ax, nx, capx, rfl, hbB, Hx, x0, x1, x2, x3, x4, GB, GV⟩ := ans_at (MemW.keep H.out HB.out) k hlt
      have HSX := Lib.hid (Nat.le_trans alls_value (HS.out x (mem_of_at Hx.out)))
      have HKX := Lib.hid (HOK.out x (mem_of_at Hx.out))
      have GV2 := Lib.hid (MemW.alloc GV.out (.cells #[.slice ab nb cb, .int .i64 x.value.kind, .string x.value.name, .int .i64 x.value.n, .slice ax nx capx] 103))
      have HZA : Hid ((wr.alloc (.cells #[.slice ab nb cb, .int .i64 x.value.kind, .string x.value.name, .int .i64 x.value.n, .slice ax nx capx] 103)).heap.size = wr.heap.size + 1) := Lib.hid (World.size_alloc _ _)
      have HLM : Hid (Tms ((wr.alloc (.cells #[.slice ab nb cb, .int .i64 x.value.kind, .string x.value.name, .int .i64 x.value.n, .slice ax nx capx] 103)).alloc (.cells #[.int .i64 x.value.kind, .string x.value.name, .int .i64 x.value.n, .slice ax nx capx] 96)) [x.value] (some ⟨wr.heap.size + 1, 0, none⟩) 1 1) := Lib.hid (by have := one_mem x.value GV2.out; rw [World.size_alloc] at this; exact this)
      have HBA := Lib.hid ((HB.out.alloc HB.out.size (.cells #[.slice ab nb cb, .int .i64 x.value.kind, .string x.value.name, .int .i64 x.value.n, .slice ax nx capx] 103)).alloc (by rw [World.size_alloc]; exact Nat.le_trans HB.out.size (Nat.le_succ _)) (.cells #[.int .i64 x.value.kind, .string x.value.name, .int .i64 x.value.n, .slice ax nx capx] 96))
      have HOA := Lib.hid ((HO.out.alloc (.cells #[.slice ab nb cb, .int .i64 x.value.kind, .string x.value.name, .int .i64 x.value.n, .slice ax nx capx] 103)).alloc (.cells #[.int .i64 x.value.kind, .string x.value.name, .int .i64 x.value.n, .slice ax nx capx] 96))
      have HZB : Hid (((wr.alloc (.cells #[.slice ab nb cb, .int .i64 x.value.kind, .string x.value.name, .int .i64 x.value.n, .slice ax nx capx] 103)).alloc (.cells #[.int .i64 x.value.kind, .string x.value.name, .int .i64 x.value.n, .slice ax nx capx] 96)).heap.size = wr.heap.size + 2) := Lib.hid (by simp)
      have HC := Lib.hid (canonS_any _ HLM.out HSX.out (fun t ht => by rw [List.mem_singleton.1 ht]; exact HKX.out))
      have HN := Lib.hid (valuesL_at Hx.out)
      have HW := Lib.hid HB.out.size
      have HVL : Hid ((Tm.rows (valuesL (l.take k))).length ≤ 10) := Lib.hid (by unfold valuesL; rw [Tm.rows_len, List.length_map, List.length_take]; omega)
      rw [canTs_one] at HC
      go_wp2_with (first
        | (go_at_call 120
           refine HC.out.mono ?_
           rintro e w4 ⟨a4, n4, c4, rfl, hb, hm⟩
           have HB4 := Lib.hid hb
           have HM4 := Lib.hid hm
           have HO4 := Lib.hid (HOA.out.keep hb)
           have HZ4 : Hid (wr.heap.size + 2 ≤ w4.heap.size) := Lib.hid (by have := hb.size; rw [HZB.out] at this; exact this)
           clear hb hm)
        | (at_builtin
           refine wpList_append_D rfl _ _ rfl Try.underlying89 info_term5 rfl (by decide) rfl rfl HO4.out (HOA.out.apart (Nat.zero_le _) HBA.out.size HM4.out) (by have := HVL.out; simp only [Tm.rows, List.length_cons, List.length_nil]; omega) (by have := HVL.out; simp only [Tm.rows, List.length_cons, List.length_nil]; omega) (by have := HZ4.out; have := HW.out; omega) ?_
           intro v' w5 ho hg
           have HO5 := Lib.hid ho; clear ho
           have HG5 := Lib.hid hg; clear hg))
      go_roundw
      case rel => exact ⟨k + 1, by omega, by go_num, Lib.hid (grown_below (HBA.out.trans (HB4.out.mono HBA.out.size)) HG5.out (Nat.le_refl _) (fun b hb => (HO4.out.lt b hb).1)), Lib.hid (by rw [HN.out, Tm.rows_app]; exact HO5.out)⟩
      case measure => simp [intOf]; omega
    · obtain rfl : k = n := by omega
      have hltz : ¬ (k : Int) < (k : Int) := by omega
      have hk' : l.take k = l := List.take_of_length_le (by have := HL.out; omega)
      rw [hk'] at HO
      clear hk'
      obtain ⟨a', c', rfl, _, _⟩ := HO.out.form
      have HM := Lib.hid HO.out.memW
      have hrl : (Tm.rows (valuesL l)).length = k := by unfold valuesL; rw [Tm.rows_len, List.length_map]; exact HL.out
      rw [hrl] at HM ⊢
      clear hrl
      go_wp2_with fail
      refine (setT_any wr HM.out (by omega)).mono ?_
      rintro e w7 ⟨y, rfl, ho, hb⟩
      have HS7 := Lib.hid ho
      have HB7 := Lib.hid (HB.out.trans (hb.mono HB.out.size))
      clear ho hb
      go_wp2_with fail
      go_ret
      exact ⟨_, rfl, HS7.out, HB7.out⟩
end Go.Proofs.Ytppejoccljfblaa

/-
  The walk of the law TermMakes: it answers true at every input. No condition but how the terms lie, and how great they are.
-/
namespace Go.Proofs.Ytppejoccljfblaa
open Go.RowKit

theorem Tm.alls_wts (ts : List Tm) : (Tm.alls ts).length ≤ Tm.wts ts := by
  unfold Tm.wts
  generalize Tm.alls ts = l
  induction l with
  | nil => exact Nat.le_refl _
  | cons x l ih => rw [List.map_cons, List.sum_cons, List.length_cons]; omega
theorem groundB_eq (t : Tm) : groundB t = (t.kind != 3 && t.args.all groundB) := by
  have h : ∀ ts : List Tm, (Tm.alls ts).all (fun x => x.kind != 3) = ts.all groundB := by
    intro ts
    induction ts with
    | nil => rw [Tm.alls]; rfl
    | cons t ts ih => rw [Tm.alls, List.all_append, ih, List.all_cons]; rfl
  show (t.all.all fun x => x.kind != 3) = _
  rw [Tm.all_eq, List.all_cons, h]
theorem vrs_con {nm : ByteArray} {ts : List Tm} : vrs 3 [] (Tm.alls [Tm.mk 1 nm 0 ts]) = vrs 3 [] (Tm.alls ts) := by
  rw [Tm.alls, Tm.alls, List.append_nil, Tm.all]
  unfold vrs
  rw [List.foldl_cons, if_neg (by show ¬ (1 : Int) = 3; decide)]

set_option maxRecDepth 100000 in
set_option maxHeartbeats 2000000 in
theorem termMakes_far {ts : List Tm} {a : Option Addr} {n cap : Nat} (nm : ByteArray) (w : World) (h : Tms w ts a n cap) (hs : (Tm.alls ts).length ≤ 1048576) (hf : fewB ts = false ∨ 30 < nm.size) :
    Calls Try.prog 12 #[.slice a n cap, .string nm] w fun e w' => e = .returned (.bool true) ∧ Below w.heap.size w w' := by
  have H := Lib.hid h
  have HS := Lib.hid hs
  obtain rfl := h.len.1
  clear h hs
  by_cases hfe : fewB ts = false
  · go_enter Try.func12, Try.ntmps12
    go_wp2_with fail
    refine (awake03_any w).mono ?_
    rintro e w1 ⟨rfl, hb1⟩
    have HB1 := Lib.hid hb1
    clear hb1
    go_wp2_with fail
    refine (few_any w1 (H.out.keep HB1.out) HS.out).mono ?_
    rintro e w2 ⟨rfl, hb2⟩
    have HB2 := Lib.hid (HB1.out.trans (hb2.mono HB1.out.size))
    rw [hfe]
    clear hb2
    go_wp2_with fail
    go_ret
    exact ⟨rfl, HB2.out⟩
  · have hft : fewB ts = true := by simpa using hfe
    have hnm : decide ((30 : Int) < (nm.size : Int)) = true := by
      rcases hf with h | h
      · exact absurd h hfe
      · simp; omega
    clear hfe hf
    go_enter Try.func12, Try.ntmps12
    go_wp2_with fail
    refine (awake03_any w).mono ?_
    rintro e w1 ⟨rfl, hb1⟩
    have HB1 := Lib.hid hb1
    clear hb1
    go_wp2_with fail
    refine (few_any w1 (H.out.keep HB1.out) HS.out).mono ?_
    rintro e w2 ⟨rfl, hb2⟩
    have HB2 := Lib.hid (HB1.out.trans (hb2.mono HB1.out.size))
    rw [hft]
    clear hb2
    go_wp2_with fail
    go_ret
    exact ⟨rfl, HB2.out⟩

set_option maxRecDepth 100000 in
set_option maxHeartbeats 20000000 in
theorem termMakes_main {ts : List Tm} {a : Option Addr} {n cap : Nat} (nm : ByteArray) (w : World) (h : Tms w ts a n cap) (hs : (Tm.alls ts).length ≤ 1048576) (hft : fewB ts = true) (hnm : nm.size ≤ 30) :
    Calls Try.prog 12 #[.slice a n cap, .string nm] w fun e w' => e = .returned (.bool true) ∧ Below w.heap.size w w' := by
  have hcap := h.len.2.1
  have hmx := h.len.2.2
  have H := Lib.hid h
  have HS := Lib.hid hs
  have hn : decide ((30 : Int) < (nm.size : Int)) = false := by simp; omega
  have h200 : (Tm.alls ts).length ≤ 200 := by simp [fewB] at hft; exact hft.1
  have h30 : n ≤ 30 := by have := h.len.1; simp [fewB] at hft; omega
  have HL := Lib.hid h.len.1
  have H200 := Lib.hid h200
  clear h hs h200
  go_enter Try.func12, Try.ntmps12
  go_wp2_with fail
  refine (awake03_any w).mono ?_
  rintro e w1 ⟨rfl, hb1⟩
  have HB1 := Lib.hid hb1
  clear hb1
  go_wp2_with fail
  refine (few_any w1 (H.out.keep HB1.out) HS.out).mono ?_
  rintro e w2 ⟨rfl, hb2⟩
  have HB2 := Lib.hid (HB1.out.trans (hb2.mono HB1.out.size))
  rw [hft]
  clear hb2 HB1
  have HX := Lib.hid (Bo.new w2 96 #[.int .i64 1, .string nm, .int .i64 0, .slice a n cap])
  have HB3 := Lib.hid (HB2.out.alloc HB2.out.size (.cells #[.int .i64 1, .string nm, .int .i64 0, .slice a n cap] 96))
  go_wp2_with fail
  go_loopw [6, 7, 8, 26] (fun v6 v7 v8 v26 wr => ∃ (k s dp : Nat) (g : Bool), v6 = .int .i64 s ∧ v7 = .int .i64 dp ∧ v8 = .bool g ∧ v26 = .int .i64 k ∧ k ≤ n ∧ s ≤ 201 ∧ dp ≤ 200 ∧ Hid (s = 1 + (Tm.alls (ts.take k)).length) ∧ Hid (dp = depTs (ts.take k)) ∧ Hid (g = (ts.take k).all groundB) ∧ Hid (Below w.heap.size w wr) ∧ Hid (Bo wr w2.heap.size 96 #[.int .i64 1, .string nm, .int .i64 0, .slice a n cap])) (fun _ _ _ v26 _ => n - (intOf v26).toNat)
  case atStart => exact ⟨0, 1, 0, true, rfl, rfl, rfl, rfl, Nat.zero_le _, by omega, by omega, Lib.hid (by rw [List.take_zero, Tm.alls]; rfl), Lib.hid (by rw [List.take_zero, depTs]), Lib.hid (by rw [List.take_zero]; rfl), HB3.out, HX.out⟩
  case round =>
    obtain ⟨k, s, dp, g, rfl, rfl, rfl, rfl, hk, hs201, hd200, HS1, HD1, HG1, HB, HX5⟩ := hrel
    by_cases hlt : k < n
    · have hltz : (k : Int) < (n : Int) := by omega
      obtain ⟨b, o, x, ax, nx, capx, rfl, hbB, Hx, x0, x1, x2, x3, GX⟩ := tm_at (Mem.keep H.out (Nat.le_refl _) HB.out) k hlt
      have hxs : x.size ≤ 200 := Nat.le_trans (Tm.size_mem (mem_of_at Hx.out)) H200.out
      have HS2 : Hid (s + x.size = 1 + (Tm.alls (ts.take (k + 1))).length) := Lib.hid (by rw [HS1.out, Tm.alls_at Hx.out, List.length_append]; have : x.all.length = x.size := rfl; omega)
      have hs2 : s + x.size ≤ 201 := by
        have h1 := HS2.out
        have h2 := Tm.alls_le (ts := ts) (k + 1)
        have h3 := H200.out
        omega
      have HD2 : Hid (max dp (depT x) = depTs (ts.take (k + 1))) := Lib.hid (by rw [HD1.out, take_at Hx.out, depTs_snoc])
      have hdx : depT x ≤ 200 := Nat.le_trans (depT_le x) hxs
      obtain ⟨mx, hmx2, hmx3⟩ : ∃ mx : Nat, max (dp : Int) (depT x : Int) = (mx : Int) ∧ mx = max dp (depT x) := ⟨max dp (depT x), by omega, rfl⟩
      have hmx4 : mx ≤ 200 := by omega
      have HMX := Lib.hid hmx3
      have HG2 : Hid ((g && groundB x) = (ts.take (k + 1)).all groundB) := Lib.hid (by rw [HG1.out, take_at Hx.out, List.all_append]; simp)
      have HXB := Lib.hid ((Bo.new wr 96 #[.int .i64 x.kind, .string x.name, .int .i64 x.n, .slice ax nx capx]).c4)
      have HB4 := Lib.hid (HB.out.alloc HB.out.size (.cells #[.int .i64 x.kind, .string x.name, .int .i64 x.n, .slice ax nx capx] 96))
      have HGX : Hid (MemW (wr.alloc (.cells #[.int .i64 x.kind, .string x.name, .int .i64 x.n, .slice ax nx capx] 96)) (.s 4 (Tm.rows x.args)) (.slice ax nx capx)) := Lib.hid (MemW.alloc (GX.out.mono (fun b hb => Nat.lt_of_lt_of_le hb HB.out.size) fun _ _ => rfl) _)
      clear hmx3
      go_wp2_with fail
      refine (size_any 200 x nx capx ax _ hxs (by omega) HGX.out).mono ?_
      rintro e w5 ⟨rfl, hb5⟩
      have HB5 := Lib.hid hb5
      have HXB5 := Lib.hid (((Bo.new wr 96 #[.int .i64 x.kind, .string x.name, .int .i64 x.n, .slice ax nx capx]).keep hb5).c4)
      obtain ⟨y0, y1, y2, y3⟩ := HXB5.out
      clear hb5
      go_wp2_with fail
      refine (depth_any 200 x nx capx ax _ hxs (by omega) (HGX.out.keep HB5.out)).mono ?_
      rintro e w6 ⟨rfl, hb6⟩
      have HB6 := Lib.hid (HB5.out.trans (hb6.mono HB5.out.size))
      clear hb6 y0 y1 y2 y3
      obtain ⟨y0, y1, y2, y3⟩ := ((Bo.new wr 96 #[.int .i64 x.kind, .string x.name, .int .i64 x.n, .slice ax nx capx]).keep HB6.out).c4
      cases g
      · go_wp2_with fail
        go_roundw
        case rel => exact ⟨k + 1, s + x.size, mx, false, by go_num, rfl, rfl, by go_num, by omega, hs2, hmx4, HS2.out, Lib.hid (by rw [HMX.out]; exact HD2.out), HG2.out, HB4.out.trans (HB6.out.mono (Nat.le_trans HB.out.size (below_new wr _).size)), (HX5.out.alloc _).keep HB6.out⟩
        case measure => simp [intOf] <;> omega
      · go_wp2_with fail
        refine (ground_any _ (HGX.out.keep HB6.out)).mono ?_
        rintro e w7 ⟨rfl, hb7⟩
        have HB7 := Lib.hid (HB6.out.trans (hb7.mono HB6.out.size))
        clear hb7
        go_wp2_with fail
        go_roundw
        case rel => exact ⟨k + 1, s + x.size, mx, groundB x, by go_num, rfl, rfl, by go_num, by omega, hs2, hmx4, HS2.out, Lib.hid (by rw [HMX.out]; exact HD2.out), HG2.out, HB4.out.trans (HB7.out.mono (Nat.le_trans HB.out.size (below_new wr _).size)), (HX5.out.alloc _).keep HB7.out⟩
        case measure => simp [intOf] <;> omega
    · obtain rfl : k = n := by omega
      have hltz : ¬ (k : Int) < (k : Int) := by omega
      have htk : ts.take k = ts := List.take_of_length_le (by rw [HL.out]; exact Nat.le_refl _)
      have hTS : (Tm.mk 1 nm 0 ts).size = s := by rw [Tm.size_eq, HS1.out, htk]; rfl
      have hTD : depT (Tm.mk 1 nm 0 ts) = dp + 1 := by rw [depT, HD1.out, htk]
      have hTG : groundB (Tm.mk 1 nm 0 ts) = g := by rw [groundB_eq, HG1.out, htk]; rfl
      have HTS := Lib.hid hTS
      have HTD := Lib.hid hTD
      have HTG := Lib.hid hTG
      clear hTS hTD hTG htk HS1 HD1 HG1
      obtain ⟨y0, y1, y2, y3⟩ := HX5.out.c4
      have HM := Lib.hid (H.out.keep HB.out)
      go_wp2_with fail
      refine (size_any 201 (Tm.mk 1 nm 0 ts) k cap a wr (by rw [HTS.out]; omega) (by omega) HM.out).mono ?_
      rintro e w5 ⟨rfl, hb5⟩
      rw [HTS.out]
      have HB5 := Lib.hid hb5
      clear hb5 y0 y1 y2 y3
      obtain ⟨y0, y1, y2, y3⟩ := (HX5.out.keep HB5.out).c4
      go_wp2_with fail
      refine (depth_any 201 (Tm.mk 1 nm 0 ts) k cap a w5 (by rw [HTS.out]; omega) (by omega) (HM.out.keep HB5.out)).mono ?_
      rintro e w6 ⟨rfl, hb6⟩
      rw [HTD.out]
      have HB6 := Lib.hid (HB5.out.trans (hb6.mono HB5.out.size))
      clear hb6 y0 y1 y2 y3
      obtain ⟨y0, y1, y2, y3⟩ := (HX5.out.keep HB6.out).c4
      go_wp2_with fail
      refine (ground_any (t := Tm.mk 1 nm 0 ts) w6 (HM.out.keep HB6.out)).mono ?_
      rintro e w7 ⟨rfl, hb7⟩
      rw [HTG.out]
      have HB7 := Lib.hid (HB6.out.trans (hb7.mono HB6.out.size))
      clear hb7 y0 y1 y2 y3
      obtain ⟨y0, y1, y2, y3⟩ := (HX5.out.keep HB7.out).c4
      go_wp2_with fail
      have HA7 := Lib.hid (below_new w7 (.cells #[.int .i64 1, .string nm, .int .i64 0, .slice a k cap] 96))
      have HT7 : Hid (Tms (w7.alloc (.cells #[.int .i64 1, .string nm, .int .i64 0, .slice a k cap] 96)) [Tm.mk 1 nm 0 ts] (some ⟨w7.heap.size, 0, none⟩) 1 1) := Lib.hid (one_memW (Tm.mk 1 nm 0 ts) 96 _ rfl (HM.out.keep HB7.out))
      refine (termVars_any _ HT7.out (by rw [Tm.alls, Tm.alls, List.append_nil]; show (Tm.mk 1 nm 0 ts).size ≤ _; rw [HTS.out]; omega)).mono ?_
      rintro e w8 ⟨a8, n8, c8, rfl, hb8, hm8⟩
      have HB8 := Lib.hid (HB7.out.trans ((HA7.out.trans (hb8.mono HA7.out.size)).mono HB7.out.size))
      have HM8 : Hid (MemW w8 (.s 1 (intRows (vrs 3 [] (Tm.alls ts)))) (.slice a8 n8 c8)) := Lib.hid (by rw [vrs_con] at hm8; exact hm8.mono (fun _ hb => hb.2) fun _ _ => rfl)
      clear hb8 hm8 y0 y1 y2 y3 HT7 HA7
      go_wp2_with fail
      refine (termVars_any w8 (HM.out.keep HB8.out) HS.out).mono ?_
      rintro e w9 ⟨a9, n9, c9, rfl, hb9, hm9⟩
      have HB9 := Lib.hid (HB8.out.trans (hb9.mono HB8.out.size))
      have HM9 : Hid (MemW w9 (.s 1 (intRows (vrs 3 [] (Tm.alls ts)))) (.slice a9 n9 c9)) := Lib.hid (hm9.mono (fun _ hb => hb.2) fun _ _ => rfl)
      have HM8' := Lib.hid (HM8.out.keep hb9)
      clear hb9 hm9
      go_wp2_with fail
      refine (intsEq_any w9 HM8'.out HM9.out).mono ?_
      rintro e w10 ⟨rfl, hb10⟩
      rw [decide_eq_true (p := vrs 3 [] (Tm.alls ts) = vrs 3 [] (Tm.alls ts)) rfl]
      have HB10 := Lib.hid (HB9.out.trans (hb10.mono HB9.out.size))
      clear hb10
      go_wp2_with fail
      refine (setT_any w10 (HM.out.keep HB10.out) (by omega)).mono ?_
      rintro e w11 ⟨y, rfl, ⟨av, ks, cs, l, rfl, hks, _, _, _⟩, hb11⟩
      have HB11 := Lib.hid (HB.out.trans ((HB10.out.trans (hb11.mono HB10.out.size)).mono HB.out.size))
      clear hb11
      have hks2 : (ks : Int) ≤ (k : Int) := by omega
      go_wp2_with fail
      go_ret
      exact ⟨rfl, HB11.out⟩
theorem termMakes_any {ts : List Tm} {a : Option Addr} {n cap : Nat} (nm : ByteArray) (w : World) (h : Tms w ts a n cap) (hs : (Tm.alls ts).length ≤ 1048576) :
    Calls Try.prog 12 #[.slice a n cap, .string nm] w fun e w' => e = .returned (.bool true) ∧ Below w.heap.size w w' := by
  by_cases hf : fewB ts = false ∨ 30 < nm.size
  · exact termMakes_far nm w h hs hf
  · exact termMakes_main nm w h hs (by cases hb : fewB ts with | true => rfl | false => exact absurd (.inl hb) hf) (by omega)
end Go.Proofs.Ytppejoccljfblaa
