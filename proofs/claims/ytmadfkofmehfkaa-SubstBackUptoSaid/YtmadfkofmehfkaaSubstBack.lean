/-
  The walk of the law SubstBack, up to its deeds: its example, what is few, the other list. No condition but how the terms lie, and how great they are.
-/
import Derived.Test.YtmadfkofmehfkaaApplyS
import Derived.Test.YtmadfkofmehfkaaApplyG
import Derived.Test.YtmadfkofmehfkaaAwake04
import Derived.Test.YtmadfkofmehfkaaFew
import Derived.Test.YtmadfkofmehfkaaCompare3
import Derived.Test.YtmadfkofmehfkaaHeld
namespace Go.Proofs.Ytmadfkofmehfkaa
open Go.RowKit

theorem info_bind3 : (Try.prog.info? 34).map (fun i => (i.zero, i.size, i.bytes)) = some (some (.agg #[.int .i64 0, .int .i64 0, .string .empty, .int .i64 0, .slice none 0 0]), 5, 64) := by kernel_rfl
theorem step_b {w W W' : World} (h : Below w.heap.size w W) (k : Below W.heap.size W W') : Below w.heap.size w W' := h.trans (k.mono h.size)
/-- Two terms, written down as a slice. -/
theorem few_two {p t : Tm} {pa ta : Option Addr} {pn pc tn tc : Nat} (w0 w : World) (hp : MemW w0 (.s 4 (Tm.rows p.args)) (.slice pa pn pc)) (ht : MemW w0 (.s 4 (Tm.rows t.args)) (.slice ta tn tc)) (hb : Below w0.heap.size w0 w) (hs : (Tm.alls [p, t]).length ≤ 1048576) :
    Calls Try.prog 8 #[.slice (some ⟨w.heap.size, 0, none⟩) 2 2] (w.alloc (.cells #[.int .i64 p.kind, .string p.name, .int .i64 p.n, .slice pa pn pc, .int .i64 t.kind, .string t.name, .int .i64 t.n, .slice ta tn tc] 24)) fun e w' => e = .returned (.bool (fewB [p, t])) ∧ Below (w.alloc (.cells #[.int .i64 p.kind, .string p.name, .int .i64 p.n, .slice pa pn pc, .int .i64 t.kind, .string t.name, .int .i64 t.n, .slice ta tn tc] 24)).heap.size (w.alloc (.cells #[.int .i64 p.kind, .string p.name, .int .i64 p.n, .slice pa pn pc, .int .i64 t.kind, .string t.name, .int .i64 t.n, .slice ta tn tc] 24)) w' := by
  refine few_any (l := [p, t]) (n := 2) (cap := 2) _ ?_ hs
  exact (OwnD.built (B := w.heap.size) (base := w.heap.size) (e := 24) (w := w) (rs := Tm.rows [p, t]) (css := [[.int .i64 p.kind, .string p.name, .int .i64 p.n, .slice pa pn pc], [.int .i64 t.kind, .string t.name, .int .i64 t.n, .slice ta tn tc]]) (by
    rw [Tm.rows, Tm.rows, Tm.rows]
    exact .cons ⟨rfl, row_mk p (Mem.mono (MemW.keep hp hb) (fun b hb => ⟨.inl hb, hb⟩) fun _ _ => rfl)⟩ (.cons ⟨rfl, row_mk t (Mem.mono (MemW.keep ht hb) (fun b hb => ⟨.inl hb, hb⟩) fun _ _ => rfl)⟩ .nil)) (Nat.le_refl _) 2 (by rw [Tm.rows_len]; rfl) (by decide) _ rfl).memW
/-- The other list, so far. -/
def binds3 (l : List (Int × Tm)) (k : Nat) : List (List At) := bindsT (l.take k)
theorem one_few {y : Tm} {a : Option Addr} {n c : Nat} (w : World) (h : MemW w (.s 4 (Tm.rows y.args)) (.slice a n c)) (hs : y.size ≤ 1048576) :
    Calls Try.prog 8 #[.slice (some ⟨w.heap.size, 0, none⟩) 1 1] (w.alloc (.cells #[.int .i64 y.kind, .string y.name, .int .i64 y.n, .slice a n c] 24)) fun e w' => e = .returned (.bool (fewB [y])) ∧ Below (w.alloc (.cells #[.int .i64 y.kind, .string y.name, .int .i64 y.n, .slice a n c] 24)).heap.size (w.alloc (.cells #[.int .i64 y.kind, .string y.name, .int .i64 y.n, .slice a n c] 24)) w' := by
  refine few_any (l := [y]) (n := 1) (cap := 1) _ ?_ (by rw [Tm.alls, Tm.alls, List.append_nil]; exact hs)
  exact (tm_one (B := w.heap.size) (base := w.heap.size) (e := 24) y (Mem.mono h (fun b hb => ⟨.inl hb, hb⟩) fun _ _ => rfl) (Nat.le_refl _)).memW

theorem mt_nodup (m : Nat) : ∀ (p t : Tm) (M : List (Int × Tm)), p.size ≤ m → (M.map (·.1)).Nodup → ((mt p t M).2.map (·.1)).Nodup := by
  induction m with
  | zero => intro p _ _ h; have := p.size_pos; omega
  | succ m ih =>
    have ihs : ∀ (ps ts : List Tm) (M : List (Int × Tm)), (∀ x ∈ ps, x.size ≤ m) → (M.map (·.1)).Nodup → ((mts ps ts M).2.map (·.1)).Nodup := by
      intro ps
      induction ps with
      | nil => intro ts M _ hM; rw [mts]; exact hM
      | cons p ps ihp =>
        intro ts M h1 hM
        cases ts with
        | nil => rw [mts]; exact hM
        | cons t ts =>
          rw [mts]
          have h2 := ih p t M (h1 p (List.mem_cons_self ..)) hM
          split
          · exact ihp ts _ (fun x hx => h1 x (List.mem_cons_of_mem _ hx)) h2
          · exact h2
    intro p t M hm hM
    obtain ⟨k, s, n, ts⟩ := p
    rw [mt]
    split
    · cases hl : look M n with
      | some x => exact hM
      | none =>
        simp only [List.map_append, List.map_cons, List.map_nil]
        rw [List.nodup_append]
        refine ⟨hM, by simp, fun a ha b hb e => ?_⟩
        have hb' : b = n := by simpa using hb
        subst e; subst hb'
        obtain ⟨z, hz⟩ := look_some ha
        rw [hl] at hz
        cases hz
    · split
      · split
        · exact hM
        · split
          · exact ihs ts _ M (fun x hx => by have := Tm.size_arg (t := .mk k s n ts) hx; omega) hM
          · exact hM
      · exact hM
set_option maxRecDepth 100000 in
set_option maxHeartbeats 20000000 in
theorem substBack_any {p t : Tm} {l : List (Int × Tm)} {pa ta ba : Option Addr} {pn pc tn tc bn bc : Nat} (w : World) (hp : MemW w (.s 4 (Tm.rows p.args)) (.slice pa pn pc)) (ht : MemW w (.s 4 (Tm.rows t.args)) (.slice ta tn tc)) (hb : MemW w (.s 5 (bindsT l)) (.slice ba bn bc)) (hs : (Tm.alls [p, t]).length ≤ 1048576) (hls : ∀ x ∈ l, x.2.size ≤ 1048576) (op : p.ok) (ot : t.ok) :
    Calls Try.prog 4 #[.agg #[.int .i64 p.kind, .string p.name, .int .i64 p.n, .slice pa pn pc], .agg #[.int .i64 t.kind, .string t.name, .int .i64 t.n, .slice ta tn tc], .slice ba bn bc] w fun e w' => e = .returned (.bool true) ∧ Below w.heap.size w w' := by
  have HP := Lib.hid hp
  have HT := Lib.hid ht
  have HBD := Lib.hid hb
  have HSZ := Lib.hid hs
  have HLS := Lib.hid hls
  have hal : (Tm.alls [p, t]).length = p.size + t.size := by
    rw [Tm.alls, Tm.alls, Tm.alls, List.append_nil, List.length_append]; rfl
  have HPS : Hid (p.size ≤ 1048576) := Lib.hid (by omega)
  have HTS : Hid (t.size ≤ 1048576) := Lib.hid (by omega)
  have HPO := Lib.hid op
  have HTO := Lib.hid ot
  have hbl := hb.len
  rw [bindsT_len] at hbl
  have HBL := Lib.hid hbl.1
  have hbc := hbl.2.1
  have hbm := hbl.2.2
  clear hp ht hb hs hls op ot hal hbl
  have HB0 := Lib.hid ((below_new w (.cells #[.int .i64 p.kind, .string p.name, .int .i64 p.n, .slice pa pn pc] 24)).alloc (below_new w _).size (.cells #[.int .i64 t.kind, .string t.name, .int .i64 t.n, .slice ta tn tc] 24))
  have HX := Lib.hid ((Bo.new w 24 #[.int .i64 p.kind, .string p.name, .int .i64 p.n, .slice pa pn pc]).alloc (.cells #[.int .i64 t.kind, .string t.name, .int .i64 t.n, .slice ta tn tc] 24))
  have HY := Lib.hid (World.size_alloc w (.cells #[.int .i64 p.kind, .string p.name, .int .i64 p.n, .slice pa pn pc] 24) ▸ Bo.new (w.alloc (.cells #[.int .i64 p.kind, .string p.name, .int .i64 p.n, .slice pa pn pc] 24)) 24 #[.int .i64 t.kind, .string t.name, .int .i64 t.n, .slice ta tn tc])
  go_enter Try.func4, Try.ntmps4
  go_wp2_with fail
  refine (awake04_any _).mono ?_
  rintro e w1 ⟨rfl, hb⟩
  have HB1 := Lib.hid (HB0.out.trans (hb.mono HB0.out.size))
  have HX1 := Lib.hid (HX.out.keep hb)
  have HY1 := Lib.hid (HY.out.keep hb)
  clear hb HB0 HX HY
  obtain ⟨x0, x1, x2, x3⟩ := HX1.out.c4
  obtain ⟨y0, y1, y2, y3⟩ := HY1.out.c4
  have HF := Lib.hid (few_two w w1 HP.out HT.out HB1.out HSZ.out)
  go_wp2_with fail
  refine HF.out.mono ?_
  rintro e w2 ⟨rfl, hb0⟩
  have hb := (below_new w1 (.cells #[.int .i64 p.kind, .string p.name, .int .i64 p.n, .slice pa pn pc, .int .i64 t.kind, .string t.name, .int .i64 t.n, .slice ta tn tc] 24)).trans (hb0.mono (below_new w1 (.cells #[.int .i64 p.kind, .string p.name, .int .i64 p.n, .slice pa pn pc, .int .i64 t.kind, .string t.name, .int .i64 t.n, .slice ta tn tc] 24)).size)
  have HB2 := Lib.hid (HB1.out.trans (hb.mono HB1.out.size))
  have HX2 := Lib.hid (HX1.out.keep hb)
  have HY2 := Lib.hid (HY1.out.keep hb)
  clear hb hb0 HF x0 x1 x2 x3 y0 y1 y2 y3
  by_cases hfe : fewB [p, t] = false
  case pos =>
    rw [hfe]
    go_wp2_with fail
    go_ret
    exact ⟨rfl, HB2.out⟩
  rw [show fewB [p, t] = true by simpa using hfe]
  clear hfe
  by_cases h10 : 10 < bn
  · have h10z : decide ((10 : Int) < (bn : Int)) = true := decide_eq_true (by omega)
    have h10y : (10 : Int) < (bn : Int) := by omega
    go_wp2_with fail
    go_ret
    exact ⟨rfl, HB2.out⟩
  have h10z : decide ((10 : Int) < (bn : Int)) = false := decide_eq_false (by omega)
  have h10y : ¬ (10 : Int) < (bn : Int) := by omega
  go_wp2_with fail
  go_loopw [7, 26] (fun v i wr => ∃ k : Nat, k ≤ bn ∧ i = .int .i64 k ∧ Hid (Below w2.heap.size w2 wr) ∧ Hid (OwnD w.heap.size w2.heap.size 34 5 wr v (bindsT (l.take k)))) (fun _ i _ => bn - (intOf i).toNat)
  case atStart => exact ⟨0, Nat.zero_le _, rfl, Lib.hid (Below.refl _ _), Lib.hid (by rw [List.take_zero]; exact OwnD.nil _ _ _ _ _)⟩
  case round =>
    obtain ⟨k, hk, rfl, HB, HO⟩ := hrel
    have HBW := Lib.hid (HB2.out.trans (HB.out.mono HB2.out.size))
    by_cases hlt : k < bn
    · have hltz : (k : Int) < (bn : Int) := by omega
      obtain ⟨b, o, y, ax, nx, capx, rfl, hbB, Hy, y0, y1, y2, y3, y4, GX⟩ := bindT_at (Mem.keep HBD.out (Nat.le_refl _) HBW.out) k hlt
      have HYS := Lib.hid (HLS.out y (List.mem_of_getElem? Hy.out))
      have HTK : Hid (l.take (k + 1) = l.take k ++ [y]) := Lib.hid (take_at Hy.out)
      obtain ⟨vk, yt⟩ := y
      simp only at y0 y1 y2 y3 GX
      have HBA := Lib.hid (HB.out.alloc HB.out.size (.cells #[.int .i64 vk, .int .i64 yt.kind, .string yt.name, .int .i64 yt.n, .slice ax nx capx] 33))
      have HWA : Hid (MemW (wr.alloc (.cells #[.int .i64 vk, .int .i64 yt.kind, .string yt.name, .int .i64 yt.n, .slice ax nx capx] 33)) (.s 4 (Tm.rows yt.args)) (.slice ax nx capx)) := Lib.hid (Mem.mono GX.out (fun b hb => by rw [World.size_alloc]; have := HBW.out.size; omega) fun b hb => (below_new wr _).block b (by have := HBW.out.size; omega))
      have HC := Lib.hid (one_few _ HWA.out HYS.out)
      have HZA : Hid ((wr.alloc (.cells #[.int .i64 vk, .int .i64 yt.kind, .string yt.name, .int .i64 yt.n, .slice ax nx capx] 33)).heap.size = wr.heap.size + 1) := Lib.hid (World.size_alloc _ _)
      have HY5 := Lib.hid ((Bo.new wr 33 #[.int .i64 vk, .int .i64 yt.kind, .string yt.name, .int .i64 yt.n, .slice ax nx capx]).alloc (.cells #[.int .i64 yt.kind, .string yt.name, .int .i64 yt.n, .slice ax nx capx] 24))
      rw [HZA.out] at HC
      have HW2 := Lib.hid HB2.out.size
      have HWR := Lib.hid HB.out.size
      have HLB : Hid ((bindsT (l.take k)).length ≤ 10) := Lib.hid (by rw [bindsT_len, List.length_take]; omega)
      by_cases hfo : fewB [yt] = false
      · rw [hfo] at HC
        clear hfo
        go_wp2_with fail
        refine HC.out.mono ?_
        rintro e w4 ⟨rfl, hb4⟩
        have HB4 := Lib.hid ((HBA.out.alloc HBA.out.size (.cells #[.int .i64 yt.kind, .string yt.name, .int .i64 yt.n, .slice ax nx capx] 24)).trans (hb4.mono (HBA.out.alloc HBA.out.size (.cells #[.int .i64 yt.kind, .string yt.name, .int .i64 yt.n, .slice ax nx capx] 24)).size))
        clear hb4
        go_wp2_with fail
        go_ret
        exact ⟨rfl, HB2.out.trans (HB4.out.mono HB2.out.size)⟩
      · rw [show fewB [yt] = true by simpa using hfo] at HC
        clear hfo
        go_wp2_with fail
        refine HC.out.mono ?_
        rintro e w4 ⟨rfl, hb4⟩
        have HB4 := Lib.hid ((HBA.out.alloc HBA.out.size (.cells #[.int .i64 yt.kind, .string yt.name, .int .i64 yt.n, .slice ax nx capx] 24)).trans (hb4.mono (HBA.out.alloc HBA.out.size (.cells #[.int .i64 yt.kind, .string yt.name, .int .i64 yt.n, .slice ax nx capx] 24)).size))
        have HO4 := Lib.hid (((HO.out.alloc (.cells #[.int .i64 vk, .int .i64 yt.kind, .string yt.name, .int .i64 yt.n, .slice ax nx capx] 33)).alloc (.cells #[.int .i64 yt.kind, .string yt.name, .int .i64 yt.n, .slice ax nx capx] 24)).keep hb4)
        have HY6 := Lib.hid (HY5.out.keep hb4)
        have HGX4 : Hid (Mem (· < w.heap.size) w4 (.s 4 (Tm.rows yt.args)) (.slice ax nx capx)) := Lib.hid (GX.out.mono (fun _ hb => hb) fun b hb => by
          have h1 := HB4.out.block b (by have := HW2.out; omega)
          have h2 := HB.out.block b (by have := HW2.out; omega)
          exact h1.trans h2.symm)
        have z0 : w4.cell? ⟨wr.heap.size, 0, none⟩ = some (.int .i64 vk) := HY6.out.cell (j := 0) rfl
        have z1 : w4.cell? ⟨wr.heap.size, 1, none⟩ = some (.int .i64 yt.kind) := HY6.out.cell (j := 1) rfl
        have z2 : w4.cell? ⟨wr.heap.size, 2, none⟩ = some (.string yt.name) := HY6.out.cell (j := 2) rfl
        have z3 : w4.cell? ⟨wr.heap.size, 3, none⟩ = some (.int .i64 yt.n) := HY6.out.cell (j := 3) rfl
        have z4 : w4.cell? ⟨wr.heap.size, 4, none⟩ = some (.slice ax nx capx) := HY6.out.cell (j := 4) rfl
        have HZ4 := Lib.hid HB4.out.size
        clear hb4
        go_wp2_with (first
          | (at_builtin
             refine wpList_append_D rfl _ _ rfl Try.underlying31 info_bind3 rfl (by decide) rfl rfl (HO4.out.alloc _) (own_row (row := bindT (vk, yt)) rfl HO4.out HZ4.out (.cons (.v _ rfl) (row_mk yt (HO4.out.old HW2.out HZ4.out HGX4.out)))) (by have := HLB.out; simp only [List.length_cons, List.length_nil]; omega) (by have := HLB.out; simp only [List.length_cons, List.length_nil]; omega) (by rw [World.size_alloc]; exact Nat.le_trans HZ4.out (Nat.le_succ _)) ?_
             intro v' w7 ho hg
             have HO7 := Lib.hid ho
             have HG7 := Lib.hid hg
             clear ho hg))
        go_roundw
        case rel => exact ⟨k + 1, by omega, by go_num, Lib.hid (grown_below (HB4.out.alloc HB4.out.size _) HG7.out (Nat.le_refl _) (fun b hb => (HO4.out.lt b hb).1)), Lib.hid (by rw [HTK.out]; unfold bindsT; rw [List.map_append]; exact HO7.out)⟩
        case measure => simp [intOf]; omega
    · obtain rfl : k = bn := by omega
      have hltz : ¬ (k : Int) < (k : Int) := by omega
      have hk' : l.take k = l := List.take_of_length_le (by have := HBL.out; omega)
      rw [hk'] at HO
      clear hk'
      obtain ⟨ka, kc, rfl, hkc, hkm⟩ := HO.out.form
      have HK := Lib.hid HO.out.memW
      have hkl : (bindsT l).length = k := by rw [bindsT_len]; exact HBL.out
      rw [hkl] at HK hkc ⊢
      clear hkl HO
      have HX3 := Lib.hid (HX2.out.keep HB.out)
      have HY3 := Lib.hid (HY2.out.keep HB.out)
      have HPW : Hid (MemW wr (.s 4 (Tm.rows p.args)) (.slice pa pn pc)) := Lib.hid (MemW.keep HP.out HBW.out)
      obtain ⟨x0, x1, x2, x3⟩ := HX3.out.c4
      have HCUR := Lib.hid (HBW.out.trans (below_drew wr))
      have HCR : Hid (Below wr.heap.size wr wr.drew) := Lib.hid (below_drew wr)
      have HCZ := Lib.hid (cmpT_self (apT l p))
      go_wp2_with fail
      go_region_held3 (fun w' => w'.cell? ⟨w.heap.size, 0, none⟩ = some (.int .i64 p.kind) ∧ w'.cell? ⟨w.heap.size, 1, none⟩ = some (.string p.name) ∧ w'.cell? ⟨w.heap.size, 2, none⟩ = some (.int .i64 p.n) ∧ w'.cell? ⟨w.heap.size, 3, none⟩ = some (.slice pa pn pc))
        ((repeat' apply And.intro) <;> (repeat (first | with_reducible assumption | with_reducible refine cell_drew ?_ | with_reducible refine cell_alloc _ ?_ | with_reducible refine cell_row_far _ ?_ (by omega) | with_reducible refine cell_below ?_ HCA.out | with_reducible refine cell_below ?_ HCB.out | with_reducible refine cell_below ?_ HCC.out)))
        (first
          | (go_at_call 13
             refine (applyS_any (V := l) (t := p) (B := w.heap.size) _ HPS.out (Mem.keep HBD.out (Nat.le_refl _) HCUR.out) (Mem.keep HP.out (Nat.le_refl _) HCUR.out) HCUR.out.size).mono ?_
             rintro e wa ⟨aA, nA, cA, rfl, hb, hm⟩
             have HCA := Lib.hid hb
             have HMA := Lib.hid (show MemW wa (.s 4 (Tm.rows (apT l p).args)) (.slice aA nA cA) from hm.mono (fun _ hb => hb.2) fun _ _ => rfl)
             (try have HMB := Lib.hid (MemW.keep HMB.out hb))
             have HCUR := Lib.hid (step_b HCUR.out hb)
             have HCR := Lib.hid (step_b HCR.out hb)
             clear hb hm)
          | (go_at_call 14
             refine (applyG_any (V := l) 1048576 p wr.heap.size pn pc k kc pa ka _ HPS.out (Nat.le_refl _) (Mem.keep HK.out (Nat.le_refl _) HCR.out) (Mem.keep HPW.out (Nat.le_refl _) HCR.out) HCR.out.size).mono ?_
             rintro e wb ⟨aB, nB, cB, rfl, hb, hm⟩
             have HCB := Lib.hid hb
             have HMB := Lib.hid (show MemW wb (.s 4 (Tm.rows (apT l p).args)) (.slice aB nB cB) from hm.mono (fun _ hb => hb.2) fun _ _ => rfl)
             (try have HMA := Lib.hid (MemW.keep HMA.out hb))
             have HCUR := Lib.hid (step_b HCUR.out hb)
             have HCR := Lib.hid (step_b HCR.out hb)
             clear hb hm)
          | (go_at_call 12
             refine (compare3_any (apT l p) (apT l p) _ _ _ _ _ _ _ HMA.out HMB.out).mono ?_
             rintro e wc ⟨rfl, hb⟩
             rw [HCZ.out]
             have HCC := Lib.hid hb
             have HCUR := Lib.hid (step_b HCUR.out hb)
             clear hb))
      have HX9 := Lib.hid (((HX3.out.drew.keep HCA.out).keep HCB.out).keep HCC.out)
      have HY9 := Lib.hid (((HY3.out.drew.keep HCA.out).keep HCB.out).keep HCC.out)
      clear x0 x1 x2 x3 HCA HCB HCC HMA HMB HCR HK HPW HX3 HY3
      obtain ⟨x0, x1, x2, x3⟩ := HX9.out.c4
      obtain ⟨y0, y1, y2, y3⟩ := HY9.out.c4
      go_wp2_with fail
      refine (matchS_any wc (MemW.keep HP.out HCUR.out) (MemW.keep HT.out HCUR.out) HPS.out HPO.out).mono ?_
      rintro e w15 ⟨hb, h1, h2⟩
      have HX15 := Lib.hid (HX9.out.keep hb)
      have HY15 := Lib.hid (HY9.out.keep hb)
      have HB15 := Lib.hid (step_b HCUR.out hb)
      have HCUR := Lib.hid (HB15.out.trans (below_drew w15))
      have HCR2 : Hid (Below w15.heap.size w15 w15.drew) := Lib.hid (below_drew w15)
      clear hb x0 x1 x2 x3 y0 y1 y2 y3
      cases hr : (mt p t []).1 with
      | false =>
        have he := h1 hr
        subst he
        clear h1 h2 hr
        go_wp2_with fail
        refine wp_region_held_drew (S := fun w' => Bo w' w.heap.size 24 #[.int .i64 p.kind, .string p.name, .int .i64 p.n, .slice pa pn pc] ∧ Bo w' (w.heap.size + 1) 24 #[.int .i64 t.kind, .string t.name, .int .i64 t.n, .slice ta tn tc]) (by kernel_rfl) ⟨HX15.out.drew, HY15.out.drew⟩ (fun hS0 => ?_)
        refine takeL 0 (v := ?_) rfl (by kernel_rfl) (by kernel_rfl) (by kernel_rfl) (fun _ _ _ h => h) (by rfl) ?_ (by assumption) ?_
        rotate_left
        · (intro w hSw; (try dsimp only at hSw); obtain ⟨gx, gy⟩ := hSw; obtain ⟨x0, x1, x2, x3⟩ := gx.c4; obtain ⟨y0, y1, y2, y3⟩ := gy.c4; clear gx gy; go_simp; try with_reducible rfl)
        try simp only [Act.put, List.setIfInBounds_toArray, List.set_cons_zero, List.set_cons_succ]
        refine takeL 1 (v := ?_) rfl (by kernel_rfl) (by kernel_rfl) (by kernel_rfl) (fun _ _ _ h => h) (by rfl) ?_ (by assumption) ?_
        rotate_left
        · (intro w hSw; (try dsimp only at hSw); obtain ⟨gx, gy⟩ := hSw; obtain ⟨x0, x1, x2, x3⟩ := gx.c4; obtain ⟨y0, y1, y2, y3⟩ := gy.c4; clear gx gy; go_simp; try with_reducible rfl)
        try simp only [Act.put, List.setIfInBounds_toArray, List.set_cons_zero, List.set_cons_succ]
        refine takeL 2 (v := ?_) rfl (by kernel_rfl) (by kernel_rfl) (by kernel_rfl) (fun _ _ _ h => h) (by rfl) ?_ (by assumption) ?_
        rotate_left
        · (intro w hSw; (try dsimp only at hSw); obtain ⟨gx, gy⟩ := hSw; obtain ⟨x0, x1, x2, x3⟩ := gx.c4; obtain ⟨y0, y1, y2, y3⟩ := gy.c4; clear gx gy; go_simp; try with_reducible rfl)
        try simp only [Act.put, List.setIfInBounds_toArray, List.set_cons_zero, List.set_cons_succ]
        refine skipL 3 rfl (by kernel_rfl) (by kernel_rfl) (by kernel_rfl) (fun _ _ _ h => h) (by rfl) (by assumption) ?_
        try simp only [Act.put, List.setIfInBounds_toArray, List.set_cons_zero, List.set_cons_succ]
        refine skipCallL 4 rfl (by kernel_rfl) (by rfl) (by assumption) ?_
        try simp only [Act.put, List.setIfInBounds_toArray, List.set_cons_zero, List.set_cons_succ]
        refine skipL 5 rfl (by kernel_rfl) (by kernel_rfl) (by kernel_rfl) (fun _ _ _ h => h) (by rfl) (by assumption) ?_
        try simp only [Act.put, List.setIfInBounds_toArray, List.set_cons_zero, List.set_cons_succ]
        refine skipL 6 rfl (by kernel_rfl) (by kernel_rfl) (by kernel_rfl) (fun _ _ _ h => h) (by rfl) (by assumption) ?_
        try simp only [Act.put, List.setIfInBounds_toArray, List.set_cons_zero, List.set_cons_succ]
        refine skipCallL 7 rfl (by kernel_rfl) (by rfl) (by assumption) ?_
        try simp only [Act.put, List.setIfInBounds_toArray, List.set_cons_zero, List.set_cons_succ]
        refine skipL 8 rfl (by kernel_rfl) (by kernel_rfl) (by kernel_rfl) (fun _ _ _ h => h) (by rfl) (by assumption) ?_
        try simp only [Act.put, List.setIfInBounds_toArray, List.set_cons_zero, List.set_cons_succ]
        refine skipL 9 rfl (by kernel_rfl) (by kernel_rfl) (by kernel_rfl) (fun _ _ _ h => h) (by rfl) (by assumption) ?_
        try simp only [Act.put, List.setIfInBounds_toArray, List.set_cons_zero, List.set_cons_succ]
        refine skipL 10 rfl (by kernel_rfl) (by kernel_rfl) (by kernel_rfl) (fun _ _ _ h => h) (by rfl) (by assumption) ?_
        try simp only [Act.put, List.setIfInBounds_toArray, List.set_cons_zero, List.set_cons_succ]
        refine skipL 11 rfl (by kernel_rfl) (by kernel_rfl) (by kernel_rfl) (fun _ _ _ h => h) (by rfl) (by assumption) ?_
        try simp only [Act.put, List.setIfInBounds_toArray, List.set_cons_zero, List.set_cons_succ]
        refine skipL 13 rfl (by kernel_rfl) (by kernel_rfl) (by kernel_rfl) (fun _ _ _ h => h) (by rfl) (by assumption) ?_
        try simp only [Act.put, List.setIfInBounds_toArray, List.set_cons_zero, List.set_cons_succ]
        refine skipCallL 12 rfl (by kernel_rfl) (by rfl) (by assumption) ?_
        try simp only [Act.put, List.setIfInBounds_toArray, List.set_cons_zero, List.set_cons_succ]
        refine skipCallL 14 rfl (by kernel_rfl) (by rfl) (by assumption) ?_
        try simp only [Act.put, List.setIfInBounds_toArray, List.set_cons_zero, List.set_cons_succ]
        refine skipL 15 rfl (by kernel_rfl) (by kernel_rfl) (by kernel_rfl) (fun _ _ _ h => h) (by rfl) (by assumption) ?_
        try simp only [Act.put, List.setIfInBounds_toArray, List.set_cons_zero, List.set_cons_succ]
        refine skipL 16 rfl (by kernel_rfl) (by kernel_rfl) (by kernel_rfl) (fun _ _ _ h => h) (by rfl) (by assumption) ?_
        try simp only [Act.put, List.setIfInBounds_toArray, List.set_cons_zero, List.set_cons_succ]
        refine takeL 17 (v := ?_) rfl (by kernel_rfl) (by kernel_rfl) (by kernel_rfl) (fun _ _ _ h => h) (by rfl) ?_ (by assumption) ?_
        rotate_left
        · (intro w hSw; (try dsimp only at hSw); obtain ⟨gx, gy⟩ := hSw; obtain ⟨x0, x1, x2, x3⟩ := gx.c4; obtain ⟨y0, y1, y2, y3⟩ := gy.c4; clear gx gy; go_simp; try with_reducible rfl)
        try simp only [Act.put, List.setIfInBounds_toArray, List.set_cons_zero, List.set_cons_succ]
        refine takeL 18 (v := ?_) rfl (by kernel_rfl) (by kernel_rfl) (by kernel_rfl) (fun _ _ _ h => h) (by rfl) ?_ (by assumption) ?_
        rotate_left
        · (intro w hSw; (try dsimp only at hSw); obtain ⟨gx, gy⟩ := hSw; obtain ⟨x0, x1, x2, x3⟩ := gx.c4; obtain ⟨y0, y1, y2, y3⟩ := gy.c4; clear gx gy; go_simp; try with_reducible rfl)
        try simp only [Act.put, List.setIfInBounds_toArray, List.set_cons_zero, List.set_cons_succ]
        refine skipL 19 rfl (by kernel_rfl) (by kernel_rfl) (by kernel_rfl) (fun _ _ _ h => h) (by rfl) (by assumption) ?_
        try simp only [Act.put, List.setIfInBounds_toArray, List.set_cons_zero, List.set_cons_succ]
        refine skipCallL 20 rfl (by kernel_rfl) (by rfl) (by assumption) ?_
        try simp only [Act.put, List.setIfInBounds_toArray, List.set_cons_zero, List.set_cons_succ]
        refine skipL 21 rfl (by kernel_rfl) (by kernel_rfl) (by kernel_rfl) (fun _ _ _ h => h) (by rfl) (by assumption) ?_
        try simp only [Act.put, List.setIfInBounds_toArray, List.set_cons_zero, List.set_cons_succ]
        refine takeL 22 (v := ?_) rfl (by kernel_rfl) (by kernel_rfl) (by kernel_rfl) (fun _ _ _ h => h) (by rfl) ?_ (by assumption) ?_
        rotate_left
        · (intro w hSw; (try dsimp only at hSw); obtain ⟨gx, gy⟩ := hSw; obtain ⟨x0, x1, x2, x3⟩ := gx.c4; obtain ⟨y0, y1, y2, y3⟩ := gy.c4; clear gx gy; go_simp; try with_reducible rfl)
        try simp only [Act.put, List.setIfInBounds_toArray, List.set_cons_zero, List.set_cons_succ]
        refine takeL 23 (v := ?_) rfl (by kernel_rfl) (by kernel_rfl) (by kernel_rfl) (fun _ _ _ h => h) (by rfl) ?_ (by assumption) ?_
        rotate_left
        · (intro w hSw; (try dsimp only at hSw); obtain ⟨gx, gy⟩ := hSw; obtain ⟨x0, x1, x2, x3⟩ := gx.c4; obtain ⟨y0, y1, y2, y3⟩ := gy.c4; clear gx gy; go_simp; try with_reducible rfl)
        try simp only [Act.put, List.setIfInBounds_toArray, List.set_cons_zero, List.set_cons_succ]
        refine skipL 24 rfl (by kernel_rfl) (by kernel_rfl) (by kernel_rfl) (fun _ _ _ h => h) (by rfl) (by assumption) ?_
        try simp only [Act.put, List.setIfInBounds_toArray, List.set_cons_zero, List.set_cons_succ]
        refine skipCallL 25 rfl (by kernel_rfl) (by rfl) (by assumption) ?_
        try simp only [Act.put, List.setIfInBounds_toArray, List.set_cons_zero, List.set_cons_succ]
        refine skipL 26 rfl (by kernel_rfl) (by kernel_rfl) (by kernel_rfl) (fun _ _ _ h => h) (by rfl) (by assumption) ?_
        try simp only [Act.put, List.setIfInBounds_toArray, List.set_cons_zero, List.set_cons_succ]
        refine takeL 27 (v := ?_) rfl (by kernel_rfl) (by kernel_rfl) (by kernel_rfl) (fun _ _ _ h => h) (by rfl) ?_ (by assumption) ?_
        rotate_left
        · (intro w hSw; (try dsimp only at hSw); obtain ⟨gx, gy⟩ := hSw; obtain ⟨x0, x1, x2, x3⟩ := gx.c4; obtain ⟨y0, y1, y2, y3⟩ := gy.c4; clear gx gy; go_simp; try with_reducible rfl)
        try simp only [Act.put, List.setIfInBounds_toArray, List.set_cons_zero, List.set_cons_succ]
        refine takeL 28 (v := ?_) rfl (by kernel_rfl) (by kernel_rfl) (by kernel_rfl) (fun _ _ _ h => h) (by rfl) ?_ (by assumption) ?_
        rotate_left
        · (intro w hSw; (try dsimp only at hSw); obtain ⟨gx, gy⟩ := hSw; obtain ⟨x0, x1, x2, x3⟩ := gx.c4; obtain ⟨y0, y1, y2, y3⟩ := gy.c4; clear gx gy; go_simp; try with_reducible rfl)
        try simp only [Act.put, List.setIfInBounds_toArray, List.set_cons_zero, List.set_cons_succ]
        refine wpAnyH_done (by kernel_rfl) ?_ _
        go_wp2_with fail
        go_ret
        exact ⟨rfl, HCUR.out⟩
      | true =>
        obtain ⟨lm, am, nm, cm, rfl, hperm, hmem⟩ := h2 hr
        have HLM := Lib.hid hmem
        have HP15 : Hid (MemW w15 (.s 4 (Tm.rows p.args)) (.slice pa pn pc)) := Lib.hid (MemW.keep HP.out HB15.out)
        clear h1 h2 hmem
        by_cases hpp : plainB p = false
        · have HPP := Lib.hid hpp
          clear hpp hr hperm
          go_wp2_with fail
          refine wp_region_held_drew (S := fun w' => Bo w' w.heap.size 24 #[.int .i64 p.kind, .string p.name, .int .i64 p.n, .slice pa pn pc] ∧ Bo w' (w.heap.size + 1) 24 #[.int .i64 t.kind, .string t.name, .int .i64 t.n, .slice ta tn tc]) (by kernel_rfl) ⟨HX15.out.drew, HY15.out.drew⟩ (fun hS0 => ?_)
          refine takeL 0 (v := ?_) rfl (by kernel_rfl) (by kernel_rfl) (by kernel_rfl) (fun _ _ _ h => h) (by rfl) ?_ (by assumption) ?_
          rotate_left
          · (intro w hSw; (try dsimp only at hSw); obtain ⟨gx, gy⟩ := hSw; obtain ⟨x0, x1, x2, x3⟩ := gx.c4; obtain ⟨y0, y1, y2, y3⟩ := gy.c4; clear gx gy; go_simp; try with_reducible rfl)
          try simp only [Act.put, List.setIfInBounds_toArray, List.set_cons_zero, List.set_cons_succ]
          refine takeL 1 (v := ?_) rfl (by kernel_rfl) (by kernel_rfl) (by kernel_rfl) (fun _ _ _ h => h) (by rfl) ?_ (by assumption) ?_
          rotate_left
          · (intro w hSw; (try dsimp only at hSw); obtain ⟨gx, gy⟩ := hSw; obtain ⟨x0, x1, x2, x3⟩ := gx.c4; obtain ⟨y0, y1, y2, y3⟩ := gy.c4; clear gx gy; go_simp; try with_reducible rfl)
          try simp only [Act.put, List.setIfInBounds_toArray, List.set_cons_zero, List.set_cons_succ]
          refine takeL 2 (v := ?_) rfl (by kernel_rfl) (by kernel_rfl) (by kernel_rfl) (fun _ _ _ h => h) (by rfl) ?_ (by assumption) ?_
          rotate_left
          · (intro w hSw; (try dsimp only at hSw); obtain ⟨gx, gy⟩ := hSw; obtain ⟨x0, x1, x2, x3⟩ := gx.c4; obtain ⟨y0, y1, y2, y3⟩ := gy.c4; clear gx gy; go_simp; try with_reducible rfl)
          try simp only [Act.put, List.setIfInBounds_toArray, List.set_cons_zero, List.set_cons_succ]
          refine takeL 3 (v := ?_) rfl (by kernel_rfl) (by kernel_rfl) (by kernel_rfl) (fun _ _ _ h => h) (by rfl) ?_ (by assumption) ?_
          rotate_left
          · (intro w hSw; (try dsimp only at hSw); obtain ⟨gx, gy⟩ := hSw; obtain ⟨x0, x1, x2, x3⟩ := gx.c4; obtain ⟨y0, y1, y2, y3⟩ := gy.c4; clear gx gy; go_simp; try with_reducible rfl)
          try simp only [Act.put, List.setIfInBounds_toArray, List.set_cons_zero, List.set_cons_succ]
          refine callL 4 rfl (by kernel_rfl) (by rfl) (fun K hK => ?_)
          go_simp
          refine (plain4_any (t := p) _ (MemW.keep HP.out HCUR.out) HPS.out).mono ?_
          rintro e wx1 ⟨rfl, hb⟩
          rw [HPP.out]
          have HC1 := Lib.hid hb
          have HCUR := Lib.hid (step_b HCUR.out hb)
          have HCR2 := Lib.hid (step_b HCR2.out hb)
          clear hb
          go_simp
          refine hK.out _ _ ?_ (fun hS1 => ?_)
          · exact ⟨hS0.1.keep HC1.out, hS0.2.keep HC1.out⟩
          clear hK K
          refine takeL 5 (v := ?_) rfl (by kernel_rfl) (by kernel_rfl) (by kernel_rfl) (fun _ _ _ h => h) (by rfl) ?_ (by assumption) ?_
          rotate_left
          · (intro w hSw; (try dsimp only at hSw); obtain ⟨gx, gy⟩ := hSw; obtain ⟨x0, x1, x2, x3⟩ := gx.c4; obtain ⟨y0, y1, y2, y3⟩ := gy.c4; clear gx gy; go_simp; try with_reducible rfl)
          try simp only [Act.put, List.setIfInBounds_toArray, List.set_cons_zero, List.set_cons_succ]
          refine skipL 6 rfl (by kernel_rfl) (by kernel_rfl) (by kernel_rfl) (fun _ _ _ h => h) (by rfl) (by assumption) ?_
          try simp only [Act.put, List.setIfInBounds_toArray, List.set_cons_zero, List.set_cons_succ]
          refine skipCallL 7 rfl (by kernel_rfl) (by rfl) (by assumption) ?_
          try simp only [Act.put, List.setIfInBounds_toArray, List.set_cons_zero, List.set_cons_succ]
          refine takeL 8 (v := ?_) rfl (by kernel_rfl) (by kernel_rfl) (by kernel_rfl) (fun _ _ _ h => h) (by rfl) ?_ (by assumption) ?_
          rotate_left
          · (intro w hSw; (try dsimp only at hSw); obtain ⟨gx, gy⟩ := hSw; obtain ⟨x0, x1, x2, x3⟩ := gx.c4; obtain ⟨y0, y1, y2, y3⟩ := gy.c4; clear gx gy; go_simp; try with_reducible rfl)
          try simp only [Act.put, List.setIfInBounds_toArray, List.set_cons_zero, List.set_cons_succ]
          refine takeL 9 (v := ?_) rfl (by kernel_rfl) (by kernel_rfl) (by kernel_rfl) (fun _ _ _ h => h) (by rfl) ?_ (by assumption) ?_
          rotate_left
          · (intro w hSw; (try dsimp only at hSw); obtain ⟨gx, gy⟩ := hSw; obtain ⟨x0, x1, x2, x3⟩ := gx.c4; obtain ⟨y0, y1, y2, y3⟩ := gy.c4; clear gx gy; go_simp; try with_reducible rfl)
          try simp only [Act.put, List.setIfInBounds_toArray, List.set_cons_zero, List.set_cons_succ]
          refine skipL 10 rfl (by kernel_rfl) (by kernel_rfl) (by kernel_rfl) (fun _ _ _ h => h) (by rfl) (by assumption) ?_
          try simp only [Act.put, List.setIfInBounds_toArray, List.set_cons_zero, List.set_cons_succ]
          refine skipL 11 rfl (by kernel_rfl) (by kernel_rfl) (by kernel_rfl) (fun _ _ _ h => h) (by rfl) (by assumption) ?_
          try simp only [Act.put, List.setIfInBounds_toArray, List.set_cons_zero, List.set_cons_succ]
          refine skipL 13 rfl (by kernel_rfl) (by kernel_rfl) (by kernel_rfl) (fun _ _ _ h => h) (by rfl) (by assumption) ?_
          try simp only [Act.put, List.setIfInBounds_toArray, List.set_cons_zero, List.set_cons_succ]
          refine skipCallL 12 rfl (by kernel_rfl) (by rfl) (by assumption) ?_
          try simp only [Act.put, List.setIfInBounds_toArray, List.set_cons_zero, List.set_cons_succ]
          refine skipCallL 14 rfl (by kernel_rfl) (by rfl) (by assumption) ?_
          try simp only [Act.put, List.setIfInBounds_toArray, List.set_cons_zero, List.set_cons_succ]
          refine skipL 15 rfl (by kernel_rfl) (by kernel_rfl) (by kernel_rfl) (fun _ _ _ h => h) (by rfl) (by assumption) ?_
          try simp only [Act.put, List.setIfInBounds_toArray, List.set_cons_zero, List.set_cons_succ]
          refine takeL 16 (v := ?_) rfl (by kernel_rfl) (by kernel_rfl) (by kernel_rfl) (fun _ _ _ h => h) (by rfl) ?_ (by assumption) ?_
          rotate_left
          · (intro w hSw; (try dsimp only at hSw); obtain ⟨gx, gy⟩ := hSw; obtain ⟨x0, x1, x2, x3⟩ := gx.c4; obtain ⟨y0, y1, y2, y3⟩ := gy.c4; clear gx gy; go_simp; try with_reducible rfl)
          try simp only [Act.put, List.setIfInBounds_toArray, List.set_cons_zero, List.set_cons_succ]
          refine takeL 17 (v := ?_) rfl (by kernel_rfl) (by kernel_rfl) (by kernel_rfl) (fun _ _ _ h => h) (by rfl) ?_ (by assumption) ?_
          rotate_left
          · (intro w hSw; (try dsimp only at hSw); obtain ⟨gx, gy⟩ := hSw; obtain ⟨x0, x1, x2, x3⟩ := gx.c4; obtain ⟨y0, y1, y2, y3⟩ := gy.c4; clear gx gy; go_simp; try with_reducible rfl)
          try simp only [Act.put, List.setIfInBounds_toArray, List.set_cons_zero, List.set_cons_succ]
          refine takeL 18 (v := ?_) rfl (by kernel_rfl) (by kernel_rfl) (by kernel_rfl) (fun _ _ _ h => h) (by rfl) ?_ (by assumption) ?_
          rotate_left
          · (intro w hSw; (try dsimp only at hSw); obtain ⟨gx, gy⟩ := hSw; obtain ⟨x0, x1, x2, x3⟩ := gx.c4; obtain ⟨y0, y1, y2, y3⟩ := gy.c4; clear gx gy; go_simp; try with_reducible rfl)
          try simp only [Act.put, List.setIfInBounds_toArray, List.set_cons_zero, List.set_cons_succ]
          refine takeL 19 (v := ?_) rfl (by kernel_rfl) (by kernel_rfl) (by kernel_rfl) (fun _ _ _ h => h) (by rfl) ?_ (by assumption) ?_
          rotate_left
          · (intro w hSw; (try dsimp only at hSw); obtain ⟨gx, gy⟩ := hSw; obtain ⟨x0, x1, x2, x3⟩ := gx.c4; obtain ⟨y0, y1, y2, y3⟩ := gy.c4; clear gx gy; go_simp; try with_reducible rfl)
          try simp only [Act.put, List.setIfInBounds_toArray, List.set_cons_zero, List.set_cons_succ]
          refine callL 20 rfl (by kernel_rfl) (by rfl) (fun K hK => ?_)
          go_simp
          refine (plain4_any (t := p) _ (MemW.keep HP.out HCUR.out) HPS.out).mono ?_
          rintro e wx2 ⟨rfl, hb⟩
          rw [HPP.out]
          have HC2 := Lib.hid hb
          have HCUR := Lib.hid (step_b HCUR.out hb)
          have HCR2 := Lib.hid (step_b HCR2.out hb)
          clear hb
          go_simp
          refine hK.out _ _ ?_ (fun hS2 => ?_)
          · exact ⟨hS1.1.keep HC2.out, hS1.2.keep HC2.out⟩
          clear hK K
          refine takeL 21 (v := ?_) rfl (by kernel_rfl) (by kernel_rfl) (by kernel_rfl) (fun _ _ _ h => h) (by rfl) ?_ (by assumption) ?_
          rotate_left
          · (intro w hSw; (try dsimp only at hSw); obtain ⟨gx, gy⟩ := hSw; obtain ⟨x0, x1, x2, x3⟩ := gx.c4; obtain ⟨y0, y1, y2, y3⟩ := gy.c4; clear gx gy; go_simp; try with_reducible rfl)
          try simp only [Act.put, List.setIfInBounds_toArray, List.set_cons_zero, List.set_cons_succ]
          refine takeL 22 (v := ?_) rfl (by kernel_rfl) (by kernel_rfl) (by kernel_rfl) (fun _ _ _ h => h) (by rfl) ?_ (by assumption) ?_
          rotate_left
          · (intro w hSw; (try dsimp only at hSw); obtain ⟨gx, gy⟩ := hSw; obtain ⟨x0, x1, x2, x3⟩ := gx.c4; obtain ⟨y0, y1, y2, y3⟩ := gy.c4; clear gx gy; go_simp; try with_reducible rfl)
          try simp only [Act.put, List.setIfInBounds_toArray, List.set_cons_zero, List.set_cons_succ]
          refine takeL 23 (v := ?_) rfl (by kernel_rfl) (by kernel_rfl) (by kernel_rfl) (fun _ _ _ h => h) (by rfl) ?_ (by assumption) ?_
          rotate_left
          · (intro w hSw; (try dsimp only at hSw); obtain ⟨gx, gy⟩ := hSw; obtain ⟨x0, x1, x2, x3⟩ := gx.c4; obtain ⟨y0, y1, y2, y3⟩ := gy.c4; clear gx gy; go_simp; try with_reducible rfl)
          try simp only [Act.put, List.setIfInBounds_toArray, List.set_cons_zero, List.set_cons_succ]
          refine skipL 24 rfl (by kernel_rfl) (by kernel_rfl) (by kernel_rfl) (fun _ _ _ h => h) (by rfl) (by assumption) ?_
          try simp only [Act.put, List.setIfInBounds_toArray, List.set_cons_zero, List.set_cons_succ]
          refine skipCallL 25 rfl (by kernel_rfl) (by rfl) (by assumption) ?_
          try simp only [Act.put, List.setIfInBounds_toArray, List.set_cons_zero, List.set_cons_succ]
          refine skipL 26 rfl (by kernel_rfl) (by kernel_rfl) (by kernel_rfl) (fun _ _ _ h => h) (by rfl) (by assumption) ?_
          try simp only [Act.put, List.setIfInBounds_toArray, List.set_cons_zero, List.set_cons_succ]
          refine takeL 27 (v := ?_) rfl (by kernel_rfl) (by kernel_rfl) (by kernel_rfl) (fun _ _ _ h => h) (by rfl) ?_ (by assumption) ?_
          rotate_left
          · (intro w hSw; (try dsimp only at hSw); obtain ⟨gx, gy⟩ := hSw; obtain ⟨x0, x1, x2, x3⟩ := gx.c4; obtain ⟨y0, y1, y2, y3⟩ := gy.c4; clear gx gy; go_simp; try with_reducible rfl)
          try simp only [Act.put, List.setIfInBounds_toArray, List.set_cons_zero, List.set_cons_succ]
          refine takeL 28 (v := ?_) rfl (by kernel_rfl) (by kernel_rfl) (by kernel_rfl) (fun _ _ _ h => h) (by rfl) ?_ (by assumption) ?_
          rotate_left
          · (intro w hSw; (try dsimp only at hSw); obtain ⟨gx, gy⟩ := hSw; obtain ⟨x0, x1, x2, x3⟩ := gx.c4; obtain ⟨y0, y1, y2, y3⟩ := gy.c4; clear gx gy; go_simp; try with_reducible rfl)
          try simp only [Act.put, List.setIfInBounds_toArray, List.set_cons_zero, List.set_cons_succ]
          refine wpAnyH_done (by kernel_rfl) ?_ _
          go_wp2_with fail
          go_ret
          exact ⟨rfl, HCUR.out⟩
        · have hpp' : plainB p = true := by simpa using hpp
          by_cases hpt : plainB t = false
          · have HPP := Lib.hid hpp'
            have HPT := Lib.hid hpt
            clear hpp hpp' hpt hr hperm
            go_wp2_with fail
            refine wp_region_held_drew (S := fun w' => Bo w' w.heap.size 24 #[.int .i64 p.kind, .string p.name, .int .i64 p.n, .slice pa pn pc] ∧ Bo w' (w.heap.size + 1) 24 #[.int .i64 t.kind, .string t.name, .int .i64 t.n, .slice ta tn tc]) (by kernel_rfl) ⟨HX15.out.drew, HY15.out.drew⟩ (fun hS0 => ?_)
            refine takeL 0 (v := ?_) rfl (by kernel_rfl) (by kernel_rfl) (by kernel_rfl) (fun _ _ _ h => h) (by rfl) ?_ (by assumption) ?_
            rotate_left
            · (intro w hSw; (try dsimp only at hSw); obtain ⟨gx, gy⟩ := hSw; obtain ⟨x0, x1, x2, x3⟩ := gx.c4; obtain ⟨y0, y1, y2, y3⟩ := gy.c4; clear gx gy; go_simp; try with_reducible rfl)
            try simp only [Act.put, List.setIfInBounds_toArray, List.set_cons_zero, List.set_cons_succ]
            refine takeL 1 (v := ?_) rfl (by kernel_rfl) (by kernel_rfl) (by kernel_rfl) (fun _ _ _ h => h) (by rfl) ?_ (by assumption) ?_
            rotate_left
            · (intro w hSw; (try dsimp only at hSw); obtain ⟨gx, gy⟩ := hSw; obtain ⟨x0, x1, x2, x3⟩ := gx.c4; obtain ⟨y0, y1, y2, y3⟩ := gy.c4; clear gx gy; go_simp; try with_reducible rfl)
            try simp only [Act.put, List.setIfInBounds_toArray, List.set_cons_zero, List.set_cons_succ]
            refine takeL 2 (v := ?_) rfl (by kernel_rfl) (by kernel_rfl) (by kernel_rfl) (fun _ _ _ h => h) (by rfl) ?_ (by assumption) ?_
            rotate_left
            · (intro w hSw; (try dsimp only at hSw); obtain ⟨gx, gy⟩ := hSw; obtain ⟨x0, x1, x2, x3⟩ := gx.c4; obtain ⟨y0, y1, y2, y3⟩ := gy.c4; clear gx gy; go_simp; try with_reducible rfl)
            try simp only [Act.put, List.setIfInBounds_toArray, List.set_cons_zero, List.set_cons_succ]
            refine takeL 3 (v := ?_) rfl (by kernel_rfl) (by kernel_rfl) (by kernel_rfl) (fun _ _ _ h => h) (by rfl) ?_ (by assumption) ?_
            rotate_left
            · (intro w hSw; (try dsimp only at hSw); obtain ⟨gx, gy⟩ := hSw; obtain ⟨x0, x1, x2, x3⟩ := gx.c4; obtain ⟨y0, y1, y2, y3⟩ := gy.c4; clear gx gy; go_simp; try with_reducible rfl)
            try simp only [Act.put, List.setIfInBounds_toArray, List.set_cons_zero, List.set_cons_succ]
            refine callL 4 rfl (by kernel_rfl) (by rfl) (fun K hK => ?_)
            go_simp
            refine (plain4_any (t := p) _ (MemW.keep HP.out HCUR.out) HPS.out).mono ?_
            rintro e wx1 ⟨rfl, hb⟩
            rw [HPP.out]
            have HC1 := Lib.hid hb
            have HCUR := Lib.hid (step_b HCUR.out hb)
            have HCR2 := Lib.hid (step_b HCR2.out hb)
            clear hb
            go_simp
            refine hK.out _ _ ?_ (fun hS1 => ?_)
            · exact ⟨hS0.1.keep HC1.out, hS0.2.keep HC1.out⟩
            clear hK K
            refine takeL 5 (v := ?_) rfl (by kernel_rfl) (by kernel_rfl) (by kernel_rfl) (fun _ _ _ h => h) (by rfl) ?_ (by assumption) ?_
            rotate_left
            · (intro w hSw; (try dsimp only at hSw); obtain ⟨gx, gy⟩ := hSw; obtain ⟨x0, x1, x2, x3⟩ := gx.c4; obtain ⟨y0, y1, y2, y3⟩ := gy.c4; clear gx gy; go_simp; try with_reducible rfl)
            try simp only [Act.put, List.setIfInBounds_toArray, List.set_cons_zero, List.set_cons_succ]
            refine takeL 6 (v := ?_) rfl (by kernel_rfl) (by kernel_rfl) (by kernel_rfl) (fun _ _ _ h => h) (by rfl) ?_ (by assumption) ?_
            rotate_left
            · (intro w hSw; (try dsimp only at hSw); obtain ⟨gx, gy⟩ := hSw; obtain ⟨x0, x1, x2, x3⟩ := gx.c4; obtain ⟨y0, y1, y2, y3⟩ := gy.c4; clear gx gy; go_simp; try with_reducible rfl)
            try simp only [Act.put, List.setIfInBounds_toArray, List.set_cons_zero, List.set_cons_succ]
            refine callL 7 rfl (by kernel_rfl) (by rfl) (fun K hK => ?_)
            go_simp
            refine (plain4_any (t := t) _ (MemW.keep HT.out HCUR.out) HTS.out).mono ?_
            rintro e wx2 ⟨rfl, hb⟩
            rw [HPT.out]
            have HC2 := Lib.hid hb
            have HCUR := Lib.hid (step_b HCUR.out hb)
            have HCR2 := Lib.hid (step_b HCR2.out hb)
            clear hb
            go_simp
            refine hK.out _ _ ?_ (fun hS2 => ?_)
            · exact ⟨hS1.1.keep HC2.out, hS1.2.keep HC2.out⟩
            clear hK K
            refine takeL 8 (v := ?_) rfl (by kernel_rfl) (by kernel_rfl) (by kernel_rfl) (fun _ _ _ h => h) (by rfl) ?_ (by assumption) ?_
            rotate_left
            · (intro w hSw; (try dsimp only at hSw); obtain ⟨gx, gy⟩ := hSw; obtain ⟨x0, x1, x2, x3⟩ := gx.c4; obtain ⟨y0, y1, y2, y3⟩ := gy.c4; clear gx gy; go_simp; try with_reducible rfl)
            try simp only [Act.put, List.setIfInBounds_toArray, List.set_cons_zero, List.set_cons_succ]
            refine takeL 9 (v := ?_) rfl (by kernel_rfl) (by kernel_rfl) (by kernel_rfl) (fun _ _ _ h => h) (by rfl) ?_ (by assumption) ?_
            rotate_left
            · (intro w hSw; (try dsimp only at hSw); obtain ⟨gx, gy⟩ := hSw; obtain ⟨x0, x1, x2, x3⟩ := gx.c4; obtain ⟨y0, y1, y2, y3⟩ := gy.c4; clear gx gy; go_simp; try with_reducible rfl)
            try simp only [Act.put, List.setIfInBounds_toArray, List.set_cons_zero, List.set_cons_succ]
            refine skipL 10 rfl (by kernel_rfl) (by kernel_rfl) (by kernel_rfl) (fun _ _ _ h => h) (by rfl) (by assumption) ?_
            try simp only [Act.put, List.setIfInBounds_toArray, List.set_cons_zero, List.set_cons_succ]
            refine skipL 11 rfl (by kernel_rfl) (by kernel_rfl) (by kernel_rfl) (fun _ _ _ h => h) (by rfl) (by assumption) ?_
            try simp only [Act.put, List.setIfInBounds_toArray, List.set_cons_zero, List.set_cons_succ]
            refine skipL 13 rfl (by kernel_rfl) (by kernel_rfl) (by kernel_rfl) (fun _ _ _ h => h) (by rfl) (by assumption) ?_
            try simp only [Act.put, List.setIfInBounds_toArray, List.set_cons_zero, List.set_cons_succ]
            refine skipCallL 12 rfl (by kernel_rfl) (by rfl) (by assumption) ?_
            try simp only [Act.put, List.setIfInBounds_toArray, List.set_cons_zero, List.set_cons_succ]
            refine skipCallL 14 rfl (by kernel_rfl) (by rfl) (by assumption) ?_
            try simp only [Act.put, List.setIfInBounds_toArray, List.set_cons_zero, List.set_cons_succ]
            refine skipL 15 rfl (by kernel_rfl) (by kernel_rfl) (by kernel_rfl) (fun _ _ _ h => h) (by rfl) (by assumption) ?_
            try simp only [Act.put, List.setIfInBounds_toArray, List.set_cons_zero, List.set_cons_succ]
            refine takeL 16 (v := ?_) rfl (by kernel_rfl) (by kernel_rfl) (by kernel_rfl) (fun _ _ _ h => h) (by rfl) ?_ (by assumption) ?_
            rotate_left
            · (intro w hSw; (try dsimp only at hSw); obtain ⟨gx, gy⟩ := hSw; obtain ⟨x0, x1, x2, x3⟩ := gx.c4; obtain ⟨y0, y1, y2, y3⟩ := gy.c4; clear gx gy; go_simp; try with_reducible rfl)
            try simp only [Act.put, List.setIfInBounds_toArray, List.set_cons_zero, List.set_cons_succ]
            refine takeL 17 (v := ?_) rfl (by kernel_rfl) (by kernel_rfl) (by kernel_rfl) (fun _ _ _ h => h) (by rfl) ?_ (by assumption) ?_
            rotate_left
            · (intro w hSw; (try dsimp only at hSw); obtain ⟨gx, gy⟩ := hSw; obtain ⟨x0, x1, x2, x3⟩ := gx.c4; obtain ⟨y0, y1, y2, y3⟩ := gy.c4; clear gx gy; go_simp; try with_reducible rfl)
            try simp only [Act.put, List.setIfInBounds_toArray, List.set_cons_zero, List.set_cons_succ]
            refine takeL 18 (v := ?_) rfl (by kernel_rfl) (by kernel_rfl) (by kernel_rfl) (fun _ _ _ h => h) (by rfl) ?_ (by assumption) ?_
            rotate_left
            · (intro w hSw; (try dsimp only at hSw); obtain ⟨gx, gy⟩ := hSw; obtain ⟨x0, x1, x2, x3⟩ := gx.c4; obtain ⟨y0, y1, y2, y3⟩ := gy.c4; clear gx gy; go_simp; try with_reducible rfl)
            try simp only [Act.put, List.setIfInBounds_toArray, List.set_cons_zero, List.set_cons_succ]
            refine takeL 19 (v := ?_) rfl (by kernel_rfl) (by kernel_rfl) (by kernel_rfl) (fun _ _ _ h => h) (by rfl) ?_ (by assumption) ?_
            rotate_left
            · (intro w hSw; (try dsimp only at hSw); obtain ⟨gx, gy⟩ := hSw; obtain ⟨x0, x1, x2, x3⟩ := gx.c4; obtain ⟨y0, y1, y2, y3⟩ := gy.c4; clear gx gy; go_simp; try with_reducible rfl)
            try simp only [Act.put, List.setIfInBounds_toArray, List.set_cons_zero, List.set_cons_succ]
            refine callL 20 rfl (by kernel_rfl) (by rfl) (fun K hK => ?_)
            go_simp
            refine (plain4_any (t := p) _ (MemW.keep HP.out HCUR.out) HPS.out).mono ?_
            rintro e wx3 ⟨rfl, hb⟩
            rw [HPP.out]
            have HC3 := Lib.hid hb
            have HCUR := Lib.hid (step_b HCUR.out hb)
            have HCR2 := Lib.hid (step_b HCR2.out hb)
            clear hb
            go_simp
            refine hK.out _ _ ?_ (fun hS3 => ?_)
            · exact ⟨hS2.1.keep HC3.out, hS2.2.keep HC3.out⟩
            clear hK K
            refine takeL 21 (v := ?_) rfl (by kernel_rfl) (by kernel_rfl) (by kernel_rfl) (fun _ _ _ h => h) (by rfl) ?_ (by assumption) ?_
            rotate_left
            · (intro w hSw; (try dsimp only at hSw); obtain ⟨gx, gy⟩ := hSw; obtain ⟨x0, x1, x2, x3⟩ := gx.c4; obtain ⟨y0, y1, y2, y3⟩ := gy.c4; clear gx gy; go_simp; try with_reducible rfl)
            try simp only [Act.put, List.setIfInBounds_toArray, List.set_cons_zero, List.set_cons_succ]
            refine takeL 22 (v := ?_) rfl (by kernel_rfl) (by kernel_rfl) (by kernel_rfl) (fun _ _ _ h => h) (by rfl) ?_ (by assumption) ?_
            rotate_left
            · (intro w hSw; (try dsimp only at hSw); obtain ⟨gx, gy⟩ := hSw; obtain ⟨x0, x1, x2, x3⟩ := gx.c4; obtain ⟨y0, y1, y2, y3⟩ := gy.c4; clear gx gy; go_simp; try with_reducible rfl)
            try simp only [Act.put, List.setIfInBounds_toArray, List.set_cons_zero, List.set_cons_succ]
            refine takeL 23 (v := ?_) rfl (by kernel_rfl) (by kernel_rfl) (by kernel_rfl) (fun _ _ _ h => h) (by rfl) ?_ (by assumption) ?_
            rotate_left
            · (intro w hSw; (try dsimp only at hSw); obtain ⟨gx, gy⟩ := hSw; obtain ⟨x0, x1, x2, x3⟩ := gx.c4; obtain ⟨y0, y1, y2, y3⟩ := gy.c4; clear gx gy; go_simp; try with_reducible rfl)
            try simp only [Act.put, List.setIfInBounds_toArray, List.set_cons_zero, List.set_cons_succ]
            refine takeL 24 (v := ?_) rfl (by kernel_rfl) (by kernel_rfl) (by kernel_rfl) (fun _ _ _ h => h) (by rfl) ?_ (by assumption) ?_
            rotate_left
            · (intro w hSw; (try dsimp only at hSw); obtain ⟨gx, gy⟩ := hSw; obtain ⟨x0, x1, x2, x3⟩ := gx.c4; obtain ⟨y0, y1, y2, y3⟩ := gy.c4; clear gx gy; go_simp; try with_reducible rfl)
            try simp only [Act.put, List.setIfInBounds_toArray, List.set_cons_zero, List.set_cons_succ]
            refine callL 25 rfl (by kernel_rfl) (by rfl) (fun K hK => ?_)
            go_simp
            refine (plain4_any (t := t) _ (MemW.keep HT.out HCUR.out) HTS.out).mono ?_
            rintro e wx4 ⟨rfl, hb⟩
            rw [HPT.out]
            have HC4 := Lib.hid hb
            have HCUR := Lib.hid (step_b HCUR.out hb)
            have HCR2 := Lib.hid (step_b HCR2.out hb)
            clear hb
            go_simp
            refine hK.out _ _ ?_ (fun hS4 => ?_)
            · exact ⟨hS3.1.keep HC4.out, hS3.2.keep HC4.out⟩
            clear hK K
            refine takeL 26 (v := ?_) rfl (by kernel_rfl) (by kernel_rfl) (by kernel_rfl) (fun _ _ _ h => h) (by rfl) ?_ (by assumption) ?_
            rotate_left
            · (intro w hSw; (try dsimp only at hSw); obtain ⟨gx, gy⟩ := hSw; obtain ⟨x0, x1, x2, x3⟩ := gx.c4; obtain ⟨y0, y1, y2, y3⟩ := gy.c4; clear gx gy; go_simp; try with_reducible rfl)
            try simp only [Act.put, List.setIfInBounds_toArray, List.set_cons_zero, List.set_cons_succ]
            refine takeL 27 (v := ?_) rfl (by kernel_rfl) (by kernel_rfl) (by kernel_rfl) (fun _ _ _ h => h) (by rfl) ?_ (by assumption) ?_
            rotate_left
            · (intro w hSw; (try dsimp only at hSw); obtain ⟨gx, gy⟩ := hSw; obtain ⟨x0, x1, x2, x3⟩ := gx.c4; obtain ⟨y0, y1, y2, y3⟩ := gy.c4; clear gx gy; go_simp; try with_reducible rfl)
            try simp only [Act.put, List.setIfInBounds_toArray, List.set_cons_zero, List.set_cons_succ]
            refine takeL 28 (v := ?_) rfl (by kernel_rfl) (by kernel_rfl) (by kernel_rfl) (fun _ _ _ h => h) (by rfl) ?_ (by assumption) ?_
            rotate_left
            · (intro w hSw; (try dsimp only at hSw); obtain ⟨gx, gy⟩ := hSw; obtain ⟨x0, x1, x2, x3⟩ := gx.c4; obtain ⟨y0, y1, y2, y3⟩ := gy.c4; clear gx gy; go_simp; try with_reducible rfl)
            try simp only [Act.put, List.setIfInBounds_toArray, List.set_cons_zero, List.set_cons_succ]
            refine wpAnyH_done (by kernel_rfl) ?_ _
            go_wp2_with fail
            go_ret
            exact ⟨rfl, HCUR.out⟩
          · have hpt' : plainB t = true := by simpa using hpt
            have HCM : Hid (cmpT (apT lm p) t = 0) := Lib.hid ((cmpT_zero _ _).2 (apT_match (plain_of hpp') (plain_of hpt') hr (mt_nodup p.size p t [] (Nat.le_refl _) List.nodup_nil) hperm))
            have HPP := Lib.hid hpp'
            have HPT := Lib.hid hpt'
            clear hpp hpp' hpt hpt' hr hperm
            go_wp2_with fail
            refine wp_region_held_drew (S := fun w' => Bo w' w.heap.size 24 #[.int .i64 p.kind, .string p.name, .int .i64 p.n, .slice pa pn pc] ∧ Bo w' (w.heap.size + 1) 24 #[.int .i64 t.kind, .string t.name, .int .i64 t.n, .slice ta tn tc]) (by kernel_rfl) ⟨HX15.out.drew, HY15.out.drew⟩ (fun hS0 => ?_)
            refine takeL 0 (v := ?_) rfl (by kernel_rfl) (by kernel_rfl) (by kernel_rfl) (fun _ _ _ h => h) (by rfl) ?_ (by assumption) ?_
            rotate_left
            · (intro w hSw; (try dsimp only at hSw); obtain ⟨gx, gy⟩ := hSw; obtain ⟨x0, x1, x2, x3⟩ := gx.c4; obtain ⟨y0, y1, y2, y3⟩ := gy.c4; clear gx gy; go_simp; try with_reducible rfl)
            try simp only [Act.put, List.setIfInBounds_toArray, List.set_cons_zero, List.set_cons_succ]
            refine takeL 1 (v := ?_) rfl (by kernel_rfl) (by kernel_rfl) (by kernel_rfl) (fun _ _ _ h => h) (by rfl) ?_ (by assumption) ?_
            rotate_left
            · (intro w hSw; (try dsimp only at hSw); obtain ⟨gx, gy⟩ := hSw; obtain ⟨x0, x1, x2, x3⟩ := gx.c4; obtain ⟨y0, y1, y2, y3⟩ := gy.c4; clear gx gy; go_simp; try with_reducible rfl)
            try simp only [Act.put, List.setIfInBounds_toArray, List.set_cons_zero, List.set_cons_succ]
            refine takeL 2 (v := ?_) rfl (by kernel_rfl) (by kernel_rfl) (by kernel_rfl) (fun _ _ _ h => h) (by rfl) ?_ (by assumption) ?_
            rotate_left
            · (intro w hSw; (try dsimp only at hSw); obtain ⟨gx, gy⟩ := hSw; obtain ⟨x0, x1, x2, x3⟩ := gx.c4; obtain ⟨y0, y1, y2, y3⟩ := gy.c4; clear gx gy; go_simp; try with_reducible rfl)
            try simp only [Act.put, List.setIfInBounds_toArray, List.set_cons_zero, List.set_cons_succ]
            refine takeL 3 (v := ?_) rfl (by kernel_rfl) (by kernel_rfl) (by kernel_rfl) (fun _ _ _ h => h) (by rfl) ?_ (by assumption) ?_
            rotate_left
            · (intro w hSw; (try dsimp only at hSw); obtain ⟨gx, gy⟩ := hSw; obtain ⟨x0, x1, x2, x3⟩ := gx.c4; obtain ⟨y0, y1, y2, y3⟩ := gy.c4; clear gx gy; go_simp; try with_reducible rfl)
            try simp only [Act.put, List.setIfInBounds_toArray, List.set_cons_zero, List.set_cons_succ]
            refine callL 4 rfl (by kernel_rfl) (by rfl) (fun K hK => ?_)
            go_simp
            refine (plain4_any (t := p) _ (MemW.keep HP.out HCUR.out) HPS.out).mono ?_
            rintro e wx1 ⟨rfl, hb⟩
            rw [HPP.out]
            have HC1 := Lib.hid hb
            have HCUR := Lib.hid (step_b HCUR.out hb)
            have HCR2 := Lib.hid (step_b HCR2.out hb)
            clear hb
            go_simp
            refine hK.out _ _ ?_ (fun hS1 => ?_)
            · exact ⟨hS0.1.keep HC1.out, hS0.2.keep HC1.out⟩
            clear hK K
            refine takeL 5 (v := ?_) rfl (by kernel_rfl) (by kernel_rfl) (by kernel_rfl) (fun _ _ _ h => h) (by rfl) ?_ (by assumption) ?_
            rotate_left
            · (intro w hSw; (try dsimp only at hSw); obtain ⟨gx, gy⟩ := hSw; obtain ⟨x0, x1, x2, x3⟩ := gx.c4; obtain ⟨y0, y1, y2, y3⟩ := gy.c4; clear gx gy; go_simp; try with_reducible rfl)
            try simp only [Act.put, List.setIfInBounds_toArray, List.set_cons_zero, List.set_cons_succ]
            refine takeL 6 (v := ?_) rfl (by kernel_rfl) (by kernel_rfl) (by kernel_rfl) (fun _ _ _ h => h) (by rfl) ?_ (by assumption) ?_
            rotate_left
            · (intro w hSw; (try dsimp only at hSw); obtain ⟨gx, gy⟩ := hSw; obtain ⟨x0, x1, x2, x3⟩ := gx.c4; obtain ⟨y0, y1, y2, y3⟩ := gy.c4; clear gx gy; go_simp; try with_reducible rfl)
            try simp only [Act.put, List.setIfInBounds_toArray, List.set_cons_zero, List.set_cons_succ]
            refine callL 7 rfl (by kernel_rfl) (by rfl) (fun K hK => ?_)
            go_simp
            refine (plain4_any (t := t) _ (MemW.keep HT.out HCUR.out) HTS.out).mono ?_
            rintro e wx2 ⟨rfl, hb⟩
            rw [HPT.out]
            have HC2 := Lib.hid hb
            have HCUR := Lib.hid (step_b HCUR.out hb)
            have HCR2 := Lib.hid (step_b HCR2.out hb)
            clear hb
            go_simp
            refine hK.out _ _ ?_ (fun hS2 => ?_)
            · exact ⟨hS1.1.keep HC2.out, hS1.2.keep HC2.out⟩
            clear hK K
            refine takeL 8 (v := ?_) rfl (by kernel_rfl) (by kernel_rfl) (by kernel_rfl) (fun _ _ _ h => h) (by rfl) ?_ (by assumption) ?_
            rotate_left
            · (intro w hSw; (try dsimp only at hSw); obtain ⟨gx, gy⟩ := hSw; obtain ⟨x0, x1, x2, x3⟩ := gx.c4; obtain ⟨y0, y1, y2, y3⟩ := gy.c4; clear gx gy; go_simp; try with_reducible rfl)
            try simp only [Act.put, List.setIfInBounds_toArray, List.set_cons_zero, List.set_cons_succ]
            refine takeL 9 (v := ?_) rfl (by kernel_rfl) (by kernel_rfl) (by kernel_rfl) (fun _ _ _ h => h) (by rfl) ?_ (by assumption) ?_
            rotate_left
            · (intro w hSw; (try dsimp only at hSw); obtain ⟨gx, gy⟩ := hSw; obtain ⟨x0, x1, x2, x3⟩ := gx.c4; obtain ⟨y0, y1, y2, y3⟩ := gy.c4; clear gx gy; go_simp; try with_reducible rfl)
            try simp only [Act.put, List.setIfInBounds_toArray, List.set_cons_zero, List.set_cons_succ]
            refine takeL 10 (v := ?_) rfl (by kernel_rfl) (by kernel_rfl) (by kernel_rfl) (fun _ _ _ h => h) (by rfl) ?_ (by assumption) ?_
            rotate_left
            · (intro w hSw; (try dsimp only at hSw); obtain ⟨gx, gy⟩ := hSw; obtain ⟨x0, x1, x2, x3⟩ := gx.c4; obtain ⟨y0, y1, y2, y3⟩ := gy.c4; clear gx gy; go_simp; try with_reducible rfl)
            try simp only [Act.put, List.setIfInBounds_toArray, List.set_cons_zero, List.set_cons_succ]
            refine takeL 11 (v := ?_) rfl (by kernel_rfl) (by kernel_rfl) (by kernel_rfl) (fun _ _ _ h => h) (by rfl) ?_ (by assumption) ?_
            rotate_left
            · (intro w hSw; (try dsimp only at hSw); obtain ⟨gx, gy⟩ := hSw; obtain ⟨x0, x1, x2, x3⟩ := gx.c4; obtain ⟨y0, y1, y2, y3⟩ := gy.c4; clear gx gy; go_simp; try with_reducible rfl)
            try simp only [Act.put, List.setIfInBounds_toArray, List.set_cons_zero, List.set_cons_succ]
            refine takeL 13 (v := ?_) rfl (by kernel_rfl) (by kernel_rfl) (by kernel_rfl) (fun _ _ _ h => h) (by rfl) ?_ (by assumption) ?_
            rotate_left
            · (intro w hSw; (try dsimp only at hSw); obtain ⟨gx, gy⟩ := hSw; obtain ⟨x0, x1, x2, x3⟩ := gx.c4; obtain ⟨y0, y1, y2, y3⟩ := gy.c4; clear gx gy; go_simp; try with_reducible rfl)
            try simp only [Act.put, List.setIfInBounds_toArray, List.set_cons_zero, List.set_cons_succ]
            refine callL 12 rfl (by kernel_rfl) (by rfl) (fun K hK => ?_)
            go_simp
            refine (applyS_any (V := lm) (t := p) (B := w15.heap.size) _ HPS.out (Mem.keep HLM.out (Nat.le_refl _) HCR2.out) (Mem.keep HP15.out (Nat.le_refl _) HCR2.out) HCR2.out.size).mono ?_
            rintro e wx3 ⟨aA, nA, cA, rfl, hb, hm⟩
            have HC3 := Lib.hid hb
            have HCUR := Lib.hid (step_b HCUR.out hb)
            have HCR2 := Lib.hid (step_b HCR2.out hb)
            have HMA := Lib.hid (show MemW wx3 (.s 4 (Tm.rows (apT lm p).args)) (.slice aA nA cA) from hm.mono (fun _ hb => hb.2) fun _ _ => rfl)
            clear hm
            clear hb
            go_simp
            refine hK.out _ _ ?_ (fun hS3 => ?_)
            · exact ⟨hS2.1.keep HC3.out, hS2.2.keep HC3.out⟩
            clear hK K
            refine callL 14 rfl (by kernel_rfl) (by rfl) (fun K hK => ?_)
            go_simp
            refine (compare3_any (apT lm p) t _ _ _ _ _ _ _ HMA.out (MemW.keep HT.out HCUR.out)).mono ?_
            rintro e wx4 ⟨rfl, hb⟩
            rw [HCM.out]
            have HC4 := Lib.hid hb
            have HCUR := Lib.hid (step_b HCUR.out hb)
            have HCR2 := Lib.hid (step_b HCR2.out hb)
            clear hb
            go_simp
            refine hK.out _ _ ?_ (fun hS4 => ?_)
            · exact ⟨hS3.1.keep HC4.out, hS3.2.keep HC4.out⟩
            clear hK K
            refine takeL 15 (v := ?_) rfl (by kernel_rfl) (by kernel_rfl) (by kernel_rfl) (fun _ _ _ h => h) (by rfl) ?_ (by assumption) ?_
            rotate_left
            · (intro w hSw; (try dsimp only at hSw); obtain ⟨gx, gy⟩ := hSw; obtain ⟨x0, x1, x2, x3⟩ := gx.c4; obtain ⟨y0, y1, y2, y3⟩ := gy.c4; clear gx gy; go_simp; try with_reducible rfl)
            try simp only [Act.put, List.setIfInBounds_toArray, List.set_cons_zero, List.set_cons_succ]
            refine takeL 16 (v := ?_) rfl (by kernel_rfl) (by kernel_rfl) (by kernel_rfl) (fun _ _ _ h => h) (by rfl) ?_ (by assumption) ?_
            rotate_left
            · (intro w hSw; (try dsimp only at hSw); obtain ⟨gx, gy⟩ := hSw; obtain ⟨x0, x1, x2, x3⟩ := gx.c4; obtain ⟨y0, y1, y2, y3⟩ := gy.c4; clear gx gy; go_simp; try with_reducible rfl)
            try simp only [Act.put, List.setIfInBounds_toArray, List.set_cons_zero, List.set_cons_succ]
            refine takeL 17 (v := ?_) rfl (by kernel_rfl) (by kernel_rfl) (by kernel_rfl) (fun _ _ _ h => h) (by rfl) ?_ (by assumption) ?_
            rotate_left
            · (intro w hSw; (try dsimp only at hSw); obtain ⟨gx, gy⟩ := hSw; obtain ⟨x0, x1, x2, x3⟩ := gx.c4; obtain ⟨y0, y1, y2, y3⟩ := gy.c4; clear gx gy; go_simp; try with_reducible rfl)
            try simp only [Act.put, List.setIfInBounds_toArray, List.set_cons_zero, List.set_cons_succ]
            refine takeL 18 (v := ?_) rfl (by kernel_rfl) (by kernel_rfl) (by kernel_rfl) (fun _ _ _ h => h) (by rfl) ?_ (by assumption) ?_
            rotate_left
            · (intro w hSw; (try dsimp only at hSw); obtain ⟨gx, gy⟩ := hSw; obtain ⟨x0, x1, x2, x3⟩ := gx.c4; obtain ⟨y0, y1, y2, y3⟩ := gy.c4; clear gx gy; go_simp; try with_reducible rfl)
            try simp only [Act.put, List.setIfInBounds_toArray, List.set_cons_zero, List.set_cons_succ]
            refine skipL 19 rfl (by kernel_rfl) (by kernel_rfl) (by kernel_rfl) (fun _ _ _ h => h) (by rfl) (by assumption) ?_
            try simp only [Act.put, List.setIfInBounds_toArray, List.set_cons_zero, List.set_cons_succ]
            refine skipCallL 20 rfl (by kernel_rfl) (by rfl) (by assumption) ?_
            try simp only [Act.put, List.setIfInBounds_toArray, List.set_cons_zero, List.set_cons_succ]
            refine skipL 21 rfl (by kernel_rfl) (by kernel_rfl) (by kernel_rfl) (fun _ _ _ h => h) (by rfl) (by assumption) ?_
            try simp only [Act.put, List.setIfInBounds_toArray, List.set_cons_zero, List.set_cons_succ]
            refine takeL 22 (v := ?_) rfl (by kernel_rfl) (by kernel_rfl) (by kernel_rfl) (fun _ _ _ h => h) (by rfl) ?_ (by assumption) ?_
            rotate_left
            · (intro w hSw; (try dsimp only at hSw); obtain ⟨gx, gy⟩ := hSw; obtain ⟨x0, x1, x2, x3⟩ := gx.c4; obtain ⟨y0, y1, y2, y3⟩ := gy.c4; clear gx gy; go_simp; try with_reducible rfl)
            try simp only [Act.put, List.setIfInBounds_toArray, List.set_cons_zero, List.set_cons_succ]
            refine takeL 23 (v := ?_) rfl (by kernel_rfl) (by kernel_rfl) (by kernel_rfl) (fun _ _ _ h => h) (by rfl) ?_ (by assumption) ?_
            rotate_left
            · (intro w hSw; (try dsimp only at hSw); obtain ⟨gx, gy⟩ := hSw; obtain ⟨x0, x1, x2, x3⟩ := gx.c4; obtain ⟨y0, y1, y2, y3⟩ := gy.c4; clear gx gy; go_simp; try with_reducible rfl)
            try simp only [Act.put, List.setIfInBounds_toArray, List.set_cons_zero, List.set_cons_succ]
            refine skipL 24 rfl (by kernel_rfl) (by kernel_rfl) (by kernel_rfl) (fun _ _ _ h => h) (by rfl) (by assumption) ?_
            try simp only [Act.put, List.setIfInBounds_toArray, List.set_cons_zero, List.set_cons_succ]
            refine skipCallL 25 rfl (by kernel_rfl) (by rfl) (by assumption) ?_
            try simp only [Act.put, List.setIfInBounds_toArray, List.set_cons_zero, List.set_cons_succ]
            refine skipL 26 rfl (by kernel_rfl) (by kernel_rfl) (by kernel_rfl) (fun _ _ _ h => h) (by rfl) (by assumption) ?_
            try simp only [Act.put, List.setIfInBounds_toArray, List.set_cons_zero, List.set_cons_succ]
            refine takeL 27 (v := ?_) rfl (by kernel_rfl) (by kernel_rfl) (by kernel_rfl) (fun _ _ _ h => h) (by rfl) ?_ (by assumption) ?_
            rotate_left
            · (intro w hSw; (try dsimp only at hSw); obtain ⟨gx, gy⟩ := hSw; obtain ⟨x0, x1, x2, x3⟩ := gx.c4; obtain ⟨y0, y1, y2, y3⟩ := gy.c4; clear gx gy; go_simp; try with_reducible rfl)
            try simp only [Act.put, List.setIfInBounds_toArray, List.set_cons_zero, List.set_cons_succ]
            refine takeL 28 (v := ?_) rfl (by kernel_rfl) (by kernel_rfl) (by kernel_rfl) (fun _ _ _ h => h) (by rfl) ?_ (by assumption) ?_
            rotate_left
            · (intro w hSw; (try dsimp only at hSw); obtain ⟨gx, gy⟩ := hSw; obtain ⟨x0, x1, x2, x3⟩ := gx.c4; obtain ⟨y0, y1, y2, y3⟩ := gy.c4; clear gx gy; go_simp; try with_reducible rfl)
            try simp only [Act.put, List.setIfInBounds_toArray, List.set_cons_zero, List.set_cons_succ]
            refine wpAnyH_done (by kernel_rfl) ?_ _
            go_wp2_with fail
            go_ret
            exact ⟨rfl, HCUR.out⟩
end Go.Proofs.Ytmadfkofmehfkaa
