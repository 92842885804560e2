/-
  The module reader's data: a type and its constructors. No condition but how the reader and the tokens lie.
-/
import Derived.Test.YtcoiagfeoonpbaaSt30
import Derived.Test.YtcoiagfeoonpbaaSt18
import Derived.Deep.Cut
namespace Go.Proofs.Ytcoiagfeoonpbaa
open Go.RowKit
theorem info_strM : (Try.prog.info? 9).map (fun i => (i.zero, i.size, i.bytes)) = some (some (.string ⟨#[]⟩), 1, 16) := by kernel_rfl
theorem info_conM : (Try.prog.info? 65).map (fun i => (i.zero, i.size, i.bytes)) = some (some (.agg #[.string ⟨#[]⟩, .slice none 0 0, .int .i64 0, .int .i64 0]), 4, 56) := by kernel_rfl
theorem qYB {q a b : Nat} {x : At} {y : Value} {w w' : World} (h : Hid (Mem (NwS (Bt a b) w.heap.size) w x y)) (hf : FarQ q w w') (hq : q < a := by omega) : Hid (Mem (NwS (Bt a b) w'.heap.size) w' x y) :=
  Lib.hid (memS_far h.out hf fun b hb e => by have : b = q := e; unfold Bt at hb; omega)
theorem ownD_new {w w' : World} {base b sz : Nat} {t : TypeId} {r : List At} {cs : Array Value} (e : w.alloc (.cells cs t) = w') (hr : All2 (Mem (Nw 0 base w.heap.size) w) r cs.toList) (hs : cs.toList.length = sz) (hb : base ≤ w.heap.size) (hk : w.heap.size = b) : Hid (OwnD 0 base t sz w' (.slice (some ⟨b, 0, none⟩) 1 1) [r]) := Lib.hid (e ▸ hk ▸ row_new hr hs hb)
def posM (L q : Nat) (w : World) : Nat :=
  match w.cell? ⟨q, 3, none⟩, w.cell? ⟨q, 1, none⟩ with
  | some (.int _ e), some (.int _ i) => if e = 0 then (L - i.toNat) + 2 else 0
  | _, _ => 0
section
variable {ts : List Tk} {aL : Option Addr} {n cap q : Nat}
theorem posM_eq {s : MS} {d : Int} {w : World} (h : RS ts aL n cap q s d w) (L : Nat) : posM L q w = if s.ok = true then (L - s.i) + 2 else 0 := by
  have c := kcR (Lib.hid h)
  unfold posM
  rw [c.2.1, c.2.2.2.1]
  simp only
  have e := ok_eB s
  cases hok : s.ok with
  | true => rw [hok] at e; rw [if_pos (by simpa using e), if_pos rfl]; simp
  | false => rw [hok] at e; rw [if_neg (by simpa using e)]; rfl
theorem posM_step {s s' : MS} {d d' : Int} {w w' : World} (h : RS ts aL n cap q s d w) (h' : RS ts aL n cap q s' d' w') (L : Nat) (hs : Step 1 s s') (hok : s.ok = true) (hl : s'.ok = true → s.i < L) : posM L q w' < posM L q w := by
  rw [posM_eq h, posM_eq h', if_pos hok]
  split
  · rename_i h2
    have h3 := (hs.fwd h2).2
    have h4 := hl h2
    omega
  · omega
def DAns (ts : List Tk) (aL : Option Addr) (n cap q : Nat) (x : Da) (s' : MS) (W : World) (e : Ending) (w' : World) : Prop :=
  ∃ a m c a' m' c', e = .returned (daV x a m c a' m' c') ∧ FarQ q W w' ∧ RS ts aL n cap q s' ((0 : Nat) : Int) w' ∧ Mem (Nw 0 W.heap.size w'.heap.size) w' (.s 1 (x.vars.map strRow)) (.slice a m c) ∧ Mem (Nw 0 W.heap.size w'.heap.size) w' (.s 4 (x.cons.map Cn.row)) (.slice a' m' c')
theorem tk_kindM (k n l c : Int) (s : ByteArray) (w : World) : Sem.run Try.prog (Instr.field 71 (.agg #[.int .i64 k, .string s, .int .i64 n, .int .i64 l, .int .i64 c]) 0) w = .ok (.int .i64 k) w := by kernel_rfl
attribute [local go_sem] tk_pos tk_kindM
set_option maxRecDepth 100000 in
set_option maxHeartbeats 20000000 in
theorem data_any {f : Nat} {s s' : MS} {x : Da} (w : World) (hr : dataM ts f s = some (x, s')) (hp : RS ts aL n cap q s ((0 : Nat) : Int) w) : Calls Try.prog 40 #[.pointer (some ⟨q, 0, none⟩)] w (DAns ts aL n cap q x s' w) := by
 have HP := Lib.hid hp
 have hq0 := hp.lt
 have HF := Lib.hid (FarB.refl q w.heap.size w)
 have hsm := hp.sm
 have hlen := hp.len
 clear hp
 unfold dataM at hr
 obtain ⟨V, hr1, hr⟩ := Option.bind_eq_some_iff.1 hr
 obtain ⟨C, hr2, hr⟩ := Option.bind_eq_some_iff.1 hr
 obtain ⟨E, hr3, hr4⟩ := Option.map_eq_some_iff.1 hr
 cases hr4
 obtain ⟨vs, sv⟩ := V
 obtain ⟨cn, sc⟩ := C
 obtain ⟨cs, se⟩ := E
 have H3 := Lib.hid hr3
 have H2 := Lib.hid hr2
 clear hr hr3 hr2
 go_enter Try.func40, Try.ntmps40
 go_upto_region 1 with (fail)
 generalize ee : World.alloc w _ = w1
 have hsa1 := sizeA ee
 replace HP := rpA HP ee
 replace HF := fA HF ee
 have HBr := nB ee (w.heap.size)
 clear ee
 have qc := kcR HP
 have rc := kc5 HBr
 have hI := iq_0_0 q w w1
 have hZ := iq_01 q w
 go_wp2_with (fail)
 clear qc rc
 refine (mnow_any _ HP.out.bo HP.out.mem).mono ?_
 rintro _ w2 ⟨rfl, hb⟩
 have hf := FarQ.of (q := q) hb
 replace HBr := qB HBr hf
 replace HF := qF HF hf
 have hs2 := hf.size
 replace HP := krP HP hb
 clear hf hb
 simp only [tkV]
 clear hI hZ
 have qc := kcR HP
 have rc := kc5 HBr
 have hI := iq_0_0 q w w2
 go_upto_region 2 with (fail)
 clear qc rc
 generalize ee : World.alloc w2 _ = w3
 have hsa3 := sizeA ee
 replace HP := rpA HP ee
 replace HF := fA HF ee
 replace HBr := bA HBr ee
 have HBd := nB ee (w2.heap.size)
 clear ee
 clear hI
 have qc := kcR HP
 have rc := kc5 HBr; have dc := kc5 HBd
 have hI := iq_0_0_0 q w w2 w3
 have hZ := iq_0_01 q w w2
 go_wp2_with (fail)
 clear qc rc dc
 refine (mtake_any 5 wData _ HP.out (by decide)).mono ?_
 rintro _ w4 ⟨rfl, hf, hp⟩
 replace HBr := qB HBr hf
 replace HBd := qB HBd hf
 replace HF := qF HF hf
 have hs4 := hf.size
 replace HP := Lib.hid hp
 clear hf hp
 clear hI hZ
 have qc := kcR HP
 have rc := kc5 HBr; have dc := kc5 HBd
 have hI := iq_0_0_0 q w w2 w4
 go_wp2_with (fail)
 clear qc rc dc
 refine (mname_any 3 _ HP.out (by decide)).mono ?_
 rintro _ w5 ⟨rfl, hf, hp⟩
 replace HBr := qB HBr hf
 replace HBd := qB HBd hf
 replace HF := qF HF hf
 have hs5 := hf.size
 replace HP := Lib.hid hp
 clear hf hp
 clear hI
 have qc := kcR HP
 have rc := kc5 HBr; have dc := kc5 HBd
 have hI := iq_0_0_0 q w w2 w5
 go_wp2_with (fail)
 clear qc rc dc
 generalize ee : World.setCell w5 _ _ = w6
 have hsz6 := sizeS1 ee
 replace HP := rpO1 HP ee
 replace HF := fN1 HF ee
 replace HBr := bF1 HBr ee
 replace HBd : Hid (Bo w6 w2.heap.size 63 #[.string (nameS ts (takeS ts s 5 wData) 3).1, .slice none 0 0, .slice none 0 0, .int .i64 (nowT ts s.i).l, .int .i64 (nowT ts s.i).c]) := Lib.hid (by rw [← ee]; exact HBd.out.set 0 (.string (nameS ts (takeS ts s 5 wData) 3).1))
 clear ee
 clear hI
 have hb0 : w.heap.size < w6.heap.size ∧ w2.heap.size < w6.heap.size := by constructor <;> omega
 generalize hB0 : w6.heap.size = B0 at *
 go_loopw [] (fun wr => ∃ (us : List ByteArray) (st : MS) (gg : Nat) (a1 : Option Addr) (m1 c1 : Nat), varsM ts gg us st = some (vs, sv) ∧ Hid (RS ts aL n cap q st ((0 : Nat) : Int) wr) ∧ Hid (FarB q w.heap.size w wr) ∧ Hid (Bo wr w.heap.size 63 #[.string ⟨#[]⟩, .slice none 0 0, .slice none 0 0, .int .i64 0, .int .i64 0]) ∧ Hid (Bo wr w2.heap.size 63 #[.string (nameS ts (takeS ts s 5 wData) 3).1, .slice a1 m1 c1, .slice none 0 0, .int .i64 (nowT ts s.i).l, .int .i64 (nowT ts s.i).c]) ∧ Hid (OwnD 0 B0 9 1 wr (.slice a1 m1 c1) (us.map strRow)) ∧ us.length + leftM ts st ≤ ts.length ∧ B0 ≤ wr.heap.size) (fun wr => posM ts.length q wr)
 case atStart => exact ⟨[], _, f, none, 0, 0, hr1, HP, HF, HBr, HBd, Lib.hid (OwnD.nil _ _ _ _ _), (by have := leftM_le (ts := ts) (nameS ts (takeS ts s 5 wData) 3).2; simp only [List.length_nil]; omega), by omega⟩
 case round =>
  clear HP HF HBr HBd hr1
  obtain ⟨us, st, gg, a1, m1, c1, hr1, HP, HF, HBr, HBd, HOv, hl1, hws⟩ := hrel
  have HP1 := HP
  have qc := kcR HP
  have rc := kc5 HBr; have dc := kc5 HBd
  have hI := iq_0_0_0 q w w2 wr
  go_wp2_with (fail)
  refine (mok_any _ HP.out).mono ?_
  rintro _ _ ⟨rfl, rfl⟩
  cases gg with
  | zero => rw [varsM] at hr1; cases hr1
  | succ gg =>
   rw [varsM] at hr1
   by_cases hc : (st.ok && decide ((nowT ts st.i).k = 2)) = true
   ·
    rw [if_pos hc] at hr1
    have hok : st.ok = true := by rw [Bool.and_eq_true] at hc; exact hc.1
    have hk2 : (nowT ts st.i).k = 2 := by rw [Bool.and_eq_true, decide_eq_true_eq] at hc; exact hc.2
    have hlt : st.i < ts.length := now_lt (by rw [hk2]; decide)
    rw [hok]
    have HOK := Lib.hid hok
    clear hok hc
    go_wp2_with (fail)
    clear qc rc dc
    refine (mnow_any _ HP.out.bo HP.out.mem).mono ?_
    rintro _ w7 ⟨rfl, hb⟩
    have hf := FarQ.of (q := q) hb
    replace HBr := qB HBr hf
    replace HBd := qB HBd hf
    replace HOv := qO HOv hf
    replace HF := qF HF hf
    have hs7 := hf.size
    replace HP := krP HP hb
    clear hf hb
    simp only [tkV]
    have e2 : ((nowT ts st.i).k == 2) = true := by simp [hk2]
    have HK := Lib.hid hk2
    clear hk2
    clear hI
    have qc := kcR HP
    have rc := kc5 HBr; have dc := kc5 HBd
    have hI := iq_0_0_0 q w w2 w7
    go_upto_region 5 with (fail)
    have hnm : nameS ts st 2 = ((nowT ts st.i).s, st.next) := by unfold nameS; rw [if_pos HK.out]
    have hlz : us.length + 1 ≤ 1048576 := by rw [leftM_ok HOK.out] at hl1; omega
    clear qc rc dc
    clear hI
    have qc := kcR HP
    have rc := kc5 HBr; have dc := kc5 HBd
    have hI := iq_0_0_0 q w w2 w7
    refine wp_region_held_drew (S := fun w' => Far (fun b => b = q ∨ b = w2.heap.size ∨ (Value.slice a1 m1 c1).ownBlock = some b) (w7) w') (by kernel_rfl) (Far.of (below_drew _)) (fun hS10 => ?_)
    refine takeA 0 (v := ?_) rfl ?_ ?_
    rotate_left
    · (intro w hSw; (try dsimp only at hSw); go_simp; try with_reducible rfl)
    try simp only [Act.put, pu1, pu2, pu3]
    refine takeA 2 (v := ?_) rfl ?_ ?_
    rotate_left
    · (intro w hSw; (try dsimp only at hSw); go_simp; try with_reducible rfl)
    try simp only [Act.put, pu1, pu2, pu3]

    refine twoL 1 3 rfl rfl (by kernel_rfl) (by rfl) (by rfl) (fun K hK => ?_) (fun K hK => ?_)
    ·
     go_simp
     refine hK.out _ _ ?_ (fun hS11 => ?_)
     · exact hS10
     clear hK K
     refine callA 3 rfl fun K hK => ?_
     clear qc rc dc
     have HOW : Hid (OwnD 0 (B0) 9 1 w7 (.slice a1 m1 c1) (us.map strRow)) := HOv
     go_simp
     refine (mname_any 2 _ HP.out.drew (by decide)).mono ?_
     rintro e wx12 ⟨rfl, hf, hp⟩
     replace hf : FarQ q w7 wx12 := (FarQ.of (below_drew _)).trans hf
     have hswx12 : w7.heap.size ≤ wx12.heap.size := hf.size
     replace HBr := qB HBr hf
     replace HBd := qB HBd hf
     replace HOv := qO HOv hf
     replace HF := qF HF hf
     replace HP := Lib.hid hp
     rw [hnm]
     rw [hnm] at HP
     go_simp
     refine hK.out _ _ ?_ (fun hS12 => ?_)
     · exact Far.mono hf (fun b e => .inl e)
     clear hK K hp hf
     refine callA 4 rfl fun K hK => ?_
     go_simp
     refine hK.out _ _ ?_ (fun hS13 => ?_)
     · exact Far.trans hS12 (Far.of (below_new _ _))
     clear hK K

     refine callA 5 rfl fun K hK => ?_
     refine wp_append_D2 _ _ (by rfl) Try.underlying60 info_strM rfl (by decide) (by rfl) (by rfl) (HOv.out.alloc _) (row_app HOW.out (by omega) (by omega) (str_mem) rfl) (by simp only [List.length_map, List.length_cons, List.length_nil]; omega) (by simp only [List.length_map, List.length_cons, List.length_nil]; omega) (by rw [World.size_alloc]; omega) (fun v9 w9 ho hg => ?_)
     obtain ⟨a9, m9, c9, rfl⟩ := mem_slice ho.mem
     refine hK.out _ _ ?_ (fun hS14 => ?_)
     · exact Far.trans hS13 ((grownFar hg).mono (fun b e => .inr (.inr e)))
     clear hK K
     have hs9 : wx12.heap.size + 1 ≤ w9.heap.size := by have h := hg.size; rw [World.size_alloc] at h; exact h
     have hob : ∀ k, (Value.slice a1 m1 c1).ownBlock = some k → B0 ≤ k := fun k hk => (HOv.out.lt k hk).1
     replace HP := Lib.hid ((HP.out.alloc _).grown hg fun k hk => by have := hob k hk; omega)
     replace HF := Lib.hid ((HF.out.alloc _).grown hg fun k hk => by have := hob k hk; omega)
     replace HBr := Lib.hid ((HBr.out.alloc _).grown hg fun k hk => by have := hob k hk; omega)
     replace HBd := Lib.hid ((HBd.out.alloc _).grown hg fun k hk => by have := hob k hk; omega)
     have HOv9 : Hid (OwnD 0 (B0) 9 1 w9 (.slice a9 m9 c9) ((us ++ [(nowT ts st.i).s]).map strRow)) := Lib.hid (by rw [List.map_append]; exact ho)
     clear ho hg hob HOW HOv
     refine takeA 6 (v := ?_) rfl ?_ ?_
     rotate_left
     · (intro w hSw; (try dsimp only at hSw); go_simp; try with_reducible rfl)
     try simp only [Act.put, pu1, pu2, pu3]
     refine callA 7 rfl fun K hK => ?_
     have qc := kcR HP
     have rc := kc5 HBr; have dc := kc5 HBd
     have hI := iq_0_0_0 q w w2 w9
     go_simp
     refine hK.out _ _ ?_ (fun hS15 => ?_)
     · exact Far.setCell hS14 (.inr (.inl rfl)) _
     clear hK K
     refine wpAnyH_done (by kernel_rfl) ?_ _

     clear qc rc dc
     generalize ee : World.setCell w9 _ _ = w8
     have hsz8 := sizeS1 ee
     replace HP := rpO1 HP ee
     replace HF := fN1 HF ee
     replace HBr := bF1 HBr ee
     replace HBd : Hid (Bo w8 w2.heap.size 63 #[.string (nameS ts (takeS ts s 5 wData) 3).1, .slice a9 m9 c9, .slice none 0 0, .int .i64 (nowT ts s.i).l, .int .i64 (nowT ts s.i).c]) := Lib.hid (by rw [← ee]; exact HBd.out.set 1 (.slice a9 m9 c9))
     replace HOv9 := oS1 HOv9 ee
     clear ee
     clear hI
     have qc := kcR HP
     have rc := kc5 HBr; have dc := kc5 HBd
     have hI := iq_0_0_0 q w w2 w8
     have hZ := iq_0_0_0 q w w2 w9
     go_wp2_with (fail)
     clear qc rc dc
     go_roundw
     case rel => exact ⟨us ++ [(nowT ts st.i).s], st.next, gg, a9, m9, c9, hr1, HP, HF, HBr, HBd, HOv9, (by rw [leftM_ok HOK.out] at hl1; have h1 := leftM_step (ts := ts) (step_next st); rw [leftM_ok HOK.out] at h1; rw [List.length_append, List.length_cons, List.length_nil]; omega), by omega⟩
     case measure => exact posM_step HP1.out HP.out _ (step_next st) HOK.out fun _ => hlt
    ·
     clear qc rc dc
     have HOW : Hid (OwnD 0 (B0) 9 1 w7 (.slice a1 m1 c1) (us.map strRow)) := HOv
     go_simp
     refine (mname_any 2 _ HP.out.drew (by decide)).mono ?_
     rintro e wx11 ⟨rfl, hf, hp⟩
     replace hf : FarQ q w7 wx11 := (FarQ.of (below_drew _)).trans hf
     have hswx11 : w7.heap.size ≤ wx11.heap.size := hf.size
     replace HBr := qB HBr hf
     replace HBd := qB HBd hf
     replace HOv := qO HOv hf
     replace HF := qF HF hf
     replace HP := Lib.hid hp
     rw [hnm]
     rw [hnm] at HP
     go_simp
     refine hK.out _ _ ?_ (fun hS11 => ?_)
     · exact Far.mono hf (fun b e => .inl e)
     clear hK K hp hf
     refine twoL 1 4 rfl rfl (by kernel_rfl) (by rfl) (by rfl) (fun K hK => ?_) (fun K hK => ?_)
     ·
      have qc := kcR HP
      have rc := kc5 HBr; have dc := kc5 HBd
      have hI := iq_0_0_0 q w w2 wx11
      go_simp
      refine hK.out _ _ ?_ (fun hS12 => ?_)
      · exact hS11
      clear hK K
      clear qc rc dc
      refine callA 4 rfl fun K hK => ?_
      go_simp
      refine hK.out _ _ ?_ (fun hS13 => ?_)
      · exact Far.trans hS12 (Far.of (below_new _ _))
      clear hK K

      refine callA 5 rfl fun K hK => ?_
      refine wp_append_D2 _ _ (by rfl) Try.underlying60 info_strM rfl (by decide) (by rfl) (by rfl) (HOv.out.alloc _) (row_app HOW.out (by omega) (by omega) (str_mem) rfl) (by simp only [List.length_map, List.length_cons, List.length_nil]; omega) (by simp only [List.length_map, List.length_cons, List.length_nil]; omega) (by rw [World.size_alloc]; omega) (fun v9 w9 ho hg => ?_)
      obtain ⟨a9, m9, c9, rfl⟩ := mem_slice ho.mem
      refine hK.out _ _ ?_ (fun hS14 => ?_)
      · exact Far.trans hS13 ((grownFar hg).mono (fun b e => .inr (.inr e)))
      clear hK K
      have hs9 : wx11.heap.size + 1 ≤ w9.heap.size := by have h := hg.size; rw [World.size_alloc] at h; exact h
      have hob : ∀ k, (Value.slice a1 m1 c1).ownBlock = some k → B0 ≤ k := fun k hk => (HOv.out.lt k hk).1
      replace HP := Lib.hid ((HP.out.alloc _).grown hg fun k hk => by have := hob k hk; omega)
      replace HF := Lib.hid ((HF.out.alloc _).grown hg fun k hk => by have := hob k hk; omega)
      replace HBr := Lib.hid ((HBr.out.alloc _).grown hg fun k hk => by have := hob k hk; omega)
      replace HBd := Lib.hid ((HBd.out.alloc _).grown hg fun k hk => by have := hob k hk; omega)
      have HOv9 : Hid (OwnD 0 (B0) 9 1 w9 (.slice a9 m9 c9) ((us ++ [(nowT ts st.i).s]).map strRow)) := Lib.hid (by rw [List.map_append]; exact ho)
      clear ho hg hob HOW HOv
      refine takeA 6 (v := ?_) rfl ?_ ?_
      rotate_left
      · (intro w hSw; (try dsimp only at hSw); go_simp; try with_reducible rfl)
      try simp only [Act.put, pu1, pu2, pu3]
      refine callA 7 rfl fun K hK => ?_
      have qc := kcR HP
      have rc := kc5 HBr; have dc := kc5 HBd
      have hI := iq_0_0_0 q w w2 w9
      go_simp
      refine hK.out _ _ ?_ (fun hS15 => ?_)
      · exact Far.setCell hS14 (.inr (.inl rfl)) _
      clear hK K
      refine wpAnyH_done (by kernel_rfl) ?_ _

      clear qc rc dc
      generalize ee : World.setCell w9 _ _ = w8
      have hsz8 := sizeS1 ee
      replace HP := rpO1 HP ee
      replace HF := fN1 HF ee
      replace HBr := bF1 HBr ee
      replace HBd : Hid (Bo w8 w2.heap.size 63 #[.string (nameS ts (takeS ts s 5 wData) 3).1, .slice a9 m9 c9, .slice none 0 0, .int .i64 (nowT ts s.i).l, .int .i64 (nowT ts s.i).c]) := Lib.hid (by rw [← ee]; exact HBd.out.set 1 (.slice a9 m9 c9))
      replace HOv9 := oS1 HOv9 ee
      clear ee
      clear hI
      have qc := kcR HP
      have rc := kc5 HBr; have dc := kc5 HBd
      have hI := iq_0_0_0 q w w2 w8
      have hZ := iq_0_0_0 q w w2 w9
      go_wp2_with (fail)
      clear qc rc dc
      go_roundw
      case rel => exact ⟨us ++ [(nowT ts st.i).s], st.next, gg, a9, m9, c9, hr1, HP, HF, HBr, HBd, HOv9, (by rw [leftM_ok HOK.out] at hl1; have h1 := leftM_step (ts := ts) (step_next st); rw [leftM_ok HOK.out] at h1; rw [List.length_append, List.length_cons, List.length_nil]; omega), by omega⟩
      case measure => exact posM_step HP1.out HP.out _ (step_next st) HOK.out fun _ => hlt
     ·
      go_simp
      refine hK.out _ _ ?_ (fun hS12 => ?_)
      · exact Far.trans hS11 (Far.of (below_new _ _))
      clear hK K
      have qc := kcR HP
      have rc := kc5 HBr; have dc := kc5 HBd
      have hI := iq_0_0_0 q w w2 wx11
      refine callA 1 rfl fun K hK => ?_
      go_simp
      refine hK.out _ _ ?_ (fun hS13 => ?_)
      · exact hS12
      clear hK K
      clear qc rc dc
      refine callA 5 rfl fun K hK => ?_
      refine wp_append_D2 _ _ (by rfl) Try.underlying60 info_strM rfl (by decide) (by rfl) (by rfl) (HOv.out.alloc _) (row_app HOW.out (by omega) (by omega) (str_mem) rfl) (by simp only [List.length_map, List.length_cons, List.length_nil]; omega) (by simp only [List.length_map, List.length_cons, List.length_nil]; omega) (by rw [World.size_alloc]; omega) (fun v9 w9 ho hg => ?_)
      obtain ⟨a9, m9, c9, rfl⟩ := mem_slice ho.mem
      refine hK.out _ _ ?_ (fun hS14 => ?_)
      · exact Far.trans hS13 ((grownFar hg).mono (fun b e => .inr (.inr e)))
      clear hK K
      have hs9 : wx11.heap.size + 1 ≤ w9.heap.size := by have h := hg.size; rw [World.size_alloc] at h; exact h
      have hob : ∀ k, (Value.slice a1 m1 c1).ownBlock = some k → B0 ≤ k := fun k hk => (HOv.out.lt k hk).1
      replace HP := Lib.hid ((HP.out.alloc _).grown hg fun k hk => by have := hob k hk; omega)
      replace HF := Lib.hid ((HF.out.alloc _).grown hg fun k hk => by have := hob k hk; omega)
      replace HBr := Lib.hid ((HBr.out.alloc _).grown hg fun k hk => by have := hob k hk; omega)
      replace HBd := Lib.hid ((HBd.out.alloc _).grown hg fun k hk => by have := hob k hk; omega)
      have HOv9 : Hid (OwnD 0 (B0) 9 1 w9 (.slice a9 m9 c9) ((us ++ [(nowT ts st.i).s]).map strRow)) := Lib.hid (by rw [List.map_append]; exact ho)
      clear ho hg hob HOW HOv
      refine takeA 6 (v := ?_) rfl ?_ ?_
      rotate_left
      · (intro w hSw; (try dsimp only at hSw); go_simp; try with_reducible rfl)
      try simp only [Act.put, pu1, pu2, pu3]
      refine callA 7 rfl fun K hK => ?_
      have qc := kcR HP
      have rc := kc5 HBr; have dc := kc5 HBd
      have hI := iq_0_0_0 q w w2 w9
      go_simp
      refine hK.out _ _ ?_ (fun hS15 => ?_)
      · exact Far.setCell hS14 (.inr (.inl rfl)) _
      clear hK K
      refine wpAnyH_done (by kernel_rfl) ?_ _

      clear qc rc dc
      generalize ee : World.setCell w9 _ _ = w8
      have hsz8 := sizeS1 ee
      replace HP := rpO1 HP ee
      replace HF := fN1 HF ee
      replace HBr := bF1 HBr ee
      replace HBd : Hid (Bo w8 w2.heap.size 63 #[.string (nameS ts (takeS ts s 5 wData) 3).1, .slice a9 m9 c9, .slice none 0 0, .int .i64 (nowT ts s.i).l, .int .i64 (nowT ts s.i).c]) := Lib.hid (by rw [← ee]; exact HBd.out.set 1 (.slice a9 m9 c9))
      replace HOv9 := oS1 HOv9 ee
      clear ee
      clear hI
      have qc := kcR HP
      have rc := kc5 HBr; have dc := kc5 HBd
      have hI := iq_0_0_0 q w w2 w8
      have hZ := iq_0_0_0 q w w2 w9
      go_wp2_with (fail)
      clear qc rc dc
      go_roundw
      case rel => exact ⟨us ++ [(nowT ts st.i).s], st.next, gg, a9, m9, c9, hr1, HP, HF, HBr, HBd, HOv9, (by rw [leftM_ok HOK.out] at hl1; have h1 := leftM_step (ts := ts) (step_next st); rw [leftM_ok HOK.out] at h1; rw [List.length_append, List.length_cons, List.length_nil]; omega), by omega⟩
      case measure => exact posM_step HP1.out HP.out _ (step_next st) HOK.out fun _ => hlt
   ·
    rw [if_neg hc] at hr1
    cases hok : st.ok with
    | false =>
     go_wp2_with (fail)
     cases hr1
     obtain ⟨T0, hT0⟩ : ∃ k, k = wr.heap.size := ⟨_, rfl⟩
     have HYv : Hid (Mem (NwS (Bt B0 T0) wr.heap.size) wr (.s 1 (vs.map strRow)) (.slice a1 m1 c1)) := Lib.hid (by rw [hT0]; exact memS_bt HOv.out.mem (by omega))
     clear HOv
     clear qc rc dc
     clear hI
     have qc := kcR HP
     have rc := kc5 HBr; have dc := kc5 HBd
     have hI := iq_0_0_0 q w w2 wr
     go_wp2_with (fail)
     clear qc rc dc
     refine (mtake_any 6 wEq _ HP.out (by decide)).mono ?_
     rintro _ w7 ⟨rfl, hf, hp⟩
     replace HYv := qYB HYv hf
     replace HBr := qB HBr hf
     replace HBd := qB HBd hf
     replace HF := qF HF hf
     have hs7 := hf.size
     replace HP := Lib.hid hp
     clear hf hp
     clear hI
     have qc := kcR HP
     have rc := kc5 HBr; have dc := kc5 HBd
     have hI := iq_0_0_0 q w w2 w7
     go_wp2_with (fail)
     clear qc rc dc
     refine (con_any _ H2.out HP.out).mono ?_
     rintro _ w8 ⟨ac, mc, cc, rfl, hf, hp, hm⟩
     replace HYv := qYB HYv hf
     replace HBr := qB HBr hf
     replace HBd := qB HBd hf
     replace HF := qF HF hf
     have hs8 := hf.size
     replace HP := Lib.hid hp
     have HMc := Lib.hid hm
     clear hf hp hm
     simp only [cnV]
     clear hI
     have qc := kcR HP
     have rc := kc5 HBr; have dc := kc5 HBd
     have hI := iq_0_0_0 q w w2 w8
     go_wp2_with (fail)
     clear qc rc dc
     generalize ee : World.setCell w8 _ _ = w9_1
     have hq1 := sizeS1 ee
     replace HP := rpO1 HP ee
     replace HF := fN1 HF ee
     replace HBr := bF1 HBr ee
     replace HBd : Hid (Bo w9_1 w2.heap.size 63 #[.string (nameS ts (takeS ts s 5 wData) 3).1, .slice a1 m1 c1, .slice (some ⟨w8.heap.size, 0, none⟩) 1 1, .int .i64 (nowT ts s.i).l, .int .i64 (nowT ts s.i).c]) := Lib.hid (by rw [← ee]; exact HBd.out.set 2 (.slice (some ⟨w8.heap.size, 0, none⟩) 1 1))
     replace HMc := mS1 HMc ee
     replace HYv := yS1 HYv ee
     clear ee
     generalize ee : World.alloc w9_1 _ = w9
     have hq2 := sizeA ee
     have HNEW := ownD_new ee (sz := 4) (b := w8.heap.size) (cn_mem (x := cn) HMc.out) rfl (by omega) (by omega)
     replace HP := rpA HP ee
     replace HF := fA HF ee
     replace HBr := bA HBr ee
     replace HBd := bA HBd ee
     replace HMc := mA HMc ee
     replace HYv := yA HYv ee
     have HOc := HNEW
     clear HNEW
     clear ee
     have hsa9 : w9.heap.size = w8.heap.size + 1 := by omega
     clear hq1 hq2
     clear hI
     clear HMc
     go_loopw [] (fun wr => ∃ (us : List Cn) (st : MS) (gg : Nat) (a2 : Option Addr) (m2 c2 : Nat), consM ts f gg us st = some (cs, se) ∧ Hid (RS ts aL n cap q st ((0 : Nat) : Int) wr) ∧ Hid (FarB q w.heap.size w wr) ∧ Hid (Bo wr w.heap.size 63 #[.string ⟨#[]⟩, .slice none 0 0, .slice none 0 0, .int .i64 0, .int .i64 0]) ∧ Hid (Bo wr w2.heap.size 63 #[.string (nameS ts (takeS ts s 5 wData) 3).1, .slice a1 m1 c1, .slice a2 m2 c2, .int .i64 (nowT ts s.i).l, .int .i64 (nowT ts s.i).c]) ∧ Hid (OwnD 0 w7.heap.size 65 4 wr (.slice a2 m2 c2) (us.map Cn.row)) ∧ Hid (Mem (NwS (Bt B0 T0) wr.heap.size) wr (.s 1 (vs.map strRow)) (.slice a1 m1 c1)) ∧ us.length + leftM ts st ≤ ts.length + 1 ∧ w7.heap.size ≤ wr.heap.size) (fun wr => posM ts.length q wr)
     case atStart => exact ⟨[cn], sc, f, _, _, _, H3.out, HP, HF, HBr, HBd, HOc, HYv, (by have := leftM_le (ts := ts) sc; simp only [List.length_cons, List.length_nil]; omega), by omega⟩
     case round =>
      clear HP HF HBr HBd HOc HYv HP1
      obtain ⟨us, st, gg, a2, m2, c2, hr1, HP, HF, HBr, HBd, HOc, HYv, hl1, hws⟩ := hrel
      have HP1 := HP
      have qc := kcR HP
      have rc := kc5 HBr; have dc := kc5 HBd
      have hI := iq_0_0_0 q w w2 wr
      go_wp2_with (fail)
      clear qc rc dc
      refine (mis_any 6 wBar _ HP.out).mono ?_
      rintro _ w10 ⟨rfl, hb⟩
      have hf := FarQ.of (q := q) hb
      replace HYv := qYB HYv hf
      replace HBr := qB HBr hf
      replace HBd := qB HBd hf
      replace HOc := qO HOc hf
      replace HF := qF HF hf
      have hs10 := hf.size
      replace HP := krP HP hb
      clear hf hb
      cases gg with
      | zero => rw [consM] at hr1; cases hr1
      | succ gg =>
       rw [consM] at hr1
       cases hc : isS ts st 6 wBar with
       | false =>
        rw [if_neg (by rw [hc]; decide)] at hr1
        cases hr1
        clear hI
        have qc := kcR HP
        have rc := kc5 HBr; have dc := kc5 HBd
        have hI := iq_0_0_0 q w w2 w10
        go_wp2_with (fail)
        clear qc rc dc
        generalize ee : World.setCell _ ⟨w.heap.size, 4, none⟩ _ = w11
        have hsz11 := sizeS5 ee
        replace HP := rpO5 HP ee
        replace HF := fN5 HF ee
        replace HBr := bS5 HBr ee
        replace HBd := bF5 HBd ee
        replace HOc := oS5 HOc ee
        replace HYv := yS5 HYv ee
        clear ee
        clear hI
        have fc := kc5 HBr
        refine bodyPost_ret (v := .agg #[.string (nameS ts (takeS ts s 5 wData) 3).1, .slice a1 m1 c1, .slice a2 m2 c2, .int .i64 (nowT ts s.i).l, .int .i64 (nowT ts s.i).c]) (by clear HP HF HP1 HBr HBd HOc HYv; simp [results, Try.results40, go_sem, fc]) rfl ?_
        exact ⟨_, _, _, _, _, _, rfl, HF.out.out, HP.out, memS_nw HYv.out (fun b hb => Nat.le_trans (by omega) hb.1), memNw HOc.out.mem (by omega)⟩
       | true =>
        rw [if_pos hc] at hr1
        have hok : st.ok = true := (isS_parts hc).1
        have hlt : st.i < ts.length := isT_lt (isS_parts hc).2 (by decide)
        obtain ⟨Y, hy1, hr1⟩ := Option.bind_eq_some_iff.1 hr1
        obtain ⟨y, sy⟩ := Y
        have hov : (st.i : Int) + 1 ≤ 9223372036854775807 := by omega
        have HOK := Lib.hid hok
        clear hok hc
        clear hI
        have qc := kcR HP
        have rc := kc5 HBr; have dc := kc5 HBd
        have hI := iq_0_0_0 q w w2 w10
        go_upto_region 11 with (fail)
        clear qc rc dc
        generalize ee : World.setCell w10 _ _ = w11
        have hsz11 := sizeS1 ee
        replace HP := Lib.hid (HP.out.setIE (k := (st.i + 1)) ee (by omega))
        replace HF := Lib.hid (HF.out.setQE ee)
        replace HBr := bF1 HBr ee
        replace HBd := bF1 HBd ee
        replace HOc := oS1 HOc ee
        replace HYv := yS1 HYv ee
        clear ee
        clear hI
        have qc := kcR HP
        have rc := kc5 HBr; have dc := kc5 HBd
        have hI := iq_0_0_0 q w w2 w11
        have hZ := iq_0_0_0 q w w2 w10
        have hlz : us.length + 1 ≤ 1048577 := by rw [leftM_ok HOK.out] at hl1; omega
        clear qc rc dc
        clear hI hZ
        have qc := kcR HP
        have rc := kc5 HBr; have dc := kc5 HBd
        have hI := iq_0_0_0 q w w2 w11
        have hZ := iq_0_0_0 q w w2 w10
        refine wp_region_held_drew (S := fun w' => Far (fun b => b = q ∨ b = w2.heap.size ∨ (Value.slice a2 m2 c2).ownBlock = some b) (w11) w') (by kernel_rfl) (Far.of (below_drew _)) (fun hS30 => ?_)
        refine takeA 0 (v := ?_) rfl ?_ ?_
        rotate_left
        · (intro w hSw; (try dsimp only at hSw); go_simp; try with_reducible rfl)
        try simp only [Act.put, pu1, pu2, pu3]
        refine takeA 2 (v := ?_) rfl ?_ ?_
        rotate_left
        · (intro w hSw; (try dsimp only at hSw); go_simp; try with_reducible rfl)
        try simp only [Act.put, pu1, pu2, pu3]

        refine twoL 1 3 rfl rfl (by kernel_rfl) (by rfl) (by rfl) (fun K hK => ?_) (fun K hK => ?_)
        ·
         go_simp
         refine hK.out _ _ ?_ (fun hS31 => ?_)
         · exact hS30
         clear hK K
         refine callA 3 rfl fun K hK => ?_
         clear qc rc dc
         have HOW : Hid (OwnD 0 (w7.heap.size) 65 4 w11 (.slice a2 m2 c2) (us.map Cn.row)) := HOc
         go_simp
         refine (con_any _ hy1 HP.out.drew).mono ?_
         rintro e wx32 ⟨ay, my, cy, rfl, hf, hp, hm⟩
         replace hf : FarQ q w11 wx32 := (FarQ.of (below_drew _)).trans hf
         have hswx32 : w11.heap.size ≤ wx32.heap.size := hf.size
         replace HBr := qB HBr hf
         replace HBd := qB HBd hf
         replace HOc := qO HOc hf
         replace HYv := qYB HYv hf
         replace HF := qF HF hf
         replace HP := Lib.hid hp
         have HMy : Hid (Mem (Nw 0 w11.heap.size _) _ _ _) := Lib.hid hm
         clear hm
         simp only [cnV]
         go_simp
         refine hK.out _ _ ?_ (fun hS32 => ?_)
         · exact Far.mono hf (fun b e => .inl e)
         clear hK K hp hf
         refine callA 4 rfl fun K hK => ?_
         go_simp
         refine hK.out _ _ ?_ (fun hS33 => ?_)
         · exact Far.trans hS32 (Far.of (below_new _ _))
         clear hK K

         refine callA 5 rfl fun K hK => ?_
         refine wp_append_D2 _ _ (by rfl) Try.underlying61 info_conM rfl (by decide) (by rfl) (by rfl) (HOc.out.alloc _) (row_app HOW.out (by omega) (by omega) (cn_mem (x := y) HMy.out) rfl) (by simp only [List.length_map, List.length_cons, List.length_nil]; omega) (by simp only [List.length_map, List.length_cons, List.length_nil]; omega) (by rw [World.size_alloc]; omega) (fun v9 w9 ho hg => ?_)
         obtain ⟨a9, m9, c9, rfl⟩ := mem_slice ho.mem
         refine hK.out _ _ ?_ (fun hS34 => ?_)
         · exact Far.trans hS33 ((grownFar hg).mono (fun b e => .inr (.inr e)))
         clear hK K
         have hs9 : wx32.heap.size + 1 ≤ w9.heap.size := by have h := hg.size; rw [World.size_alloc] at h; exact h
         have hob : ∀ k, (Value.slice a2 m2 c2).ownBlock = some k → w7.heap.size ≤ k := fun k hk => (HOc.out.lt k hk).1
         replace HP := Lib.hid ((HP.out.alloc _).grown hg fun k hk => by have := hob k hk; omega)
         replace HF := Lib.hid ((HF.out.alloc _).grown hg fun k hk => by have := hob k hk; omega)
         replace HBr := Lib.hid ((HBr.out.alloc _).grown hg fun k hk => by have := hob k hk; omega)
         replace HBd := Lib.hid ((HBd.out.alloc _).grown hg fun k hk => by have := hob k hk; omega)
         replace HYv := Lib.hid (memS_grown (memS_alloc HYv.out _) hg fun k hk => by have := hob k hk; unfold Bt; omega)
         have HOc9 : Hid (OwnD 0 (w7.heap.size) 65 4 w9 (.slice a9 m9 c9) ((us ++ [y]).map Cn.row)) := Lib.hid (by rw [List.map_append]; exact ho)
         clear ho hg hob HOW HOc
         refine takeA 6 (v := ?_) rfl ?_ ?_
         rotate_left
         · (intro w hSw; (try dsimp only at hSw); go_simp; try with_reducible rfl)
         try simp only [Act.put, pu1, pu2, pu3]
         refine callA 7 rfl fun K hK => ?_
         have qc := kcR HP
         have rc := kc5 HBr; have dc := kc5 HBd
         have hI := iq_0_0_0 q w w2 w9
         go_simp
         refine hK.out _ _ ?_ (fun hS35 => ?_)
         · exact Far.setCell hS34 (.inr (.inl rfl)) _
         clear hK K
         refine wpAnyH_done (by kernel_rfl) ?_ _

         clear qc rc dc
         generalize ee : World.setCell w9 _ _ = w12
         have hsz12 := sizeS1 ee
         replace HP := rpO1 HP ee
         replace HF := fN1 HF ee
         replace HBr := bF1 HBr ee
         replace HBd : Hid (Bo w12 w2.heap.size 63 #[.string (nameS ts (takeS ts s 5 wData) 3).1, .slice a1 m1 c1, .slice a9 m9 c9, .int .i64 (nowT ts s.i).l, .int .i64 (nowT ts s.i).c]) := Lib.hid (by rw [← ee]; exact HBd.out.set 2 (.slice a9 m9 c9))
         replace HOc9 := oS1 HOc9 ee
         replace HYv := yS1 HYv ee
         clear ee
         clear hI
         have qc := kcR HP
         have rc := kc5 HBr; have dc := kc5 HBd
         have hI := iq_0_0_0 q w w2 w12
         have hZ := iq_0_0_0 q w w2 w9
         go_wp2_with (fail)
         clear qc rc dc
         go_roundw
         case rel => exact ⟨us ++ [y], sy, gg, a9, m9, c9, hr1, HP, HF, HBr, HBd, HOc9, HYv, (by rw [leftM_ok HOK.out] at hl1; have h1 : leftM ts sy ≤ leftM ts st - 2 := leftM_step (ts := ts) ((step_next st).trans (conM_step hy1)); rw [leftM_ok HOK.out] at h1; rw [List.length_append, List.length_cons, List.length_nil]; omega), by omega⟩
         case measure => exact posM_step HP1.out HP.out _ (((step_next st).trans (conM_step hy1)).le (by decide)) HOK.out fun _ => hlt
        ·
         clear qc rc dc
         have HOW : Hid (OwnD 0 (w7.heap.size) 65 4 w11 (.slice a2 m2 c2) (us.map Cn.row)) := HOc
         go_simp
         refine (con_any _ hy1 HP.out.drew).mono ?_
         rintro e wx31 ⟨ay, my, cy, rfl, hf, hp, hm⟩
         replace hf : FarQ q w11 wx31 := (FarQ.of (below_drew _)).trans hf
         have hswx31 : w11.heap.size ≤ wx31.heap.size := hf.size
         replace HBr := qB HBr hf
         replace HBd := qB HBd hf
         replace HOc := qO HOc hf
         replace HYv := qYB HYv hf
         replace HF := qF HF hf
         replace HP := Lib.hid hp
         have HMy : Hid (Mem (Nw 0 w11.heap.size _) _ _ _) := Lib.hid hm
         clear hm
         simp only [cnV]
         go_simp
         refine hK.out _ _ ?_ (fun hS31 => ?_)
         · exact Far.mono hf (fun b e => .inl e)
         clear hK K hp hf
         refine twoL 1 4 rfl rfl (by kernel_rfl) (by rfl) (by rfl) (fun K hK => ?_) (fun K hK => ?_)
         ·
          have qc := kcR HP
          have rc := kc5 HBr; have dc := kc5 HBd
          have hI := iq_0_0_0 q w w2 wx31
          go_simp
          refine hK.out _ _ ?_ (fun hS32 => ?_)
          · exact hS31
          clear hK K
          clear qc rc dc
          refine callA 4 rfl fun K hK => ?_
          go_simp
          refine hK.out _ _ ?_ (fun hS33 => ?_)
          · exact Far.trans hS32 (Far.of (below_new _ _))
          clear hK K

          refine callA 5 rfl fun K hK => ?_
          refine wp_append_D2 _ _ (by rfl) Try.underlying61 info_conM rfl (by decide) (by rfl) (by rfl) (HOc.out.alloc _) (row_app HOW.out (by omega) (by omega) (cn_mem (x := y) HMy.out) rfl) (by simp only [List.length_map, List.length_cons, List.length_nil]; omega) (by simp only [List.length_map, List.length_cons, List.length_nil]; omega) (by rw [World.size_alloc]; omega) (fun v9 w9 ho hg => ?_)
          obtain ⟨a9, m9, c9, rfl⟩ := mem_slice ho.mem
          refine hK.out _ _ ?_ (fun hS34 => ?_)
          · exact Far.trans hS33 ((grownFar hg).mono (fun b e => .inr (.inr e)))
          clear hK K
          have hs9 : wx31.heap.size + 1 ≤ w9.heap.size := by have h := hg.size; rw [World.size_alloc] at h; exact h
          have hob : ∀ k, (Value.slice a2 m2 c2).ownBlock = some k → w7.heap.size ≤ k := fun k hk => (HOc.out.lt k hk).1
          replace HP := Lib.hid ((HP.out.alloc _).grown hg fun k hk => by have := hob k hk; omega)
          replace HF := Lib.hid ((HF.out.alloc _).grown hg fun k hk => by have := hob k hk; omega)
          replace HBr := Lib.hid ((HBr.out.alloc _).grown hg fun k hk => by have := hob k hk; omega)
          replace HBd := Lib.hid ((HBd.out.alloc _).grown hg fun k hk => by have := hob k hk; omega)
          replace HYv := Lib.hid (memS_grown (memS_alloc HYv.out _) hg fun k hk => by have := hob k hk; unfold Bt; omega)
          have HOc9 : Hid (OwnD 0 (w7.heap.size) 65 4 w9 (.slice a9 m9 c9) ((us ++ [y]).map Cn.row)) := Lib.hid (by rw [List.map_append]; exact ho)
          clear ho hg hob HOW HOc
          refine takeA 6 (v := ?_) rfl ?_ ?_
          rotate_left
          · (intro w hSw; (try dsimp only at hSw); go_simp; try with_reducible rfl)
          try simp only [Act.put, pu1, pu2, pu3]
          refine callA 7 rfl fun K hK => ?_
          have qc := kcR HP
          have rc := kc5 HBr; have dc := kc5 HBd
          have hI := iq_0_0_0 q w w2 w9
          go_simp
          refine hK.out _ _ ?_ (fun hS35 => ?_)
          · exact Far.setCell hS34 (.inr (.inl rfl)) _
          clear hK K
          refine wpAnyH_done (by kernel_rfl) ?_ _

          clear qc rc dc
          generalize ee : World.setCell w9 _ _ = w12
          have hsz12 := sizeS1 ee
          replace HP := rpO1 HP ee
          replace HF := fN1 HF ee
          replace HBr := bF1 HBr ee
          replace HBd : Hid (Bo w12 w2.heap.size 63 #[.string (nameS ts (takeS ts s 5 wData) 3).1, .slice a1 m1 c1, .slice a9 m9 c9, .int .i64 (nowT ts s.i).l, .int .i64 (nowT ts s.i).c]) := Lib.hid (by rw [← ee]; exact HBd.out.set 2 (.slice a9 m9 c9))
          replace HOc9 := oS1 HOc9 ee
          replace HYv := yS1 HYv ee
          clear ee
          clear hI
          have qc := kcR HP
          have rc := kc5 HBr; have dc := kc5 HBd
          have hI := iq_0_0_0 q w w2 w12
          have hZ := iq_0_0_0 q w w2 w9
          go_wp2_with (fail)
          clear qc rc dc
          go_roundw
          case rel => exact ⟨us ++ [y], sy, gg, a9, m9, c9, hr1, HP, HF, HBr, HBd, HOc9, HYv, (by rw [leftM_ok HOK.out] at hl1; have h1 : leftM ts sy ≤ leftM ts st - 2 := leftM_step (ts := ts) ((step_next st).trans (conM_step hy1)); rw [leftM_ok HOK.out] at h1; rw [List.length_append, List.length_cons, List.length_nil]; omega), by omega⟩
          case measure => exact posM_step HP1.out HP.out _ (((step_next st).trans (conM_step hy1)).le (by decide)) HOK.out fun _ => hlt
         ·
          go_simp
          refine hK.out _ _ ?_ (fun hS32 => ?_)
          · exact Far.trans hS31 (Far.of (below_new _ _))
          clear hK K
          have qc := kcR HP
          have rc := kc5 HBr; have dc := kc5 HBd
          have hI := iq_0_0_0 q w w2 wx31
          refine callA 1 rfl fun K hK => ?_
          go_simp
          refine hK.out _ _ ?_ (fun hS33 => ?_)
          · exact hS32
          clear hK K
          clear qc rc dc
          refine callA 5 rfl fun K hK => ?_
          refine wp_append_D2 _ _ (by rfl) Try.underlying61 info_conM rfl (by decide) (by rfl) (by rfl) (HOc.out.alloc _) (row_app HOW.out (by omega) (by omega) (cn_mem (x := y) HMy.out) rfl) (by simp only [List.length_map, List.length_cons, List.length_nil]; omega) (by simp only [List.length_map, List.length_cons, List.length_nil]; omega) (by rw [World.size_alloc]; omega) (fun v9 w9 ho hg => ?_)
          obtain ⟨a9, m9, c9, rfl⟩ := mem_slice ho.mem
          refine hK.out _ _ ?_ (fun hS34 => ?_)
          · exact Far.trans hS33 ((grownFar hg).mono (fun b e => .inr (.inr e)))
          clear hK K
          have hs9 : wx31.heap.size + 1 ≤ w9.heap.size := by have h := hg.size; rw [World.size_alloc] at h; exact h
          have hob : ∀ k, (Value.slice a2 m2 c2).ownBlock = some k → w7.heap.size ≤ k := fun k hk => (HOc.out.lt k hk).1
          replace HP := Lib.hid ((HP.out.alloc _).grown hg fun k hk => by have := hob k hk; omega)
          replace HF := Lib.hid ((HF.out.alloc _).grown hg fun k hk => by have := hob k hk; omega)
          replace HBr := Lib.hid ((HBr.out.alloc _).grown hg fun k hk => by have := hob k hk; omega)
          replace HBd := Lib.hid ((HBd.out.alloc _).grown hg fun k hk => by have := hob k hk; omega)
          replace HYv := Lib.hid (memS_grown (memS_alloc HYv.out _) hg fun k hk => by have := hob k hk; unfold Bt; omega)
          have HOc9 : Hid (OwnD 0 (w7.heap.size) 65 4 w9 (.slice a9 m9 c9) ((us ++ [y]).map Cn.row)) := Lib.hid (by rw [List.map_append]; exact ho)
          clear ho hg hob HOW HOc
          refine takeA 6 (v := ?_) rfl ?_ ?_
          rotate_left
          · (intro w hSw; (try dsimp only at hSw); go_simp; try with_reducible rfl)
          try simp only [Act.put, pu1, pu2, pu3]
          refine callA 7 rfl fun K hK => ?_
          have qc := kcR HP
          have rc := kc5 HBr; have dc := kc5 HBd
          have hI := iq_0_0_0 q w w2 w9
          go_simp
          refine hK.out _ _ ?_ (fun hS35 => ?_)
          · exact Far.setCell hS34 (.inr (.inl rfl)) _
          clear hK K
          refine wpAnyH_done (by kernel_rfl) ?_ _

          clear qc rc dc
          generalize ee : World.setCell w9 _ _ = w12
          have hsz12 := sizeS1 ee
          replace HP := rpO1 HP ee
          replace HF := fN1 HF ee
          replace HBr := bF1 HBr ee
          replace HBd : Hid (Bo w12 w2.heap.size 63 #[.string (nameS ts (takeS ts s 5 wData) 3).1, .slice a1 m1 c1, .slice a9 m9 c9, .int .i64 (nowT ts s.i).l, .int .i64 (nowT ts s.i).c]) := Lib.hid (by rw [← ee]; exact HBd.out.set 2 (.slice a9 m9 c9))
          replace HOc9 := oS1 HOc9 ee
          replace HYv := yS1 HYv ee
          clear ee
          clear hI
          have qc := kcR HP
          have rc := kc5 HBr; have dc := kc5 HBd
          have hI := iq_0_0_0 q w w2 w12
          have hZ := iq_0_0_0 q w w2 w9
          go_wp2_with (fail)
          clear qc rc dc
          go_roundw
          case rel => exact ⟨us ++ [y], sy, gg, a9, m9, c9, hr1, HP, HF, HBr, HBd, HOc9, HYv, (by rw [leftM_ok HOK.out] at hl1; have h1 : leftM ts sy ≤ leftM ts st - 2 := leftM_step (ts := ts) ((step_next st).trans (conM_step hy1)); rw [leftM_ok HOK.out] at h1; rw [List.length_append, List.length_cons, List.length_nil]; omega), by omega⟩
          case measure => exact posM_step HP1.out HP.out _ (((step_next st).trans (conM_step hy1)).le (by decide)) HOK.out fun _ => hlt
    | true =>
     have hk2 : ((nowT ts st.i).k == 2) = false := by rw [hok, Bool.true_and] at hc; simpa using hc
     clear hc hok
     go_wp2_with (fail)
     clear qc rc dc
     refine (mnow_any _ HP.out.bo HP.out.mem).mono ?_
     rintro _ w7 ⟨rfl, hb⟩
     have hf := FarQ.of (q := q) hb
     replace HBr := qB HBr hf
     replace HBd := qB HBd hf
     replace HOv := qO HOv hf
     replace HF := qF HF hf
     have hs7 := hf.size
     replace HP := krP HP hb
     clear hf hb
     simp only [tkV]
     clear hI
     have qc := kcR HP
     have rc := kc5 HBr; have dc := kc5 HBd
     have hI := iq_0_0_0 q w w2 w7
     go_wp2_with (fail)
     cases hr1
     obtain ⟨T0, hT0⟩ : ∃ k, k = w7.heap.size := ⟨_, rfl⟩
     have HYv : Hid (Mem (NwS (Bt B0 T0) w7.heap.size) w7 (.s 1 (vs.map strRow)) (.slice a1 m1 c1)) := Lib.hid (by rw [hT0]; exact memS_bt HOv.out.mem (by omega))
     clear HOv
     clear qc rc dc
     clear hI
     have qc := kcR HP
     have rc := kc5 HBr; have dc := kc5 HBd
     have hI := iq_0_0_0 q w w2 w7
     go_wp2_with (fail)
     clear qc rc dc
     refine (mtake_any 6 wEq _ HP.out (by decide)).mono ?_
     rintro _ w8 ⟨rfl, hf, hp⟩
     replace HYv := qYB HYv hf
     replace HBr := qB HBr hf
     replace HBd := qB HBd hf
     replace HF := qF HF hf
     have hs8 := hf.size
     replace HP := Lib.hid hp
     clear hf hp
     clear hI
     have qc := kcR HP
     have rc := kc5 HBr; have dc := kc5 HBd
     have hI := iq_0_0_0 q w w2 w8
     go_wp2_with (fail)
     clear qc rc dc
     refine (con_any _ H2.out HP.out).mono ?_
     rintro _ w9 ⟨ac, mc, cc, rfl, hf, hp, hm⟩
     replace HYv := qYB HYv hf
     replace HBr := qB HBr hf
     replace HBd := qB HBd hf
     replace HF := qF HF hf
     have hs9 := hf.size
     replace HP := Lib.hid hp
     have HMc := Lib.hid hm
     clear hf hp hm
     simp only [cnV]
     clear hI
     have qc := kcR HP
     have rc := kc5 HBr; have dc := kc5 HBd
     have hI := iq_0_0_0 q w w2 w9
     go_wp2_with (fail)
     clear qc rc dc
     generalize ee : World.setCell w9 _ _ = w10_1
     have hq1 := sizeS1 ee
     replace HP := rpO1 HP ee
     replace HF := fN1 HF ee
     replace HBr := bF1 HBr ee
     replace HBd : Hid (Bo w10_1 w2.heap.size 63 #[.string (nameS ts (takeS ts s 5 wData) 3).1, .slice a1 m1 c1, .slice (some ⟨w9.heap.size, 0, none⟩) 1 1, .int .i64 (nowT ts s.i).l, .int .i64 (nowT ts s.i).c]) := Lib.hid (by rw [← ee]; exact HBd.out.set 2 (.slice (some ⟨w9.heap.size, 0, none⟩) 1 1))
     replace HMc := mS1 HMc ee
     replace HYv := yS1 HYv ee
     clear ee
     generalize ee : World.alloc w10_1 _ = w10
     have hq2 := sizeA ee
     have HNEW := ownD_new ee (sz := 4) (b := w9.heap.size) (cn_mem (x := cn) HMc.out) rfl (by omega) (by omega)
     replace HP := rpA HP ee
     replace HF := fA HF ee
     replace HBr := bA HBr ee
     replace HBd := bA HBd ee
     replace HMc := mA HMc ee
     replace HYv := yA HYv ee
     have HOc := HNEW
     clear HNEW
     clear ee
     have hsa10 : w10.heap.size = w9.heap.size + 1 := by omega
     clear hq1 hq2
     clear hI
     clear HMc
     go_loopw [] (fun wr => ∃ (us : List Cn) (st : MS) (gg : Nat) (a2 : Option Addr) (m2 c2 : Nat), consM ts f gg us st = some (cs, se) ∧ Hid (RS ts aL n cap q st ((0 : Nat) : Int) wr) ∧ Hid (FarB q w.heap.size w wr) ∧ Hid (Bo wr w.heap.size 63 #[.string ⟨#[]⟩, .slice none 0 0, .slice none 0 0, .int .i64 0, .int .i64 0]) ∧ Hid (Bo wr w2.heap.size 63 #[.string (nameS ts (takeS ts s 5 wData) 3).1, .slice a1 m1 c1, .slice a2 m2 c2, .int .i64 (nowT ts s.i).l, .int .i64 (nowT ts s.i).c]) ∧ Hid (OwnD 0 w8.heap.size 65 4 wr (.slice a2 m2 c2) (us.map Cn.row)) ∧ Hid (Mem (NwS (Bt B0 T0) wr.heap.size) wr (.s 1 (vs.map strRow)) (.slice a1 m1 c1)) ∧ us.length + leftM ts st ≤ ts.length + 1 ∧ w8.heap.size ≤ wr.heap.size) (fun wr => posM ts.length q wr)
     case atStart => exact ⟨[cn], sc, f, _, _, _, H3.out, HP, HF, HBr, HBd, HOc, HYv, (by have := leftM_le (ts := ts) sc; simp only [List.length_cons, List.length_nil]; omega), by omega⟩
     case round =>
      clear HP HF HBr HBd HOc HYv HP1
      obtain ⟨us, st, gg, a2, m2, c2, hr1, HP, HF, HBr, HBd, HOc, HYv, hl1, hws⟩ := hrel
      have HP1 := HP
      have qc := kcR HP
      have rc := kc5 HBr; have dc := kc5 HBd
      have hI := iq_0_0_0 q w w2 wr
      go_wp2_with (fail)
      clear qc rc dc
      refine (mis_any 6 wBar _ HP.out).mono ?_
      rintro _ w11 ⟨rfl, hb⟩
      have hf := FarQ.of (q := q) hb
      replace HYv := qYB HYv hf
      replace HBr := qB HBr hf
      replace HBd := qB HBd hf
      replace HOc := qO HOc hf
      replace HF := qF HF hf
      have hs11 := hf.size
      replace HP := krP HP hb
      clear hf hb
      cases gg with
      | zero => rw [consM] at hr1; cases hr1
      | succ gg =>
       rw [consM] at hr1
       cases hc : isS ts st 6 wBar with
       | false =>
        rw [if_neg (by rw [hc]; decide)] at hr1
        cases hr1
        clear hI
        have qc := kcR HP
        have rc := kc5 HBr; have dc := kc5 HBd
        have hI := iq_0_0_0 q w w2 w11
        go_wp2_with (fail)
        clear qc rc dc
        generalize ee : World.setCell _ ⟨w.heap.size, 4, none⟩ _ = w12
        have hsz12 := sizeS5 ee
        replace HP := rpO5 HP ee
        replace HF := fN5 HF ee
        replace HBr := bS5 HBr ee
        replace HBd := bF5 HBd ee
        replace HOc := oS5 HOc ee
        replace HYv := yS5 HYv ee
        clear ee
        clear hI
        have fc := kc5 HBr
        refine bodyPost_ret (v := .agg #[.string (nameS ts (takeS ts s 5 wData) 3).1, .slice a1 m1 c1, .slice a2 m2 c2, .int .i64 (nowT ts s.i).l, .int .i64 (nowT ts s.i).c]) (by clear HP HF HP1 HBr HBd HOc HYv; simp [results, Try.results40, go_sem, fc]) rfl ?_
        exact ⟨_, _, _, _, _, _, rfl, HF.out.out, HP.out, memS_nw HYv.out (fun b hb => Nat.le_trans (by omega) hb.1), memNw HOc.out.mem (by omega)⟩
       | true =>
        rw [if_pos hc] at hr1
        have hok : st.ok = true := (isS_parts hc).1
        have hlt : st.i < ts.length := isT_lt (isS_parts hc).2 (by decide)
        obtain ⟨Y, hy1, hr1⟩ := Option.bind_eq_some_iff.1 hr1
        obtain ⟨y, sy⟩ := Y
        have hov : (st.i : Int) + 1 ≤ 9223372036854775807 := by omega
        have HOK := Lib.hid hok
        clear hok hc
        clear hI
        have qc := kcR HP
        have rc := kc5 HBr; have dc := kc5 HBd
        have hI := iq_0_0_0 q w w2 w11
        go_upto_region 11 with (fail)
        clear qc rc dc
        generalize ee : World.setCell w11 _ _ = w12
        have hsz12 := sizeS1 ee
        replace HP := Lib.hid (HP.out.setIE (k := (st.i + 1)) ee (by omega))
        replace HF := Lib.hid (HF.out.setQE ee)
        replace HBr := bF1 HBr ee
        replace HBd := bF1 HBd ee
        replace HOc := oS1 HOc ee
        replace HYv := yS1 HYv ee
        clear ee
        clear hI
        have qc := kcR HP
        have rc := kc5 HBr; have dc := kc5 HBd
        have hI := iq_0_0_0 q w w2 w12
        have hZ := iq_0_0_0 q w w2 w11
        have hlz : us.length + 1 ≤ 1048577 := by rw [leftM_ok HOK.out] at hl1; omega
        clear qc rc dc
        clear hI hZ
        have qc := kcR HP
        have rc := kc5 HBr; have dc := kc5 HBd
        have hI := iq_0_0_0 q w w2 w12
        have hZ := iq_0_0_0 q w w2 w11
        refine wp_region_held_drew (S := fun w' => Far (fun b => b = q ∨ b = w2.heap.size ∨ (Value.slice a2 m2 c2).ownBlock = some b) (w12) w') (by kernel_rfl) (Far.of (below_drew _)) (fun hS30 => ?_)
        refine takeA 0 (v := ?_) rfl ?_ ?_
        rotate_left
        · (intro w hSw; (try dsimp only at hSw); go_simp; try with_reducible rfl)
        try simp only [Act.put, pu1, pu2, pu3]
        refine takeA 2 (v := ?_) rfl ?_ ?_
        rotate_left
        · (intro w hSw; (try dsimp only at hSw); go_simp; try with_reducible rfl)
        try simp only [Act.put, pu1, pu2, pu3]

        refine twoL 1 3 rfl rfl (by kernel_rfl) (by rfl) (by rfl) (fun K hK => ?_) (fun K hK => ?_)
        ·
         go_simp
         refine hK.out _ _ ?_ (fun hS31 => ?_)
         · exact hS30
         clear hK K
         refine callA 3 rfl fun K hK => ?_
         clear qc rc dc
         have HOW : Hid (OwnD 0 (w8.heap.size) 65 4 w12 (.slice a2 m2 c2) (us.map Cn.row)) := HOc
         go_simp
         refine (con_any _ hy1 HP.out.drew).mono ?_
         rintro e wx32 ⟨ay, my, cy, rfl, hf, hp, hm⟩
         replace hf : FarQ q w12 wx32 := (FarQ.of (below_drew _)).trans hf
         have hswx32 : w12.heap.size ≤ wx32.heap.size := hf.size
         replace HBr := qB HBr hf
         replace HBd := qB HBd hf
         replace HOc := qO HOc hf
         replace HYv := qYB HYv hf
         replace HF := qF HF hf
         replace HP := Lib.hid hp
         have HMy : Hid (Mem (Nw 0 w12.heap.size _) _ _ _) := Lib.hid hm
         clear hm
         simp only [cnV]
         go_simp
         refine hK.out _ _ ?_ (fun hS32 => ?_)
         · exact Far.mono hf (fun b e => .inl e)
         clear hK K hp hf
         refine callA 4 rfl fun K hK => ?_
         go_simp
         refine hK.out _ _ ?_ (fun hS33 => ?_)
         · exact Far.trans hS32 (Far.of (below_new _ _))
         clear hK K

         refine callA 5 rfl fun K hK => ?_
         refine wp_append_D2 _ _ (by rfl) Try.underlying61 info_conM rfl (by decide) (by rfl) (by rfl) (HOc.out.alloc _) (row_app HOW.out (by omega) (by omega) (cn_mem (x := y) HMy.out) rfl) (by simp only [List.length_map, List.length_cons, List.length_nil]; omega) (by simp only [List.length_map, List.length_cons, List.length_nil]; omega) (by rw [World.size_alloc]; omega) (fun v9 w9 ho hg => ?_)
         obtain ⟨a9, m9, c9, rfl⟩ := mem_slice ho.mem
         refine hK.out _ _ ?_ (fun hS34 => ?_)
         · exact Far.trans hS33 ((grownFar hg).mono (fun b e => .inr (.inr e)))
         clear hK K
         have hs9 : wx32.heap.size + 1 ≤ w9.heap.size := by have h := hg.size; rw [World.size_alloc] at h; exact h
         have hob : ∀ k, (Value.slice a2 m2 c2).ownBlock = some k → w8.heap.size ≤ k := fun k hk => (HOc.out.lt k hk).1
         replace HP := Lib.hid ((HP.out.alloc _).grown hg fun k hk => by have := hob k hk; omega)
         replace HF := Lib.hid ((HF.out.alloc _).grown hg fun k hk => by have := hob k hk; omega)
         replace HBr := Lib.hid ((HBr.out.alloc _).grown hg fun k hk => by have := hob k hk; omega)
         replace HBd := Lib.hid ((HBd.out.alloc _).grown hg fun k hk => by have := hob k hk; omega)
         replace HYv := Lib.hid (memS_grown (memS_alloc HYv.out _) hg fun k hk => by have := hob k hk; unfold Bt; omega)
         have HOc9 : Hid (OwnD 0 (w8.heap.size) 65 4 w9 (.slice a9 m9 c9) ((us ++ [y]).map Cn.row)) := Lib.hid (by rw [List.map_append]; exact ho)
         clear ho hg hob HOW HOc
         refine takeA 6 (v := ?_) rfl ?_ ?_
         rotate_left
         · (intro w hSw; (try dsimp only at hSw); go_simp; try with_reducible rfl)
         try simp only [Act.put, pu1, pu2, pu3]
         refine callA 7 rfl fun K hK => ?_
         have qc := kcR HP
         have rc := kc5 HBr; have dc := kc5 HBd
         have hI := iq_0_0_0 q w w2 w9
         go_simp
         refine hK.out _ _ ?_ (fun hS35 => ?_)
         · exact Far.setCell hS34 (.inr (.inl rfl)) _
         clear hK K
         refine wpAnyH_done (by kernel_rfl) ?_ _

         clear qc rc dc
         generalize ee : World.setCell w9 _ _ = w13
         have hsz13 := sizeS1 ee
         replace HP := rpO1 HP ee
         replace HF := fN1 HF ee
         replace HBr := bF1 HBr ee
         replace HBd : Hid (Bo w13 w2.heap.size 63 #[.string (nameS ts (takeS ts s 5 wData) 3).1, .slice a1 m1 c1, .slice a9 m9 c9, .int .i64 (nowT ts s.i).l, .int .i64 (nowT ts s.i).c]) := Lib.hid (by rw [← ee]; exact HBd.out.set 2 (.slice a9 m9 c9))
         replace HOc9 := oS1 HOc9 ee
         replace HYv := yS1 HYv ee
         clear ee
         clear hI
         have qc := kcR HP
         have rc := kc5 HBr; have dc := kc5 HBd
         have hI := iq_0_0_0 q w w2 w13
         have hZ := iq_0_0_0 q w w2 w9
         go_wp2_with (fail)
         clear qc rc dc
         go_roundw
         case rel => exact ⟨us ++ [y], sy, gg, a9, m9, c9, hr1, HP, HF, HBr, HBd, HOc9, HYv, (by rw [leftM_ok HOK.out] at hl1; have h1 : leftM ts sy ≤ leftM ts st - 2 := leftM_step (ts := ts) ((step_next st).trans (conM_step hy1)); rw [leftM_ok HOK.out] at h1; rw [List.length_append, List.length_cons, List.length_nil]; omega), by omega⟩
         case measure => exact posM_step HP1.out HP.out _ (((step_next st).trans (conM_step hy1)).le (by decide)) HOK.out fun _ => hlt
        ·
         clear qc rc dc
         have HOW : Hid (OwnD 0 (w8.heap.size) 65 4 w12 (.slice a2 m2 c2) (us.map Cn.row)) := HOc
         go_simp
         refine (con_any _ hy1 HP.out.drew).mono ?_
         rintro e wx31 ⟨ay, my, cy, rfl, hf, hp, hm⟩
         replace hf : FarQ q w12 wx31 := (FarQ.of (below_drew _)).trans hf
         have hswx31 : w12.heap.size ≤ wx31.heap.size := hf.size
         replace HBr := qB HBr hf
         replace HBd := qB HBd hf
         replace HOc := qO HOc hf
         replace HYv := qYB HYv hf
         replace HF := qF HF hf
         replace HP := Lib.hid hp
         have HMy : Hid (Mem (Nw 0 w12.heap.size _) _ _ _) := Lib.hid hm
         clear hm
         simp only [cnV]
         go_simp
         refine hK.out _ _ ?_ (fun hS31 => ?_)
         · exact Far.mono hf (fun b e => .inl e)
         clear hK K hp hf
         refine twoL 1 4 rfl rfl (by kernel_rfl) (by rfl) (by rfl) (fun K hK => ?_) (fun K hK => ?_)
         ·
          have qc := kcR HP
          have rc := kc5 HBr; have dc := kc5 HBd
          have hI := iq_0_0_0 q w w2 wx31
          go_simp
          refine hK.out _ _ ?_ (fun hS32 => ?_)
          · exact hS31
          clear hK K
          clear qc rc dc
          refine callA 4 rfl fun K hK => ?_
          go_simp
          refine hK.out _ _ ?_ (fun hS33 => ?_)
          · exact Far.trans hS32 (Far.of (below_new _ _))
          clear hK K

          refine callA 5 rfl fun K hK => ?_
          refine wp_append_D2 _ _ (by rfl) Try.underlying61 info_conM rfl (by decide) (by rfl) (by rfl) (HOc.out.alloc _) (row_app HOW.out (by omega) (by omega) (cn_mem (x := y) HMy.out) rfl) (by simp only [List.length_map, List.length_cons, List.length_nil]; omega) (by simp only [List.length_map, List.length_cons, List.length_nil]; omega) (by rw [World.size_alloc]; omega) (fun v9 w9 ho hg => ?_)
          obtain ⟨a9, m9, c9, rfl⟩ := mem_slice ho.mem
          refine hK.out _ _ ?_ (fun hS34 => ?_)
          · exact Far.trans hS33 ((grownFar hg).mono (fun b e => .inr (.inr e)))
          clear hK K
          have hs9 : wx31.heap.size + 1 ≤ w9.heap.size := by have h := hg.size; rw [World.size_alloc] at h; exact h
          have hob : ∀ k, (Value.slice a2 m2 c2).ownBlock = some k → w8.heap.size ≤ k := fun k hk => (HOc.out.lt k hk).1
          replace HP := Lib.hid ((HP.out.alloc _).grown hg fun k hk => by have := hob k hk; omega)
          replace HF := Lib.hid ((HF.out.alloc _).grown hg fun k hk => by have := hob k hk; omega)
          replace HBr := Lib.hid ((HBr.out.alloc _).grown hg fun k hk => by have := hob k hk; omega)
          replace HBd := Lib.hid ((HBd.out.alloc _).grown hg fun k hk => by have := hob k hk; omega)
          replace HYv := Lib.hid (memS_grown (memS_alloc HYv.out _) hg fun k hk => by have := hob k hk; unfold Bt; omega)
          have HOc9 : Hid (OwnD 0 (w8.heap.size) 65 4 w9 (.slice a9 m9 c9) ((us ++ [y]).map Cn.row)) := Lib.hid (by rw [List.map_append]; exact ho)
          clear ho hg hob HOW HOc
          refine takeA 6 (v := ?_) rfl ?_ ?_
          rotate_left
          · (intro w hSw; (try dsimp only at hSw); go_simp; try with_reducible rfl)
          try simp only [Act.put, pu1, pu2, pu3]
          refine callA 7 rfl fun K hK => ?_
          have qc := kcR HP
          have rc := kc5 HBr; have dc := kc5 HBd
          have hI := iq_0_0_0 q w w2 w9
          go_simp
          refine hK.out _ _ ?_ (fun hS35 => ?_)
          · exact Far.setCell hS34 (.inr (.inl rfl)) _
          clear hK K
          refine wpAnyH_done (by kernel_rfl) ?_ _

          clear qc rc dc
          generalize ee : World.setCell w9 _ _ = w13
          have hsz13 := sizeS1 ee
          replace HP := rpO1 HP ee
          replace HF := fN1 HF ee
          replace HBr := bF1 HBr ee
          replace HBd : Hid (Bo w13 w2.heap.size 63 #[.string (nameS ts (takeS ts s 5 wData) 3).1, .slice a1 m1 c1, .slice a9 m9 c9, .int .i64 (nowT ts s.i).l, .int .i64 (nowT ts s.i).c]) := Lib.hid (by rw [← ee]; exact HBd.out.set 2 (.slice a9 m9 c9))
          replace HOc9 := oS1 HOc9 ee
          replace HYv := yS1 HYv ee
          clear ee
          clear hI
          have qc := kcR HP
          have rc := kc5 HBr; have dc := kc5 HBd
          have hI := iq_0_0_0 q w w2 w13
          have hZ := iq_0_0_0 q w w2 w9
          go_wp2_with (fail)
          clear qc rc dc
          go_roundw
          case rel => exact ⟨us ++ [y], sy, gg, a9, m9, c9, hr1, HP, HF, HBr, HBd, HOc9, HYv, (by rw [leftM_ok HOK.out] at hl1; have h1 : leftM ts sy ≤ leftM ts st - 2 := leftM_step (ts := ts) ((step_next st).trans (conM_step hy1)); rw [leftM_ok HOK.out] at h1; rw [List.length_append, List.length_cons, List.length_nil]; omega), by omega⟩
          case measure => exact posM_step HP1.out HP.out _ (((step_next st).trans (conM_step hy1)).le (by decide)) HOK.out fun _ => hlt
         ·
          go_simp
          refine hK.out _ _ ?_ (fun hS32 => ?_)
          · exact Far.trans hS31 (Far.of (below_new _ _))
          clear hK K
          have qc := kcR HP
          have rc := kc5 HBr; have dc := kc5 HBd
          have hI := iq_0_0_0 q w w2 wx31
          refine callA 1 rfl fun K hK => ?_
          go_simp
          refine hK.out _ _ ?_ (fun hS33 => ?_)
          · exact hS32
          clear hK K
          clear qc rc dc
          refine callA 5 rfl fun K hK => ?_
          refine wp_append_D2 _ _ (by rfl) Try.underlying61 info_conM rfl (by decide) (by rfl) (by rfl) (HOc.out.alloc _) (row_app HOW.out (by omega) (by omega) (cn_mem (x := y) HMy.out) rfl) (by simp only [List.length_map, List.length_cons, List.length_nil]; omega) (by simp only [List.length_map, List.length_cons, List.length_nil]; omega) (by rw [World.size_alloc]; omega) (fun v9 w9 ho hg => ?_)
          obtain ⟨a9, m9, c9, rfl⟩ := mem_slice ho.mem
          refine hK.out _ _ ?_ (fun hS34 => ?_)
          · exact Far.trans hS33 ((grownFar hg).mono (fun b e => .inr (.inr e)))
          clear hK K
          have hs9 : wx31.heap.size + 1 ≤ w9.heap.size := by have h := hg.size; rw [World.size_alloc] at h; exact h
          have hob : ∀ k, (Value.slice a2 m2 c2).ownBlock = some k → w8.heap.size ≤ k := fun k hk => (HOc.out.lt k hk).1
          replace HP := Lib.hid ((HP.out.alloc _).grown hg fun k hk => by have := hob k hk; omega)
          replace HF := Lib.hid ((HF.out.alloc _).grown hg fun k hk => by have := hob k hk; omega)
          replace HBr := Lib.hid ((HBr.out.alloc _).grown hg fun k hk => by have := hob k hk; omega)
          replace HBd := Lib.hid ((HBd.out.alloc _).grown hg fun k hk => by have := hob k hk; omega)
          replace HYv := Lib.hid (memS_grown (memS_alloc HYv.out _) hg fun k hk => by have := hob k hk; unfold Bt; omega)
          have HOc9 : Hid (OwnD 0 (w8.heap.size) 65 4 w9 (.slice a9 m9 c9) ((us ++ [y]).map Cn.row)) := Lib.hid (by rw [List.map_append]; exact ho)
          clear ho hg hob HOW HOc
          refine takeA 6 (v := ?_) rfl ?_ ?_
          rotate_left
          · (intro w hSw; (try dsimp only at hSw); go_simp; try with_reducible rfl)
          try simp only [Act.put, pu1, pu2, pu3]
          refine callA 7 rfl fun K hK => ?_
          have qc := kcR HP
          have rc := kc5 HBr; have dc := kc5 HBd
          have hI := iq_0_0_0 q w w2 w9
          go_simp
          refine hK.out _ _ ?_ (fun hS35 => ?_)
          · exact Far.setCell hS34 (.inr (.inl rfl)) _
          clear hK K
          refine wpAnyH_done (by kernel_rfl) ?_ _

          clear qc rc dc
          generalize ee : World.setCell w9 _ _ = w13
          have hsz13 := sizeS1 ee
          replace HP := rpO1 HP ee
          replace HF := fN1 HF ee
          replace HBr := bF1 HBr ee
          replace HBd : Hid (Bo w13 w2.heap.size 63 #[.string (nameS ts (takeS ts s 5 wData) 3).1, .slice a1 m1 c1, .slice a9 m9 c9, .int .i64 (nowT ts s.i).l, .int .i64 (nowT ts s.i).c]) := Lib.hid (by rw [← ee]; exact HBd.out.set 2 (.slice a9 m9 c9))
          replace HOc9 := oS1 HOc9 ee
          replace HYv := yS1 HYv ee
          clear ee
          clear hI
          have qc := kcR HP
          have rc := kc5 HBr; have dc := kc5 HBd
          have hI := iq_0_0_0 q w w2 w13
          have hZ := iq_0_0_0 q w w2 w9
          go_wp2_with (fail)
          clear qc rc dc
          go_roundw
          case rel => exact ⟨us ++ [y], sy, gg, a9, m9, c9, hr1, HP, HF, HBr, HBd, HOc9, HYv, (by rw [leftM_ok HOK.out] at hl1; have h1 : leftM ts sy ≤ leftM ts st - 2 := leftM_step (ts := ts) ((step_next st).trans (conM_step hy1)); rw [leftM_ok HOK.out] at h1; rw [List.length_append, List.length_cons, List.length_nil]; omega), by omega⟩
          case measure => exact posM_step HP1.out HP.out _ (((step_next st).trans (conM_step hy1)).le (by decide)) HOK.out fun _ => hlt
end
end Go.Proofs.Ytcoiagfeoonpbaa
