/-
  The module reader's rule: patterns, a guard, a body. No condition but how the reader and the tokens lie.
-/
import Derived.Test.YtcoiagfeoonpbaaSt31
import Derived.Test.YtcoiagfeoonpbaaSt32
import Derived.Test.YtcoiagfeoonpbaaSt21
namespace Go.Proofs.Ytcoiagfeoonpbaa
open Go.RowKit
section
variable {ts : List Tk} {aL : Option Addr} {n cap q : Nat}
theorem partM_lt {F : Nat} {nt : Nt} (hn : nt = .pat ∨ nt = .expr) {s s' : MS} {x : Ex} (h : partM ts F nt s = some (x, s')) (hs : s.ok = true) (hok : s'.ok = true) : s.i < ts.length := by
  unfold partM at h
  rw [if_neg (by rw [hs]; decide)] at h
  split at h
  · cases h
  · rename_i x' j hr
    cases h
    have g := readE_fwd _ _ _ _ _ _ hr
    rcases hn with rfl | rfl <;> (simp only [Fwd] at g; omega)
  · cases h
    cases hok
theorem ex_rows1 (y : Ex) : Ex.rows [y] = [y.row] := by rw [Ex.rows_eq]; rfl
def UAns (ts : List Tk) (aL : Option Addr) (n cap q : Nat) (x : Ru) (s' : MS) (W : World) (e : Ending) (w' : World) : Prop :=
  ∃ a m c a' m' c' b k d, e = .returned (.agg #[.string x.name, .slice a m c, .slice a' m' c', .int .i64 x.body.kind, .string x.body.name, .int .i64 x.body.n, .slice b k d, .int .i64 x.body.line, .int .i64 x.body.col, .int .i64 x.l, .int .i64 x.c]) ∧ FarQ q W w' ∧ RS ts aL n cap q s' ((0 : Nat) : Int) w' ∧ Mem (Nw 0 W.heap.size w'.heap.size) w' (.s 6 (Ex.rows x.pats)) (.slice a m c) ∧ Mem (Nw 0 W.heap.size w'.heap.size) w' (.s 6 (Ex.rows x.guard)) (.slice a' m' c') ∧ Mem (Nw 0 W.heap.size w'.heap.size) w' (.s 6 (Ex.rows x.body.args)) (.slice b k d)
attribute [local go_sem] tk_pos tk_kindM
set_option maxRecDepth 100000 in
set_option maxHeartbeats 20000000 in
theorem rule_any {F f : Nat} {s s' : MS} {x : Ru} (w : World) (hr : ruleM ts F f s = some (x, s')) (hp : RS ts aL n cap q s ((0 : Nat) : Int) w) : Calls Try.prog 41 #[.pointer (some ⟨q, 0, none⟩)] w (UAns ts aL n cap q x s' w) := by
 have HP := Lib.hid hp
 have hq0 := hp.lt
 have HF := Lib.hid (FarB.refl q w.heap.size w)
 have hsm := hp.sm
 have hlen := hp.len
 clear hp
 unfold ruleM at hr
 obtain ⟨V, hr1, hr⟩ := Option.bind_eq_some_iff.1 hr
 obtain ⟨G, hr2, hr⟩ := Option.bind_eq_some_iff.1 hr
 obtain ⟨E, hr3, hr4⟩ := Option.map_eq_some_iff.1 hr
 cases hr4
 obtain ⟨ps, sp⟩ := V
 obtain ⟨gl, sg⟩ := G
 obtain ⟨bd, sb⟩ := E
 have H3 := Lib.hid hr3
 have H2 := Lib.hid hr2
 clear hr hr3 hr2
 go_enter Try.func41, Try.ntmps41
 go_upto_region 1 with (fail)
 generalize ee : World.alloc w _ = w1
 have hsa1 := sizeA ee
 replace HP := rpA HP ee
 replace HF := fA HF ee
 have HBr := nB ee (w.heap.size)
 clear ee
 have qc := kcR HP
 have rc := HBr.out.c11z
 have hI := iq_0_0 q w w1
 have hZ := iq_01 q w
 go_wp2_with (fail)
 clear qc rc
 refine (mnow_any _ HP.out.bo HP.out.mem).mono ?_
 rintro _ w2 ⟨rfl, hb⟩
 have hf := FarQ.of (q := q) hb
 replace HBr := qB HBr hf
 replace HF := qF HF hf
 have hs2 := hf.size
 replace HP := krP HP hb
 clear hf hb
 simp only [tkV]
 clear hI hZ
 have qc := kcR HP
 have rc := HBr.out.c11z
 have hI := iq_0_0 q w w2
 go_upto_region 2 with (fail)
 clear qc rc
 generalize ee : World.alloc w2 _ = w3
 have hsa3 := sizeA ee
 replace HP := rpA HP ee
 replace HF := fA HF ee
 replace HBr := bA HBr ee
 have HBx := nB ee (w2.heap.size)
 clear ee
 clear hI
 have qc := kcR HP
 have rc := HBr.out.c11z; have xc := HBx.out.c11z
 have hI := iq_0_0_0 q w w2 w3
 have hZ := iq_0_01 q w w2
 go_wp2_with (fail)
 clear qc rc xc
 refine (mname_any 2 _ HP.out (by decide)).mono ?_
 rintro _ w4 ⟨rfl, hf, hp⟩
 replace HBr := qB HBr hf
 replace HBx := qB HBx hf
 replace HF := qF HF hf
 have hs4 := hf.size
 replace HP := Lib.hid hp
 clear hf hp
 clear hI hZ
 have qc := kcR HP
 have rc := HBr.out.c11z; have xc := HBx.out.c11z
 have hI := iq_0_0_0 q w w2 w4
 go_wp2_with (fail)
 clear qc rc xc
 generalize ee : World.setCell w4 _ _ = w5
 have hsz5 := sizeS1 ee
 replace HP := rpO1 HP ee
 replace HF := fN1 HF ee
 replace HBr := bF1 HBr ee
 replace HBx : Hid (Bo w5 w2.heap.size 91 #[.string (nameS ts s 2).1, .slice none 0 0, .slice none 0 0, .int .i64 0, .string ⟨#[]⟩, .int .i64 0, .slice none 0 0, .int .i64 0, .int .i64 0, .int .i64 (nowT ts s.i).l, .int .i64 (nowT ts s.i).c]) := Lib.hid (by rw [← ee]; exact HBx.out.set 0 (.string (nameS ts s 2).1))
 clear ee
 clear hI
 have hb0 : w.heap.size < w5.heap.size ∧ w2.heap.size < w5.heap.size := by constructor <;> omega
 generalize hB0 : w5.heap.size = B0 at *
 go_loopw [] (fun wr => ∃ (us : List Ex) (st : MS) (gg : Nat) (a1 : Option Addr) (m1 c1 : Nat), patsM ts F gg us st = some (ps, sp) ∧ Hid (RS ts aL n cap q st ((0 : Nat) : Int) wr) ∧ Hid (FarB q w.heap.size w wr) ∧ Hid (Bo wr w.heap.size 91 #[.string ⟨#[]⟩, .slice none 0 0, .slice none 0 0, .int .i64 0, .string ⟨#[]⟩, .int .i64 0, .slice none 0 0, .int .i64 0, .int .i64 0, .int .i64 0, .int .i64 0]) ∧ Hid (Bo wr w2.heap.size 91 #[.string (nameS ts s 2).1, .slice a1 m1 c1, .slice none 0 0, .int .i64 0, .string ⟨#[]⟩, .int .i64 0, .slice none 0 0, .int .i64 0, .int .i64 0, .int .i64 (nowT ts s.i).l, .int .i64 (nowT ts s.i).c]) ∧ Hid (OwnD 0 B0 27 6 wr (.slice a1 m1 c1) (Ex.rows us)) ∧ (st.ok = true → us.length + leftM ts st ≤ ts.length) ∧ us.length ≤ ts.length + 1 ∧ B0 ≤ wr.heap.size) (fun wr => posM ts.length q wr)
 case atStart => exact ⟨[], _, f, none, 0, 0, hr1, HP, HF, HBr, HBx, Lib.hid (OwnD.nil _ _ _ _ _), (fun _ => by have := leftM_le (ts := ts) (nameS ts s 2).2; simp only [List.length_nil]; omega), by simp, by omega⟩
 case round =>
  clear HP HF HBr HBx hr1
  obtain ⟨us, st, gg, a1, m1, c1, hr1, HP, HF, HBr, HBx, HOv, hl1, hl2, hws⟩ := hrel
  have HP1 := HP
  have qc := kcR HP
  have rc := HBr.out.c11z; have xc := HBx.out.c11z
  have hI := iq_0_0_0 q w w2 wr
  go_wp2_with (fail)
  refine (mok_any _ HP.out).mono ?_
  rintro _ _ ⟨rfl, rfl⟩
  cases gg with
  | zero => rw [patsM] at hr1; cases hr1
  | succ gg =>
   rw [patsM] at hr1
   cases hok : st.ok with
   | false =>
    rw [if_neg (by rw [hok]; simp)] at hr1
    go_wp2_with (fail)
    cases hr1
    obtain ⟨T0, hT0⟩ : ∃ k, k = wr.heap.size := ⟨_, rfl⟩
    have HYv : Hid (Mem (NwS (Bt B0 T0) wr.heap.size) wr (.s 6 (Ex.rows ps)) (.slice a1 m1 c1)) := Lib.hid (by rw [hT0]; exact memS_bt HOv.out.mem (by omega))
    clear HOv HP1
    clear qc rc xc
    clear hI
    have qc := kcR HP
    have rc := HBr.out.c11z; have xc := HBx.out.c11z
    have hI := iq_0_0_0 q w w2 wr
    go_wp2_with (fail)
    clear qc rc xc
    refine (mis_any 6 wBar _ HP.out).mono ?_
    rintro _ w6 ⟨rfl, hb⟩
    have hf := FarQ.of (q := q) hb
    replace HYv := qYB HYv hf
    replace HBr := qB HBr hf
    replace HBx := qB HBx hf
    replace HF := qF HF hf
    have hs6 := hf.size
    replace HP := krP HP hb
    clear hf hb
    have hg2 := H2.out
    unfold guardM at hg2
    cases hgb : isS ts sp 6 wBar with
    | false =>
     rw [if_neg (by rw [hgb]; decide)] at hg2
     cases hg2
     clear hI
     have qc := kcR HP
     have rc := HBr.out.c11z; have xc := HBx.out.c11z
     have hI := iq_0_0_0 q w w2 w6
     go_wp2_with (fail)
     clear qc rc xc
     refine (mtake_any 6 wEq _ HP.out (by decide)).mono ?_
     rintro _ w7 ⟨rfl, hf, hp⟩
     replace HYv := qYB HYv hf
     replace HBr := qB HBr hf
     replace HBx := qB HBx hf
     replace HF := qF HF hf
     have hs7 := hf.size
     replace HP := Lib.hid hp
     clear hf hp
     clear hI
     have qc := kcR HP
     have rc := HBr.out.c11z; have xc := HBx.out.c11z
     have hI := iq_0_0_0 q w w2 w7
     go_wp2_with (fail)
     clear qc rc xc
     refine (part_expr _ H3.out HP.out).mono ?_
     rintro _ w8 ⟨ab, mb, cb, rfl, hf, hp, hm⟩
     replace HYv := qYB HYv hf
     replace HBr := qB HBr hf
     replace HBx := qB HBx hf
     replace HF := qF HF hf
     have hs8 := hf.size
     replace HP := Lib.hid hp
     have HMb := Lib.hid hm
     clear hf hp hm
     simp only [exV]
     obtain ⟨T2, hT2⟩ : ∃ k, k = w8.heap.size := ⟨_, rfl⟩
     have HYb : Hid (Mem (NwS (Bt w7.heap.size T2) w8.heap.size) w8 (.s 6 (Ex.rows bd.args)) (.slice ab mb cb)) := Lib.hid (by rw [hT2]; exact memS_bt HMb.out (by omega))
     clear HMb
     clear hI
     have qc := kcR HP
     have rc := HBr.out.c11z; have xc := HBx.out.c11z
     have hI := iq_0_0_0 q w w2 w8
     go_upto_region 10 with (fail)
     clear qc rc xc
     generalize ee : World.setCell w8 _ _ = w9_1
     have hq1 := sizeS1 ee
     replace HP := rpO1 HP ee
     replace HF := fN1 HF ee
     replace HBr := bF1 HBr ee
     replace HBx : Hid (Bo w9_1 w2.heap.size 91 #[.string (nameS ts s 2).1, .slice a1 m1 c1, .slice none 0 0, .int .i64 bd.kind, .string ⟨#[]⟩, .int .i64 0, .slice none 0 0, .int .i64 0, .int .i64 0, .int .i64 (nowT ts s.i).l, .int .i64 (nowT ts s.i).c]) := Lib.hid (by rw [← ee]; exact HBx.out.set 3 (.int .i64 bd.kind))
     replace HYv := yS1 HYv ee
     replace HYb := yS1 HYb ee
     clear ee
     generalize ee : World.setCell w9_1 _ _ = w9_2
     have hq2 := sizeS1 ee
     replace HP := rpO1 HP ee
     replace HF := fN1 HF ee
     replace HBr := bF1 HBr ee
     replace HBx : Hid (Bo w9_2 w2.heap.size 91 #[.string (nameS ts s 2).1, .slice a1 m1 c1, .slice none 0 0, .int .i64 bd.kind, .string bd.name, .int .i64 0, .slice none 0 0, .int .i64 0, .int .i64 0, .int .i64 (nowT ts s.i).l, .int .i64 (nowT ts s.i).c]) := Lib.hid (by rw [← ee]; exact HBx.out.set 4 (.string bd.name))
     replace HYv := yS1 HYv ee
     replace HYb := yS1 HYb ee
     clear ee
     generalize ee : World.setCell w9_2 _ _ = w9_3
     have hq3 := sizeS1 ee
     replace HP := rpO1 HP ee
     replace HF := fN1 HF ee
     replace HBr := bF1 HBr ee
     replace HBx : Hid (Bo w9_3 w2.heap.size 91 #[.string (nameS ts s 2).1, .slice a1 m1 c1, .slice none 0 0, .int .i64 bd.kind, .string bd.name, .int .i64 bd.n, .slice none 0 0, .int .i64 0, .int .i64 0, .int .i64 (nowT ts s.i).l, .int .i64 (nowT ts s.i).c]) := Lib.hid (by rw [← ee]; exact HBx.out.set 5 (.int .i64 bd.n))
     replace HYv := yS1 HYv ee
     replace HYb := yS1 HYb ee
     clear ee
     generalize ee : World.setCell w9_3 _ _ = w9_4
     have hq4 := sizeS1 ee
     replace HP := rpO1 HP ee
     replace HF := fN1 HF ee
     replace HBr := bF1 HBr ee
     replace HBx : Hid (Bo w9_4 w2.heap.size 91 #[.string (nameS ts s 2).1, .slice a1 m1 c1, .slice none 0 0, .int .i64 bd.kind, .string bd.name, .int .i64 bd.n, .slice ab mb cb, .int .i64 0, .int .i64 0, .int .i64 (nowT ts s.i).l, .int .i64 (nowT ts s.i).c]) := Lib.hid (by rw [← ee]; exact HBx.out.set 6 (.slice ab mb cb))
     replace HYv := yS1 HYv ee
     replace HYb := yS1 HYb ee
     clear ee
     generalize ee : World.setCell w9_4 _ _ = w9_5
     have hq5 := sizeS1 ee
     replace HP := rpO1 HP ee
     replace HF := fN1 HF ee
     replace HBr := bF1 HBr ee
     replace HBx : Hid (Bo w9_5 w2.heap.size 91 #[.string (nameS ts s 2).1, .slice a1 m1 c1, .slice none 0 0, .int .i64 bd.kind, .string bd.name, .int .i64 bd.n, .slice ab mb cb, .int .i64 bd.line, .int .i64 0, .int .i64 (nowT ts s.i).l, .int .i64 (nowT ts s.i).c]) := Lib.hid (by rw [← ee]; exact HBx.out.set 7 (.int .i64 bd.line))
     replace HYv := yS1 HYv ee
     replace HYb := yS1 HYb ee
     clear ee
     generalize ee : World.setCell w9_5 _ _ = w9
     have hq6 := sizeS1 ee
     replace HP := rpO1 HP ee
     replace HF := fN1 HF ee
     replace HBr := bF1 HBr ee
     replace HBx : Hid (Bo w9 w2.heap.size 91 #[.string (nameS ts s 2).1, .slice a1 m1 c1, .slice none 0 0, .int .i64 bd.kind, .string bd.name, .int .i64 bd.n, .slice ab mb cb, .int .i64 bd.line, .int .i64 bd.col, .int .i64 (nowT ts s.i).l, .int .i64 (nowT ts s.i).c]) := Lib.hid (by rw [← ee]; exact HBx.out.set 8 (.int .i64 bd.col))
     replace HYv := yS1 HYv ee
     replace HYb := yS1 HYb ee
     clear ee
     have hsz9 : w9.heap.size = w8.heap.size := by omega
     clear hq1 hq2 hq3 hq4 hq5 hq6
     clear hI
     have qc := kcR HP
     have rc := HBr.out.c11z; have xc := HBx.out.c11z
     have hI := iq_0_0_0 q w w2 w9
     have hZ := iq_0_0_0 q w w2 w8
     go_wp2_with (fail)
     clear qc rc xc
     generalize ee : World.setCell _ ⟨w.heap.size, 10, none⟩ _ = w10
     have hsz10 := sizeS11 ee
     replace HP := rpO11 HP ee
     replace HF := fN11 HF ee
     replace HBr := bS11 HBr ee
     replace HBx := bF11 HBx ee
     replace HYv := yS11 HYv ee
     replace HYb := yS11 HYb ee
     clear ee
     clear hI hZ
     have fc := HBr.out.c11z
     refine bodyPost_ret (v := .agg #[.string (nameS ts s 2).1, .slice a1 m1 c1, .slice none 0 0, .int .i64 bd.kind, .string bd.name, .int .i64 bd.n, .slice ab mb cb, .int .i64 bd.line, .int .i64 bd.col, .int .i64 (nowT ts s.i).l, .int .i64 (nowT ts s.i).c]) (by clear HP HF HBr HBx HYv HYb; simp [results, Try.results41, go_sem, fc]) rfl ?_
     exact ⟨_, _, _, _, _, _, _, _, _, rfl, HF.out.out, HP.out, memS_nw HYv.out (fun b hb => Nat.le_trans (by omega) hb.1), (by show Mem _ _ (.s 6 (Ex.rows [])) _; rw [Ex.rows_eq]; exact .e none 0 6 (by decide)), memS_nw HYb.out (fun b hb => Nat.le_trans (by omega) hb.1)⟩
    | true =>
     rw [if_pos hgb] at hg2
     obtain ⟨Y, hy1, hy2⟩ := Option.map_eq_some_iff.1 hg2
     cases hy2
     obtain ⟨y, sy⟩ := Y
     have hlt : sp.i < ts.length := isT_lt (isS_parts hgb).2 (by decide)
     have hov : (sp.i : Int) + 1 ≤ 9223372036854775807 := by omega
     clear hgb
     clear hI
     have qc := kcR HP
     have rc := HBr.out.c11z; have xc := HBx.out.c11z
     have hI := iq_0_0_0 q w w2 w6
     go_upto_region 7 with (fail)
     clear qc rc xc
     generalize ee : World.setCell w6 _ _ = w7
     have hsz7 := sizeS1 ee
     replace HP := Lib.hid (HP.out.setIE (k := (sp.i + 1)) ee (by omega))
     replace HF := Lib.hid (HF.out.setQE ee)
     replace HBr := bF1 HBr ee
     replace HBx := bF1 HBx ee
     replace HYv := yS1 HYv ee
     clear ee
     clear hI
     have qc := kcR HP
     have rc := HBr.out.c11z; have xc := HBx.out.c11z
     have hI := iq_0_0_0 q w w2 w7
     have hZ := iq_0_0_0 q w w2 w6
     go_wp2_with (fail)
     clear qc rc xc
     refine (part_expr _ hy1 HP.out).mono ?_
     rintro _ w8 ⟨ay, my, cy, rfl, hf, hp, hm⟩
     replace HYv := qYB HYv hf
     replace HBr := qB HBr hf
     replace HBx := qB HBx hf
     replace HF := qF HF hf
     have hs8 := hf.size
     replace HP := Lib.hid hp
     have HMy := Lib.hid hm
     clear hf hp hm
     simp only [exV]
     clear hI hZ
     have qc := kcR HP
     have rc := HBr.out.c11z; have xc := HBx.out.c11z
     have hI := iq_0_0_0 q w w2 w8
     go_upto_region 8 with (fail)
     clear qc rc xc
     generalize ee : World.setCell w8 _ _ = w9_1
     have hq1 := sizeS1 ee
     replace HP := rpO1 HP ee
     replace HF := fN1 HF ee
     replace HBr := bF1 HBr ee
     replace HBx : Hid (Bo w9_1 w2.heap.size 91 #[.string (nameS ts s 2).1, .slice a1 m1 c1, .slice (some ⟨w8.heap.size, 0, none⟩) 1 1, .int .i64 0, .string ⟨#[]⟩, .int .i64 0, .slice none 0 0, .int .i64 0, .int .i64 0, .int .i64 (nowT ts s.i).l, .int .i64 (nowT ts s.i).c]) := Lib.hid (by rw [← ee]; exact HBx.out.set 2 (.slice (some ⟨w8.heap.size, 0, none⟩) 1 1))
     replace HMy := mS1 HMy ee
     replace HYv := yS1 HYv ee
     clear ee
     generalize ee : World.alloc w9_1 _ = w9
     have hq2 := sizeA ee
     have HNEW := ownD_new ee (sz := 6) (b := w8.heap.size) (row_ex y HMy.out) rfl (by omega) (by omega)
     replace HP := rpA HP ee
     replace HF := fA HF ee
     replace HBr := bA HBr ee
     replace HBx := bA HBx ee
     replace HMy := mA HMy ee
     replace HYv := yA HYv ee
     have HOg := HNEW
     clear HNEW
     clear ee
     have hsa9 : w9.heap.size = w8.heap.size + 1 := by omega
     clear hq1 hq2
     clear hI
     clear HMy
     obtain ⟨T1, hT1⟩ : ∃ k, k = w9.heap.size := ⟨_, rfl⟩
     have HYg : Hid (Mem (NwS (Bt w7.heap.size T1) w9.heap.size) w9 (.s 6 (Ex.rows [y])) (.slice (some ⟨w8.heap.size, 0, none⟩) 1 1)) := Lib.hid (by rw [hT1, ex_rows1]; exact memS_bt HOg.out.mem (by omega))
     clear HOg
     have qc := kcR HP
     have rc := HBr.out.c11z; have xc := HBx.out.c11z
     have hI := iq_0_0_0 q w w2 w9
     have hZ := chain4 q w.heap.size w2.heap.size (w8.heap.size + 1)
     go_wp2_with (fail)
     clear qc rc xc
     refine (mtake_any 6 wEq _ HP.out (by decide)).mono ?_
     rintro _ w10 ⟨rfl, hf, hp⟩
     replace HYv := qYB HYv hf
     replace HYg := qYB HYg hf
     replace HBr := qB HBr hf
     replace HBx := qB HBx hf
     replace HF := qF HF hf
     have hs10 := hf.size
     replace HP := Lib.hid hp
     clear hf hp
     clear hI hZ
     have qc := kcR HP
     have rc := HBr.out.c11z; have xc := HBx.out.c11z
     have hI := iq_0_0_0 q w w2 w10
     go_wp2_with (fail)
     clear qc rc xc
     refine (part_expr _ H3.out HP.out).mono ?_
     rintro _ w11 ⟨ab, mb, cb, rfl, hf, hp, hm⟩
     replace HYv := qYB HYv hf
     replace HYg := qYB HYg hf
     replace HBr := qB HBr hf
     replace HBx := qB HBx hf
     replace HF := qF HF hf
     have hs11 := hf.size
     replace HP := Lib.hid hp
     have HMb := Lib.hid hm
     clear hf hp hm
     simp only [exV]
     obtain ⟨T2, hT2⟩ : ∃ k, k = w11.heap.size := ⟨_, rfl⟩
     have HYb : Hid (Mem (NwS (Bt w10.heap.size T2) w11.heap.size) w11 (.s 6 (Ex.rows bd.args)) (.slice ab mb cb)) := Lib.hid (by rw [hT2]; exact memS_bt HMb.out (by omega))
     clear HMb
     clear hI
     have qc := kcR HP
     have rc := HBr.out.c11z; have xc := HBx.out.c11z
     have hI := iq_0_0_0 q w w2 w11
     go_upto_region 10 with (fail)
     clear qc rc xc
     generalize ee : World.setCell w11 _ _ = w12_1
     have hq1 := sizeS1 ee
     replace HP := rpO1 HP ee
     replace HF := fN1 HF ee
     replace HBr := bF1 HBr ee
     replace HBx : Hid (Bo w12_1 w2.heap.size 91 #[.string (nameS ts s 2).1, .slice a1 m1 c1, .slice (some ⟨w8.heap.size, 0, none⟩) 1 1, .int .i64 bd.kind, .string ⟨#[]⟩, .int .i64 0, .slice none 0 0, .int .i64 0, .int .i64 0, .int .i64 (nowT ts s.i).l, .int .i64 (nowT ts s.i).c]) := Lib.hid (by rw [← ee]; exact HBx.out.set 3 (.int .i64 bd.kind))
     replace HYv := yS1 HYv ee
     replace HYg := yS1 HYg ee
     replace HYb := yS1 HYb ee
     clear ee
     generalize ee : World.setCell w12_1 _ _ = w12_2
     have hq2 := sizeS1 ee
     replace HP := rpO1 HP ee
     replace HF := fN1 HF ee
     replace HBr := bF1 HBr ee
     replace HBx : Hid (Bo w12_2 w2.heap.size 91 #[.string (nameS ts s 2).1, .slice a1 m1 c1, .slice (some ⟨w8.heap.size, 0, none⟩) 1 1, .int .i64 bd.kind, .string bd.name, .int .i64 0, .slice none 0 0, .int .i64 0, .int .i64 0, .int .i64 (nowT ts s.i).l, .int .i64 (nowT ts s.i).c]) := Lib.hid (by rw [← ee]; exact HBx.out.set 4 (.string bd.name))
     replace HYv := yS1 HYv ee
     replace HYg := yS1 HYg ee
     replace HYb := yS1 HYb ee
     clear ee
     generalize ee : World.setCell w12_2 _ _ = w12_3
     have hq3 := sizeS1 ee
     replace HP := rpO1 HP ee
     replace HF := fN1 HF ee
     replace HBr := bF1 HBr ee
     replace HBx : Hid (Bo w12_3 w2.heap.size 91 #[.string (nameS ts s 2).1, .slice a1 m1 c1, .slice (some ⟨w8.heap.size, 0, none⟩) 1 1, .int .i64 bd.kind, .string bd.name, .int .i64 bd.n, .slice none 0 0, .int .i64 0, .int .i64 0, .int .i64 (nowT ts s.i).l, .int .i64 (nowT ts s.i).c]) := Lib.hid (by rw [← ee]; exact HBx.out.set 5 (.int .i64 bd.n))
     replace HYv := yS1 HYv ee
     replace HYg := yS1 HYg ee
     replace HYb := yS1 HYb ee
     clear ee
     generalize ee : World.setCell w12_3 _ _ = w12_4
     have hq4 := sizeS1 ee
     replace HP := rpO1 HP ee
     replace HF := fN1 HF ee
     replace HBr := bF1 HBr ee
     replace HBx : Hid (Bo w12_4 w2.heap.size 91 #[.string (nameS ts s 2).1, .slice a1 m1 c1, .slice (some ⟨w8.heap.size, 0, none⟩) 1 1, .int .i64 bd.kind, .string bd.name, .int .i64 bd.n, .slice ab mb cb, .int .i64 0, .int .i64 0, .int .i64 (nowT ts s.i).l, .int .i64 (nowT ts s.i).c]) := Lib.hid (by rw [← ee]; exact HBx.out.set 6 (.slice ab mb cb))
     replace HYv := yS1 HYv ee
     replace HYg := yS1 HYg ee
     replace HYb := yS1 HYb ee
     clear ee
     generalize ee : World.setCell w12_4 _ _ = w12_5
     have hq5 := sizeS1 ee
     replace HP := rpO1 HP ee
     replace HF := fN1 HF ee
     replace HBr := bF1 HBr ee
     replace HBx : Hid (Bo w12_5 w2.heap.size 91 #[.string (nameS ts s 2).1, .slice a1 m1 c1, .slice (some ⟨w8.heap.size, 0, none⟩) 1 1, .int .i64 bd.kind, .string bd.name, .int .i64 bd.n, .slice ab mb cb, .int .i64 bd.line, .int .i64 0, .int .i64 (nowT ts s.i).l, .int .i64 (nowT ts s.i).c]) := Lib.hid (by rw [← ee]; exact HBx.out.set 7 (.int .i64 bd.line))
     replace HYv := yS1 HYv ee
     replace HYg := yS1 HYg ee
     replace HYb := yS1 HYb ee
     clear ee
     generalize ee : World.setCell w12_5 _ _ = w12
     have hq6 := sizeS1 ee
     replace HP := rpO1 HP ee
     replace HF := fN1 HF ee
     replace HBr := bF1 HBr ee
     replace HBx : Hid (Bo w12 w2.heap.size 91 #[.string (nameS ts s 2).1, .slice a1 m1 c1, .slice (some ⟨w8.heap.size, 0, none⟩) 1 1, .int .i64 bd.kind, .string bd.name, .int .i64 bd.n, .slice ab mb cb, .int .i64 bd.line, .int .i64 bd.col, .int .i64 (nowT ts s.i).l, .int .i64 (nowT ts s.i).c]) := Lib.hid (by rw [← ee]; exact HBx.out.set 8 (.int .i64 bd.col))
     replace HYv := yS1 HYv ee
     replace HYg := yS1 HYg ee
     replace HYb := yS1 HYb ee
     clear ee
     have hsz12 : w12.heap.size = w11.heap.size := by omega
     clear hq1 hq2 hq3 hq4 hq5 hq6
     clear hI
     have qc := kcR HP
     have rc := HBr.out.c11z; have xc := HBx.out.c11z
     have hI := iq_0_0_0 q w w2 w12
     have hZ := iq_0_0_0 q w w2 w11
     go_wp2_with (fail)
     clear qc rc xc
     generalize ee : World.setCell _ ⟨w.heap.size, 10, none⟩ _ = w13
     have hsz13 := sizeS11 ee
     replace HP := rpO11 HP ee
     replace HF := fN11 HF ee
     replace HBr := bS11 HBr ee
     replace HBx := bF11 HBx ee
     replace HYv := yS11 HYv ee
     replace HYg := yS11 HYg ee
     replace HYb := yS11 HYb ee
     clear ee
     clear hI hZ
     have fc := HBr.out.c11z
     refine bodyPost_ret (v := .agg #[.string (nameS ts s 2).1, .slice a1 m1 c1, .slice (some ⟨w8.heap.size, 0, none⟩) 1 1, .int .i64 bd.kind, .string bd.name, .int .i64 bd.n, .slice ab mb cb, .int .i64 bd.line, .int .i64 bd.col, .int .i64 (nowT ts s.i).l, .int .i64 (nowT ts s.i).c]) (by clear HP HF HBr HBx HYv HYg HYb; simp [results, Try.results41, go_sem, fc]) rfl ?_
     exact ⟨_, _, _, _, _, _, _, _, _, rfl, HF.out.out, HP.out, memS_nw HYv.out (fun b hb => Nat.le_trans (by omega) hb.1), memS_nw HYg.out (fun b hb => Nat.le_trans (by omega) hb.1), memS_nw HYb.out (fun b hb => Nat.le_trans (by omega) hb.1)⟩
   | true =>
    go_wp2_with (fail)
    clear qc rc xc
    refine (mis_any 6 wBar _ HP.out).mono ?_
    rintro _ w6 ⟨rfl, hb⟩
    have hf := FarQ.of (q := q) hb
    replace HBr := qB HBr hf
    replace HBx := qB HBx hf
    replace HOv := qO HOv hf
    replace HF := qF HF hf
    have hs6 := hf.size
    replace HP := krP HP hb
    clear hf hb
    cases hb1 : isS ts st 6 wBar with
    | true =>
     rw [if_neg (by rw [hb1]; simp)] at hr1
     clear hI
     have qc := kcR HP
     have rc := HBr.out.c11z; have xc := HBx.out.c11z
     have hI := iq_0_0_0 q w w2 w6
     go_wp2_with (fail)
     cases hr1
     obtain ⟨T0, hT0⟩ : ∃ k, k = w6.heap.size := ⟨_, rfl⟩
     have HYv : Hid (Mem (NwS (Bt B0 T0) w6.heap.size) w6 (.s 6 (Ex.rows ps)) (.slice a1 m1 c1)) := Lib.hid (by rw [hT0]; exact memS_bt HOv.out.mem (by omega))
     clear HOv HP1
     clear qc rc xc
     clear hI
     have qc := kcR HP
     have rc := HBr.out.c11z; have xc := HBx.out.c11z
     have hI := iq_0_0_0 q w w2 w6
     go_wp2_with (fail)
     clear qc rc xc
     refine (mis_any 6 wBar _ HP.out).mono ?_
     rintro _ w7 ⟨rfl, hb⟩
     have hf := FarQ.of (q := q) hb
     replace HYv := qYB HYv hf
     replace HBr := qB HBr hf
     replace HBx := qB HBx hf
     replace HF := qF HF hf
     have hs7 := hf.size
     replace HP := krP HP hb
     clear hf hb
     have hg2 := H2.out
     unfold guardM at hg2
     cases hgb : isS ts sp 6 wBar with
     | false =>
      rw [if_neg (by rw [hgb]; decide)] at hg2
      cases hg2
      clear hI
      have qc := kcR HP
      have rc := HBr.out.c11z; have xc := HBx.out.c11z
      have hI := iq_0_0_0 q w w2 w7
      go_wp2_with (fail)
      clear qc rc xc
      refine (mtake_any 6 wEq _ HP.out (by decide)).mono ?_
      rintro _ w8 ⟨rfl, hf, hp⟩
      replace HYv := qYB HYv hf
      replace HBr := qB HBr hf
      replace HBx := qB HBx hf
      replace HF := qF HF hf
      have hs8 := hf.size
      replace HP := Lib.hid hp
      clear hf hp
      clear hI
      have qc := kcR HP
      have rc := HBr.out.c11z; have xc := HBx.out.c11z
      have hI := iq_0_0_0 q w w2 w8
      go_wp2_with (fail)
      clear qc rc xc
      refine (part_expr _ H3.out HP.out).mono ?_
      rintro _ w9 ⟨ab, mb, cb, rfl, hf, hp, hm⟩
      replace HYv := qYB HYv hf
      replace HBr := qB HBr hf
      replace HBx := qB HBx hf
      replace HF := qF HF hf
      have hs9 := hf.size
      replace HP := Lib.hid hp
      have HMb := Lib.hid hm
      clear hf hp hm
      simp only [exV]
      obtain ⟨T2, hT2⟩ : ∃ k, k = w9.heap.size := ⟨_, rfl⟩
      have HYb : Hid (Mem (NwS (Bt w8.heap.size T2) w9.heap.size) w9 (.s 6 (Ex.rows bd.args)) (.slice ab mb cb)) := Lib.hid (by rw [hT2]; exact memS_bt HMb.out (by omega))
      clear HMb
      clear hI
      have qc := kcR HP
      have rc := HBr.out.c11z; have xc := HBx.out.c11z
      have hI := iq_0_0_0 q w w2 w9
      go_upto_region 10 with (fail)
      clear qc rc xc
      generalize ee : World.setCell w9 _ _ = w10_1
      have hq1 := sizeS1 ee
      replace HP := rpO1 HP ee
      replace HF := fN1 HF ee
      replace HBr := bF1 HBr ee
      replace HBx : Hid (Bo w10_1 w2.heap.size 91 #[.string (nameS ts s 2).1, .slice a1 m1 c1, .slice none 0 0, .int .i64 bd.kind, .string ⟨#[]⟩, .int .i64 0, .slice none 0 0, .int .i64 0, .int .i64 0, .int .i64 (nowT ts s.i).l, .int .i64 (nowT ts s.i).c]) := Lib.hid (by rw [← ee]; exact HBx.out.set 3 (.int .i64 bd.kind))
      replace HYv := yS1 HYv ee
      replace HYb := yS1 HYb ee
      clear ee
      generalize ee : World.setCell w10_1 _ _ = w10_2
      have hq2 := sizeS1 ee
      replace HP := rpO1 HP ee
      replace HF := fN1 HF ee
      replace HBr := bF1 HBr ee
      replace HBx : Hid (Bo w10_2 w2.heap.size 91 #[.string (nameS ts s 2).1, .slice a1 m1 c1, .slice none 0 0, .int .i64 bd.kind, .string bd.name, .int .i64 0, .slice none 0 0, .int .i64 0, .int .i64 0, .int .i64 (nowT ts s.i).l, .int .i64 (nowT ts s.i).c]) := Lib.hid (by rw [← ee]; exact HBx.out.set 4 (.string bd.name))
      replace HYv := yS1 HYv ee
      replace HYb := yS1 HYb ee
      clear ee
      generalize ee : World.setCell w10_2 _ _ = w10_3
      have hq3 := sizeS1 ee
      replace HP := rpO1 HP ee
      replace HF := fN1 HF ee
      replace HBr := bF1 HBr ee
      replace HBx : Hid (Bo w10_3 w2.heap.size 91 #[.string (nameS ts s 2).1, .slice a1 m1 c1, .slice none 0 0, .int .i64 bd.kind, .string bd.name, .int .i64 bd.n, .slice none 0 0, .int .i64 0, .int .i64 0, .int .i64 (nowT ts s.i).l, .int .i64 (nowT ts s.i).c]) := Lib.hid (by rw [← ee]; exact HBx.out.set 5 (.int .i64 bd.n))
      replace HYv := yS1 HYv ee
      replace HYb := yS1 HYb ee
      clear ee
      generalize ee : World.setCell w10_3 _ _ = w10_4
      have hq4 := sizeS1 ee
      replace HP := rpO1 HP ee
      replace HF := fN1 HF ee
      replace HBr := bF1 HBr ee
      replace HBx : Hid (Bo w10_4 w2.heap.size 91 #[.string (nameS ts s 2).1, .slice a1 m1 c1, .slice none 0 0, .int .i64 bd.kind, .string bd.name, .int .i64 bd.n, .slice ab mb cb, .int .i64 0, .int .i64 0, .int .i64 (nowT ts s.i).l, .int .i64 (nowT ts s.i).c]) := Lib.hid (by rw [← ee]; exact HBx.out.set 6 (.slice ab mb cb))
      replace HYv := yS1 HYv ee
      replace HYb := yS1 HYb ee
      clear ee
      generalize ee : World.setCell w10_4 _ _ = w10_5
      have hq5 := sizeS1 ee
      replace HP := rpO1 HP ee
      replace HF := fN1 HF ee
      replace HBr := bF1 HBr ee
      replace HBx : Hid (Bo w10_5 w2.heap.size 91 #[.string (nameS ts s 2).1, .slice a1 m1 c1, .slice none 0 0, .int .i64 bd.kind, .string bd.name, .int .i64 bd.n, .slice ab mb cb, .int .i64 bd.line, .int .i64 0, .int .i64 (nowT ts s.i).l, .int .i64 (nowT ts s.i).c]) := Lib.hid (by rw [← ee]; exact HBx.out.set 7 (.int .i64 bd.line))
      replace HYv := yS1 HYv ee
      replace HYb := yS1 HYb ee
      clear ee
      generalize ee : World.setCell w10_5 _ _ = w10
      have hq6 := sizeS1 ee
      replace HP := rpO1 HP ee
      replace HF := fN1 HF ee
      replace HBr := bF1 HBr ee
      replace HBx : Hid (Bo w10 w2.heap.size 91 #[.string (nameS ts s 2).1, .slice a1 m1 c1, .slice none 0 0, .int .i64 bd.kind, .string bd.name, .int .i64 bd.n, .slice ab mb cb, .int .i64 bd.line, .int .i64 bd.col, .int .i64 (nowT ts s.i).l, .int .i64 (nowT ts s.i).c]) := Lib.hid (by rw [← ee]; exact HBx.out.set 8 (.int .i64 bd.col))
      replace HYv := yS1 HYv ee
      replace HYb := yS1 HYb ee
      clear ee
      have hsz10 : w10.heap.size = w9.heap.size := by omega
      clear hq1 hq2 hq3 hq4 hq5 hq6
      clear hI
      have qc := kcR HP
      have rc := HBr.out.c11z; have xc := HBx.out.c11z
      have hI := iq_0_0_0 q w w2 w10
      have hZ := iq_0_0_0 q w w2 w9
      go_wp2_with (fail)
      clear qc rc xc
      generalize ee : World.setCell _ ⟨w.heap.size, 10, none⟩ _ = w11
      have hsz11 := sizeS11 ee
      replace HP := rpO11 HP ee
      replace HF := fN11 HF ee
      replace HBr := bS11 HBr ee
      replace HBx := bF11 HBx ee
      replace HYv := yS11 HYv ee
      replace HYb := yS11 HYb ee
      clear ee
      clear hI hZ
      have fc := HBr.out.c11z
      refine bodyPost_ret (v := .agg #[.string (nameS ts s 2).1, .slice a1 m1 c1, .slice none 0 0, .int .i64 bd.kind, .string bd.name, .int .i64 bd.n, .slice ab mb cb, .int .i64 bd.line, .int .i64 bd.col, .int .i64 (nowT ts s.i).l, .int .i64 (nowT ts s.i).c]) (by clear HP HF HBr HBx HYv HYb; simp [results, Try.results41, go_sem, fc]) rfl ?_
      exact ⟨_, _, _, _, _, _, _, _, _, rfl, HF.out.out, HP.out, memS_nw HYv.out (fun b hb => Nat.le_trans (by omega) hb.1), (by show Mem _ _ (.s 6 (Ex.rows [])) _; rw [Ex.rows_eq]; exact .e none 0 6 (by decide)), memS_nw HYb.out (fun b hb => Nat.le_trans (by omega) hb.1)⟩
     | true =>
      rw [if_pos hgb] at hg2
      obtain ⟨Y, hy1, hy2⟩ := Option.map_eq_some_iff.1 hg2
      cases hy2
      obtain ⟨y, sy⟩ := Y
      have hlt : sp.i < ts.length := isT_lt (isS_parts hgb).2 (by decide)
      have hov : (sp.i : Int) + 1 ≤ 9223372036854775807 := by omega
      clear hgb
      clear hI
      have qc := kcR HP
      have rc := HBr.out.c11z; have xc := HBx.out.c11z
      have hI := iq_0_0_0 q w w2 w7
      go_upto_region 7 with (fail)
      clear qc rc xc
      generalize ee : World.setCell w7 _ _ = w8
      have hsz8 := sizeS1 ee
      replace HP := Lib.hid (HP.out.setIE (k := (sp.i + 1)) ee (by omega))
      replace HF := Lib.hid (HF.out.setQE ee)
      replace HBr := bF1 HBr ee
      replace HBx := bF1 HBx ee
      replace HYv := yS1 HYv ee
      clear ee
      clear hI
      have qc := kcR HP
      have rc := HBr.out.c11z; have xc := HBx.out.c11z
      have hI := iq_0_0_0 q w w2 w8
      have hZ := iq_0_0_0 q w w2 w7
      go_wp2_with (fail)
      clear qc rc xc
      refine (part_expr _ hy1 HP.out).mono ?_
      rintro _ w9 ⟨ay, my, cy, rfl, hf, hp, hm⟩
      replace HYv := qYB HYv hf
      replace HBr := qB HBr hf
      replace HBx := qB HBx hf
      replace HF := qF HF hf
      have hs9 := hf.size
      replace HP := Lib.hid hp
      have HMy := Lib.hid hm
      clear hf hp hm
      simp only [exV]
      clear hI hZ
      have qc := kcR HP
      have rc := HBr.out.c11z; have xc := HBx.out.c11z
      have hI := iq_0_0_0 q w w2 w9
      go_upto_region 8 with (fail)
      clear qc rc xc
      generalize ee : World.setCell w9 _ _ = w10_1
      have hq1 := sizeS1 ee
      replace HP := rpO1 HP ee
      replace HF := fN1 HF ee
      replace HBr := bF1 HBr ee
      replace HBx : Hid (Bo w10_1 w2.heap.size 91 #[.string (nameS ts s 2).1, .slice a1 m1 c1, .slice (some ⟨w9.heap.size, 0, none⟩) 1 1, .int .i64 0, .string ⟨#[]⟩, .int .i64 0, .slice none 0 0, .int .i64 0, .int .i64 0, .int .i64 (nowT ts s.i).l, .int .i64 (nowT ts s.i).c]) := Lib.hid (by rw [← ee]; exact HBx.out.set 2 (.slice (some ⟨w9.heap.size, 0, none⟩) 1 1))
      replace HMy := mS1 HMy ee
      replace HYv := yS1 HYv ee
      clear ee
      generalize ee : World.alloc w10_1 _ = w10
      have hq2 := sizeA ee
      have HNEW := ownD_new ee (sz := 6) (b := w9.heap.size) (row_ex y HMy.out) rfl (by omega) (by omega)
      replace HP := rpA HP ee
      replace HF := fA HF ee
      replace HBr := bA HBr ee
      replace HBx := bA HBx ee
      replace HMy := mA HMy ee
      replace HYv := yA HYv ee
      have HOg := HNEW
      clear HNEW
      clear ee
      have hsa10 : w10.heap.size = w9.heap.size + 1 := by omega
      clear hq1 hq2
      clear hI
      clear HMy
      obtain ⟨T1, hT1⟩ : ∃ k, k = w10.heap.size := ⟨_, rfl⟩
      have HYg : Hid (Mem (NwS (Bt w8.heap.size T1) w10.heap.size) w10 (.s 6 (Ex.rows [y])) (.slice (some ⟨w9.heap.size, 0, none⟩) 1 1)) := Lib.hid (by rw [hT1, ex_rows1]; exact memS_bt HOg.out.mem (by omega))
      clear HOg
      have qc := kcR HP
      have rc := HBr.out.c11z; have xc := HBx.out.c11z
      have hI := iq_0_0_0 q w w2 w10
      have hZ := chain4 q w.heap.size w2.heap.size (w9.heap.size + 1)
      go_wp2_with (fail)
      clear qc rc xc
      refine (mtake_any 6 wEq _ HP.out (by decide)).mono ?_
      rintro _ w11 ⟨rfl, hf, hp⟩
      replace HYv := qYB HYv hf
      replace HYg := qYB HYg hf
      replace HBr := qB HBr hf
      replace HBx := qB HBx hf
      replace HF := qF HF hf
      have hs11 := hf.size
      replace HP := Lib.hid hp
      clear hf hp
      clear hI hZ
      have qc := kcR HP
      have rc := HBr.out.c11z; have xc := HBx.out.c11z
      have hI := iq_0_0_0 q w w2 w11
      go_wp2_with (fail)
      clear qc rc xc
      refine (part_expr _ H3.out HP.out).mono ?_
      rintro _ w12 ⟨ab, mb, cb, rfl, hf, hp, hm⟩
      replace HYv := qYB HYv hf
      replace HYg := qYB HYg hf
      replace HBr := qB HBr hf
      replace HBx := qB HBx hf
      replace HF := qF HF hf
      have hs12 := hf.size
      replace HP := Lib.hid hp
      have HMb := Lib.hid hm
      clear hf hp hm
      simp only [exV]
      obtain ⟨T2, hT2⟩ : ∃ k, k = w12.heap.size := ⟨_, rfl⟩
      have HYb : Hid (Mem (NwS (Bt w11.heap.size T2) w12.heap.size) w12 (.s 6 (Ex.rows bd.args)) (.slice ab mb cb)) := Lib.hid (by rw [hT2]; exact memS_bt HMb.out (by omega))
      clear HMb
      clear hI
      have qc := kcR HP
      have rc := HBr.out.c11z; have xc := HBx.out.c11z
      have hI := iq_0_0_0 q w w2 w12
      go_upto_region 10 with (fail)
      clear qc rc xc
      generalize ee : World.setCell w12 _ _ = w13_1
      have hq1 := sizeS1 ee
      replace HP := rpO1 HP ee
      replace HF := fN1 HF ee
      replace HBr := bF1 HBr ee
      replace HBx : Hid (Bo w13_1 w2.heap.size 91 #[.string (nameS ts s 2).1, .slice a1 m1 c1, .slice (some ⟨w9.heap.size, 0, none⟩) 1 1, .int .i64 bd.kind, .string ⟨#[]⟩, .int .i64 0, .slice none 0 0, .int .i64 0, .int .i64 0, .int .i64 (nowT ts s.i).l, .int .i64 (nowT ts s.i).c]) := Lib.hid (by rw [← ee]; exact HBx.out.set 3 (.int .i64 bd.kind))
      replace HYv := yS1 HYv ee
      replace HYg := yS1 HYg ee
      replace HYb := yS1 HYb ee
      clear ee
      generalize ee : World.setCell w13_1 _ _ = w13_2
      have hq2 := sizeS1 ee
      replace HP := rpO1 HP ee
      replace HF := fN1 HF ee
      replace HBr := bF1 HBr ee
      replace HBx : Hid (Bo w13_2 w2.heap.size 91 #[.string (nameS ts s 2).1, .slice a1 m1 c1, .slice (some ⟨w9.heap.size, 0, none⟩) 1 1, .int .i64 bd.kind, .string bd.name, .int .i64 0, .slice none 0 0, .int .i64 0, .int .i64 0, .int .i64 (nowT ts s.i).l, .int .i64 (nowT ts s.i).c]) := Lib.hid (by rw [← ee]; exact HBx.out.set 4 (.string bd.name))
      replace HYv := yS1 HYv ee
      replace HYg := yS1 HYg ee
      replace HYb := yS1 HYb ee
      clear ee
      generalize ee : World.setCell w13_2 _ _ = w13_3
      have hq3 := sizeS1 ee
      replace HP := rpO1 HP ee
      replace HF := fN1 HF ee
      replace HBr := bF1 HBr ee
      replace HBx : Hid (Bo w13_3 w2.heap.size 91 #[.string (nameS ts s 2).1, .slice a1 m1 c1, .slice (some ⟨w9.heap.size, 0, none⟩) 1 1, .int .i64 bd.kind, .string bd.name, .int .i64 bd.n, .slice none 0 0, .int .i64 0, .int .i64 0, .int .i64 (nowT ts s.i).l, .int .i64 (nowT ts s.i).c]) := Lib.hid (by rw [← ee]; exact HBx.out.set 5 (.int .i64 bd.n))
      replace HYv := yS1 HYv ee
      replace HYg := yS1 HYg ee
      replace HYb := yS1 HYb ee
      clear ee
      generalize ee : World.setCell w13_3 _ _ = w13_4
      have hq4 := sizeS1 ee
      replace HP := rpO1 HP ee
      replace HF := fN1 HF ee
      replace HBr := bF1 HBr ee
      replace HBx : Hid (Bo w13_4 w2.heap.size 91 #[.string (nameS ts s 2).1, .slice a1 m1 c1, .slice (some ⟨w9.heap.size, 0, none⟩) 1 1, .int .i64 bd.kind, .string bd.name, .int .i64 bd.n, .slice ab mb cb, .int .i64 0, .int .i64 0, .int .i64 (nowT ts s.i).l, .int .i64 (nowT ts s.i).c]) := Lib.hid (by rw [← ee]; exact HBx.out.set 6 (.slice ab mb cb))
      replace HYv := yS1 HYv ee
      replace HYg := yS1 HYg ee
      replace HYb := yS1 HYb ee
      clear ee
      generalize ee : World.setCell w13_4 _ _ = w13_5
      have hq5 := sizeS1 ee
      replace HP := rpO1 HP ee
      replace HF := fN1 HF ee
      replace HBr := bF1 HBr ee
      replace HBx : Hid (Bo w13_5 w2.heap.size 91 #[.string (nameS ts s 2).1, .slice a1 m1 c1, .slice (some ⟨w9.heap.size, 0, none⟩) 1 1, .int .i64 bd.kind, .string bd.name, .int .i64 bd.n, .slice ab mb cb, .int .i64 bd.line, .int .i64 0, .int .i64 (nowT ts s.i).l, .int .i64 (nowT ts s.i).c]) := Lib.hid (by rw [← ee]; exact HBx.out.set 7 (.int .i64 bd.line))
      replace HYv := yS1 HYv ee
      replace HYg := yS1 HYg ee
      replace HYb := yS1 HYb ee
      clear ee
      generalize ee : World.setCell w13_5 _ _ = w13
      have hq6 := sizeS1 ee
      replace HP := rpO1 HP ee
      replace HF := fN1 HF ee
      replace HBr := bF1 HBr ee
      replace HBx : Hid (Bo w13 w2.heap.size 91 #[.string (nameS ts s 2).1, .slice a1 m1 c1, .slice (some ⟨w9.heap.size, 0, none⟩) 1 1, .int .i64 bd.kind, .string bd.name, .int .i64 bd.n, .slice ab mb cb, .int .i64 bd.line, .int .i64 bd.col, .int .i64 (nowT ts s.i).l, .int .i64 (nowT ts s.i).c]) := Lib.hid (by rw [← ee]; exact HBx.out.set 8 (.int .i64 bd.col))
      replace HYv := yS1 HYv ee
      replace HYg := yS1 HYg ee
      replace HYb := yS1 HYb ee
      clear ee
      have hsz13 : w13.heap.size = w12.heap.size := by omega
      clear hq1 hq2 hq3 hq4 hq5 hq6
      clear hI
      have qc := kcR HP
      have rc := HBr.out.c11z; have xc := HBx.out.c11z
      have hI := iq_0_0_0 q w w2 w13
      have hZ := iq_0_0_0 q w w2 w12
      go_wp2_with (fail)
      clear qc rc xc
      generalize ee : World.setCell _ ⟨w.heap.size, 10, none⟩ _ = w14
      have hsz14 := sizeS11 ee
      replace HP := rpO11 HP ee
      replace HF := fN11 HF ee
      replace HBr := bS11 HBr ee
      replace HBx := bF11 HBx ee
      replace HYv := yS11 HYv ee
      replace HYg := yS11 HYg ee
      replace HYb := yS11 HYb ee
      clear ee
      clear hI hZ
      have fc := HBr.out.c11z
      refine bodyPost_ret (v := .agg #[.string (nameS ts s 2).1, .slice a1 m1 c1, .slice (some ⟨w9.heap.size, 0, none⟩) 1 1, .int .i64 bd.kind, .string bd.name, .int .i64 bd.n, .slice ab mb cb, .int .i64 bd.line, .int .i64 bd.col, .int .i64 (nowT ts s.i).l, .int .i64 (nowT ts s.i).c]) (by clear HP HF HBr HBx HYv HYg HYb; simp [results, Try.results41, go_sem, fc]) rfl ?_
      exact ⟨_, _, _, _, _, _, _, _, _, rfl, HF.out.out, HP.out, memS_nw HYv.out (fun b hb => Nat.le_trans (by omega) hb.1), memS_nw HYg.out (fun b hb => Nat.le_trans (by omega) hb.1), memS_nw HYb.out (fun b hb => Nat.le_trans (by omega) hb.1)⟩
    | false =>
     clear hI
     have qc := kcR HP
     have rc := HBr.out.c11z; have xc := HBx.out.c11z
     have hI := iq_0_0_0 q w w2 w6
     go_wp2_with (fail)
     clear qc rc xc
     refine (mis_any 6 wEq _ HP.out).mono ?_
     rintro _ w7 ⟨rfl, hb⟩
     have hf := FarQ.of (q := q) hb
     replace HBr := qB HBr hf
     replace HBx := qB HBx hf
     replace HOv := qO HOv hf
     replace HF := qF HF hf
     have hs7 := hf.size
     replace HP := krP HP hb
     clear hf hb
     cases hb2 : isS ts st 6 wEq with
     | true =>
      rw [if_neg (by rw [hb2]; simp)] at hr1
      clear hI
      have qc := kcR HP
      have rc := HBr.out.c11z; have xc := HBx.out.c11z
      have hI := iq_0_0_0 q w w2 w7
      go_wp2_with (fail)
      cases hr1
      obtain ⟨T0, hT0⟩ : ∃ k, k = w7.heap.size := ⟨_, rfl⟩
      have HYv : Hid (Mem (NwS (Bt B0 T0) w7.heap.size) w7 (.s 6 (Ex.rows ps)) (.slice a1 m1 c1)) := Lib.hid (by rw [hT0]; exact memS_bt HOv.out.mem (by omega))
      clear HOv HP1
      clear qc rc xc
      clear hI
      have qc := kcR HP
      have rc := HBr.out.c11z; have xc := HBx.out.c11z
      have hI := iq_0_0_0 q w w2 w7
      go_wp2_with (fail)
      clear qc rc xc
      refine (mis_any 6 wBar _ HP.out).mono ?_
      rintro _ w8 ⟨rfl, hb⟩
      have hf := FarQ.of (q := q) hb
      replace HYv := qYB HYv hf
      replace HBr := qB HBr hf
      replace HBx := qB HBx hf
      replace HF := qF HF hf
      have hs8 := hf.size
      replace HP := krP HP hb
      clear hf hb
      have hg2 := H2.out
      unfold guardM at hg2
      cases hgb : isS ts sp 6 wBar with
      | false =>
       rw [if_neg (by rw [hgb]; decide)] at hg2
       cases hg2
       clear hI
       have qc := kcR HP
       have rc := HBr.out.c11z; have xc := HBx.out.c11z
       have hI := iq_0_0_0 q w w2 w8
       go_wp2_with (fail)
       clear qc rc xc
       refine (mtake_any 6 wEq _ HP.out (by decide)).mono ?_
       rintro _ w9 ⟨rfl, hf, hp⟩
       replace HYv := qYB HYv hf
       replace HBr := qB HBr hf
       replace HBx := qB HBx hf
       replace HF := qF HF hf
       have hs9 := hf.size
       replace HP := Lib.hid hp
       clear hf hp
       clear hI
       have qc := kcR HP
       have rc := HBr.out.c11z; have xc := HBx.out.c11z
       have hI := iq_0_0_0 q w w2 w9
       go_wp2_with (fail)
       clear qc rc xc
       refine (part_expr _ H3.out HP.out).mono ?_
       rintro _ w10 ⟨ab, mb, cb, rfl, hf, hp, hm⟩
       replace HYv := qYB HYv hf
       replace HBr := qB HBr hf
       replace HBx := qB HBx hf
       replace HF := qF HF hf
       have hs10 := hf.size
       replace HP := Lib.hid hp
       have HMb := Lib.hid hm
       clear hf hp hm
       simp only [exV]
       obtain ⟨T2, hT2⟩ : ∃ k, k = w10.heap.size := ⟨_, rfl⟩
       have HYb : Hid (Mem (NwS (Bt w9.heap.size T2) w10.heap.size) w10 (.s 6 (Ex.rows bd.args)) (.slice ab mb cb)) := Lib.hid (by rw [hT2]; exact memS_bt HMb.out (by omega))
       clear HMb
       clear hI
       have qc := kcR HP
       have rc := HBr.out.c11z; have xc := HBx.out.c11z
       have hI := iq_0_0_0 q w w2 w10
       go_upto_region 10 with (fail)
       clear qc rc xc
       generalize ee : World.setCell w10 _ _ = w11_1
       have hq1 := sizeS1 ee
       replace HP := rpO1 HP ee
       replace HF := fN1 HF ee
       replace HBr := bF1 HBr ee
       replace HBx : Hid (Bo w11_1 w2.heap.size 91 #[.string (nameS ts s 2).1, .slice a1 m1 c1, .slice none 0 0, .int .i64 bd.kind, .string ⟨#[]⟩, .int .i64 0, .slice none 0 0, .int .i64 0, .int .i64 0, .int .i64 (nowT ts s.i).l, .int .i64 (nowT ts s.i).c]) := Lib.hid (by rw [← ee]; exact HBx.out.set 3 (.int .i64 bd.kind))
       replace HYv := yS1 HYv ee
       replace HYb := yS1 HYb ee
       clear ee
       generalize ee : World.setCell w11_1 _ _ = w11_2
       have hq2 := sizeS1 ee
       replace HP := rpO1 HP ee
       replace HF := fN1 HF ee
       replace HBr := bF1 HBr ee
       replace HBx : Hid (Bo w11_2 w2.heap.size 91 #[.string (nameS ts s 2).1, .slice a1 m1 c1, .slice none 0 0, .int .i64 bd.kind, .string bd.name, .int .i64 0, .slice none 0 0, .int .i64 0, .int .i64 0, .int .i64 (nowT ts s.i).l, .int .i64 (nowT ts s.i).c]) := Lib.hid (by rw [← ee]; exact HBx.out.set 4 (.string bd.name))
       replace HYv := yS1 HYv ee
       replace HYb := yS1 HYb ee
       clear ee
       generalize ee : World.setCell w11_2 _ _ = w11_3
       have hq3 := sizeS1 ee
       replace HP := rpO1 HP ee
       replace HF := fN1 HF ee
       replace HBr := bF1 HBr ee
       replace HBx : Hid (Bo w11_3 w2.heap.size 91 #[.string (nameS ts s 2).1, .slice a1 m1 c1, .slice none 0 0, .int .i64 bd.kind, .string bd.name, .int .i64 bd.n, .slice none 0 0, .int .i64 0, .int .i64 0, .int .i64 (nowT ts s.i).l, .int .i64 (nowT ts s.i).c]) := Lib.hid (by rw [← ee]; exact HBx.out.set 5 (.int .i64 bd.n))
       replace HYv := yS1 HYv ee
       replace HYb := yS1 HYb ee
       clear ee
       generalize ee : World.setCell w11_3 _ _ = w11_4
       have hq4 := sizeS1 ee
       replace HP := rpO1 HP ee
       replace HF := fN1 HF ee
       replace HBr := bF1 HBr ee
       replace HBx : Hid (Bo w11_4 w2.heap.size 91 #[.string (nameS ts s 2).1, .slice a1 m1 c1, .slice none 0 0, .int .i64 bd.kind, .string bd.name, .int .i64 bd.n, .slice ab mb cb, .int .i64 0, .int .i64 0, .int .i64 (nowT ts s.i).l, .int .i64 (nowT ts s.i).c]) := Lib.hid (by rw [← ee]; exact HBx.out.set 6 (.slice ab mb cb))
       replace HYv := yS1 HYv ee
       replace HYb := yS1 HYb ee
       clear ee
       generalize ee : World.setCell w11_4 _ _ = w11_5
       have hq5 := sizeS1 ee
       replace HP := rpO1 HP ee
       replace HF := fN1 HF ee
       replace HBr := bF1 HBr ee
       replace HBx : Hid (Bo w11_5 w2.heap.size 91 #[.string (nameS ts s 2).1, .slice a1 m1 c1, .slice none 0 0, .int .i64 bd.kind, .string bd.name, .int .i64 bd.n, .slice ab mb cb, .int .i64 bd.line, .int .i64 0, .int .i64 (nowT ts s.i).l, .int .i64 (nowT ts s.i).c]) := Lib.hid (by rw [← ee]; exact HBx.out.set 7 (.int .i64 bd.line))
       replace HYv := yS1 HYv ee
       replace HYb := yS1 HYb ee
       clear ee
       generalize ee : World.setCell w11_5 _ _ = w11
       have hq6 := sizeS1 ee
       replace HP := rpO1 HP ee
       replace HF := fN1 HF ee
       replace HBr := bF1 HBr ee
       replace HBx : Hid (Bo w11 w2.heap.size 91 #[.string (nameS ts s 2).1, .slice a1 m1 c1, .slice none 0 0, .int .i64 bd.kind, .string bd.name, .int .i64 bd.n, .slice ab mb cb, .int .i64 bd.line, .int .i64 bd.col, .int .i64 (nowT ts s.i).l, .int .i64 (nowT ts s.i).c]) := Lib.hid (by rw [← ee]; exact HBx.out.set 8 (.int .i64 bd.col))
       replace HYv := yS1 HYv ee
       replace HYb := yS1 HYb ee
       clear ee
       have hsz11 : w11.heap.size = w10.heap.size := by omega
       clear hq1 hq2 hq3 hq4 hq5 hq6
       clear hI
       have qc := kcR HP
       have rc := HBr.out.c11z; have xc := HBx.out.c11z
       have hI := iq_0_0_0 q w w2 w11
       have hZ := iq_0_0_0 q w w2 w10
       go_wp2_with (fail)
       clear qc rc xc
       generalize ee : World.setCell _ ⟨w.heap.size, 10, none⟩ _ = w12
       have hsz12 := sizeS11 ee
       replace HP := rpO11 HP ee
       replace HF := fN11 HF ee
       replace HBr := bS11 HBr ee
       replace HBx := bF11 HBx ee
       replace HYv := yS11 HYv ee
       replace HYb := yS11 HYb ee
       clear ee
       clear hI hZ
       have fc := HBr.out.c11z
       refine bodyPost_ret (v := .agg #[.string (nameS ts s 2).1, .slice a1 m1 c1, .slice none 0 0, .int .i64 bd.kind, .string bd.name, .int .i64 bd.n, .slice ab mb cb, .int .i64 bd.line, .int .i64 bd.col, .int .i64 (nowT ts s.i).l, .int .i64 (nowT ts s.i).c]) (by clear HP HF HBr HBx HYv HYb; simp [results, Try.results41, go_sem, fc]) rfl ?_
       exact ⟨_, _, _, _, _, _, _, _, _, rfl, HF.out.out, HP.out, memS_nw HYv.out (fun b hb => Nat.le_trans (by omega) hb.1), (by show Mem _ _ (.s 6 (Ex.rows [])) _; rw [Ex.rows_eq]; exact .e none 0 6 (by decide)), memS_nw HYb.out (fun b hb => Nat.le_trans (by omega) hb.1)⟩
      | true =>
       rw [if_pos hgb] at hg2
       obtain ⟨Y, hy1, hy2⟩ := Option.map_eq_some_iff.1 hg2
       cases hy2
       obtain ⟨y, sy⟩ := Y
       have hlt : sp.i < ts.length := isT_lt (isS_parts hgb).2 (by decide)
       have hov : (sp.i : Int) + 1 ≤ 9223372036854775807 := by omega
       clear hgb
       clear hI
       have qc := kcR HP
       have rc := HBr.out.c11z; have xc := HBx.out.c11z
       have hI := iq_0_0_0 q w w2 w8
       go_upto_region 7 with (fail)
       clear qc rc xc
       generalize ee : World.setCell w8 _ _ = w9
       have hsz9 := sizeS1 ee
       replace HP := Lib.hid (HP.out.setIE (k := (sp.i + 1)) ee (by omega))
       replace HF := Lib.hid (HF.out.setQE ee)
       replace HBr := bF1 HBr ee
       replace HBx := bF1 HBx ee
       replace HYv := yS1 HYv ee
       clear ee
       clear hI
       have qc := kcR HP
       have rc := HBr.out.c11z; have xc := HBx.out.c11z
       have hI := iq_0_0_0 q w w2 w9
       have hZ := iq_0_0_0 q w w2 w8
       go_wp2_with (fail)
       clear qc rc xc
       refine (part_expr _ hy1 HP.out).mono ?_
       rintro _ w10 ⟨ay, my, cy, rfl, hf, hp, hm⟩
       replace HYv := qYB HYv hf
       replace HBr := qB HBr hf
       replace HBx := qB HBx hf
       replace HF := qF HF hf
       have hs10 := hf.size
       replace HP := Lib.hid hp
       have HMy := Lib.hid hm
       clear hf hp hm
       simp only [exV]
       clear hI hZ
       have qc := kcR HP
       have rc := HBr.out.c11z; have xc := HBx.out.c11z
       have hI := iq_0_0_0 q w w2 w10
       go_upto_region 8 with (fail)
       clear qc rc xc
       generalize ee : World.setCell w10 _ _ = w11_1
       have hq1 := sizeS1 ee
       replace HP := rpO1 HP ee
       replace HF := fN1 HF ee
       replace HBr := bF1 HBr ee
       replace HBx : Hid (Bo w11_1 w2.heap.size 91 #[.string (nameS ts s 2).1, .slice a1 m1 c1, .slice (some ⟨w10.heap.size, 0, none⟩) 1 1, .int .i64 0, .string ⟨#[]⟩, .int .i64 0, .slice none 0 0, .int .i64 0, .int .i64 0, .int .i64 (nowT ts s.i).l, .int .i64 (nowT ts s.i).c]) := Lib.hid (by rw [← ee]; exact HBx.out.set 2 (.slice (some ⟨w10.heap.size, 0, none⟩) 1 1))
       replace HMy := mS1 HMy ee
       replace HYv := yS1 HYv ee
       clear ee
       generalize ee : World.alloc w11_1 _ = w11
       have hq2 := sizeA ee
       have HNEW := ownD_new ee (sz := 6) (b := w10.heap.size) (row_ex y HMy.out) rfl (by omega) (by omega)
       replace HP := rpA HP ee
       replace HF := fA HF ee
       replace HBr := bA HBr ee
       replace HBx := bA HBx ee
       replace HMy := mA HMy ee
       replace HYv := yA HYv ee
       have HOg := HNEW
       clear HNEW
       clear ee
       have hsa11 : w11.heap.size = w10.heap.size + 1 := by omega
       clear hq1 hq2
       clear hI
       clear HMy
       obtain ⟨T1, hT1⟩ : ∃ k, k = w11.heap.size := ⟨_, rfl⟩
       have HYg : Hid (Mem (NwS (Bt w9.heap.size T1) w11.heap.size) w11 (.s 6 (Ex.rows [y])) (.slice (some ⟨w10.heap.size, 0, none⟩) 1 1)) := Lib.hid (by rw [hT1, ex_rows1]; exact memS_bt HOg.out.mem (by omega))
       clear HOg
       have qc := kcR HP
       have rc := HBr.out.c11z; have xc := HBx.out.c11z
       have hI := iq_0_0_0 q w w2 w11
       have hZ := chain4 q w.heap.size w2.heap.size (w10.heap.size + 1)
       go_wp2_with (fail)
       clear qc rc xc
       refine (mtake_any 6 wEq _ HP.out (by decide)).mono ?_
       rintro _ w12 ⟨rfl, hf, hp⟩
       replace HYv := qYB HYv hf
       replace HYg := qYB HYg hf
       replace HBr := qB HBr hf
       replace HBx := qB HBx hf
       replace HF := qF HF hf
       have hs12 := hf.size
       replace HP := Lib.hid hp
       clear hf hp
       clear hI hZ
       have qc := kcR HP
       have rc := HBr.out.c11z; have xc := HBx.out.c11z
       have hI := iq_0_0_0 q w w2 w12
       go_wp2_with (fail)
       clear qc rc xc
       refine (part_expr _ H3.out HP.out).mono ?_
       rintro _ w13 ⟨ab, mb, cb, rfl, hf, hp, hm⟩
       replace HYv := qYB HYv hf
       replace HYg := qYB HYg hf
       replace HBr := qB HBr hf
       replace HBx := qB HBx hf
       replace HF := qF HF hf
       have hs13 := hf.size
       replace HP := Lib.hid hp
       have HMb := Lib.hid hm
       clear hf hp hm
       simp only [exV]
       obtain ⟨T2, hT2⟩ : ∃ k, k = w13.heap.size := ⟨_, rfl⟩
       have HYb : Hid (Mem (NwS (Bt w12.heap.size T2) w13.heap.size) w13 (.s 6 (Ex.rows bd.args)) (.slice ab mb cb)) := Lib.hid (by rw [hT2]; exact memS_bt HMb.out (by omega))
       clear HMb
       clear hI
       have qc := kcR HP
       have rc := HBr.out.c11z; have xc := HBx.out.c11z
       have hI := iq_0_0_0 q w w2 w13
       go_upto_region 10 with (fail)
       clear qc rc xc
       generalize ee : World.setCell w13 _ _ = w14_1
       have hq1 := sizeS1 ee
       replace HP := rpO1 HP ee
       replace HF := fN1 HF ee
       replace HBr := bF1 HBr ee
       replace HBx : Hid (Bo w14_1 w2.heap.size 91 #[.string (nameS ts s 2).1, .slice a1 m1 c1, .slice (some ⟨w10.heap.size, 0, none⟩) 1 1, .int .i64 bd.kind, .string ⟨#[]⟩, .int .i64 0, .slice none 0 0, .int .i64 0, .int .i64 0, .int .i64 (nowT ts s.i).l, .int .i64 (nowT ts s.i).c]) := Lib.hid (by rw [← ee]; exact HBx.out.set 3 (.int .i64 bd.kind))
       replace HYv := yS1 HYv ee
       replace HYg := yS1 HYg ee
       replace HYb := yS1 HYb ee
       clear ee
       generalize ee : World.setCell w14_1 _ _ = w14_2
       have hq2 := sizeS1 ee
       replace HP := rpO1 HP ee
       replace HF := fN1 HF ee
       replace HBr := bF1 HBr ee
       replace HBx : Hid (Bo w14_2 w2.heap.size 91 #[.string (nameS ts s 2).1, .slice a1 m1 c1, .slice (some ⟨w10.heap.size, 0, none⟩) 1 1, .int .i64 bd.kind, .string bd.name, .int .i64 0, .slice none 0 0, .int .i64 0, .int .i64 0, .int .i64 (nowT ts s.i).l, .int .i64 (nowT ts s.i).c]) := Lib.hid (by rw [← ee]; exact HBx.out.set 4 (.string bd.name))
       replace HYv := yS1 HYv ee
       replace HYg := yS1 HYg ee
       replace HYb := yS1 HYb ee
       clear ee
       generalize ee : World.setCell w14_2 _ _ = w14_3
       have hq3 := sizeS1 ee
       replace HP := rpO1 HP ee
       replace HF := fN1 HF ee
       replace HBr := bF1 HBr ee
       replace HBx : Hid (Bo w14_3 w2.heap.size 91 #[.string (nameS ts s 2).1, .slice a1 m1 c1, .slice (some ⟨w10.heap.size, 0, none⟩) 1 1, .int .i64 bd.kind, .string bd.name, .int .i64 bd.n, .slice none 0 0, .int .i64 0, .int .i64 0, .int .i64 (nowT ts s.i).l, .int .i64 (nowT ts s.i).c]) := Lib.hid (by rw [← ee]; exact HBx.out.set 5 (.int .i64 bd.n))
       replace HYv := yS1 HYv ee
       replace HYg := yS1 HYg ee
       replace HYb := yS1 HYb ee
       clear ee
       generalize ee : World.setCell w14_3 _ _ = w14_4
       have hq4 := sizeS1 ee
       replace HP := rpO1 HP ee
       replace HF := fN1 HF ee
       replace HBr := bF1 HBr ee
       replace HBx : Hid (Bo w14_4 w2.heap.size 91 #[.string (nameS ts s 2).1, .slice a1 m1 c1, .slice (some ⟨w10.heap.size, 0, none⟩) 1 1, .int .i64 bd.kind, .string bd.name, .int .i64 bd.n, .slice ab mb cb, .int .i64 0, .int .i64 0, .int .i64 (nowT ts s.i).l, .int .i64 (nowT ts s.i).c]) := Lib.hid (by rw [← ee]; exact HBx.out.set 6 (.slice ab mb cb))
       replace HYv := yS1 HYv ee
       replace HYg := yS1 HYg ee
       replace HYb := yS1 HYb ee
       clear ee
       generalize ee : World.setCell w14_4 _ _ = w14_5
       have hq5 := sizeS1 ee
       replace HP := rpO1 HP ee
       replace HF := fN1 HF ee
       replace HBr := bF1 HBr ee
       replace HBx : Hid (Bo w14_5 w2.heap.size 91 #[.string (nameS ts s 2).1, .slice a1 m1 c1, .slice (some ⟨w10.heap.size, 0, none⟩) 1 1, .int .i64 bd.kind, .string bd.name, .int .i64 bd.n, .slice ab mb cb, .int .i64 bd.line, .int .i64 0, .int .i64 (nowT ts s.i).l, .int .i64 (nowT ts s.i).c]) := Lib.hid (by rw [← ee]; exact HBx.out.set 7 (.int .i64 bd.line))
       replace HYv := yS1 HYv ee
       replace HYg := yS1 HYg ee
       replace HYb := yS1 HYb ee
       clear ee
       generalize ee : World.setCell w14_5 _ _ = w14
       have hq6 := sizeS1 ee
       replace HP := rpO1 HP ee
       replace HF := fN1 HF ee
       replace HBr := bF1 HBr ee
       replace HBx : Hid (Bo w14 w2.heap.size 91 #[.string (nameS ts s 2).1, .slice a1 m1 c1, .slice (some ⟨w10.heap.size, 0, none⟩) 1 1, .int .i64 bd.kind, .string bd.name, .int .i64 bd.n, .slice ab mb cb, .int .i64 bd.line, .int .i64 bd.col, .int .i64 (nowT ts s.i).l, .int .i64 (nowT ts s.i).c]) := Lib.hid (by rw [← ee]; exact HBx.out.set 8 (.int .i64 bd.col))
       replace HYv := yS1 HYv ee
       replace HYg := yS1 HYg ee
       replace HYb := yS1 HYb ee
       clear ee
       have hsz14 : w14.heap.size = w13.heap.size := by omega
       clear hq1 hq2 hq3 hq4 hq5 hq6
       clear hI
       have qc := kcR HP
       have rc := HBr.out.c11z; have xc := HBx.out.c11z
       have hI := iq_0_0_0 q w w2 w14
       have hZ := iq_0_0_0 q w w2 w13
       go_wp2_with (fail)
       clear qc rc xc
       generalize ee : World.setCell _ ⟨w.heap.size, 10, none⟩ _ = w15
       have hsz15 := sizeS11 ee
       replace HP := rpO11 HP ee
       replace HF := fN11 HF ee
       replace HBr := bS11 HBr ee
       replace HBx := bF11 HBx ee
       replace HYv := yS11 HYv ee
       replace HYg := yS11 HYg ee
       replace HYb := yS11 HYb ee
       clear ee
       clear hI hZ
       have fc := HBr.out.c11z
       refine bodyPost_ret (v := .agg #[.string (nameS ts s 2).1, .slice a1 m1 c1, .slice (some ⟨w10.heap.size, 0, none⟩) 1 1, .int .i64 bd.kind, .string bd.name, .int .i64 bd.n, .slice ab mb cb, .int .i64 bd.line, .int .i64 bd.col, .int .i64 (nowT ts s.i).l, .int .i64 (nowT ts s.i).c]) (by clear HP HF HBr HBx HYv HYg HYb; simp [results, Try.results41, go_sem, fc]) rfl ?_
       exact ⟨_, _, _, _, _, _, _, _, _, rfl, HF.out.out, HP.out, memS_nw HYv.out (fun b hb => Nat.le_trans (by omega) hb.1), memS_nw HYg.out (fun b hb => Nat.le_trans (by omega) hb.1), memS_nw HYb.out (fun b hb => Nat.le_trans (by omega) hb.1)⟩
     | false =>
      rw [if_pos (by rw [hok, hb1, hb2]; rfl)] at hr1
      obtain ⟨Y, hy1, hr1⟩ := Option.bind_eq_some_iff.1 hr1
      obtain ⟨y, sy⟩ := Y
      have hl1 := hl1 hok
      have HOK := Lib.hid hok
      clear hok hb1 hb2
      clear hI
      have qc := kcR HP
      have rc := HBr.out.c11z; have xc := HBx.out.c11z
      have hI := iq_0_0_0 q w w2 w7
      go_upto_region 4 with (fail)
      have hlz : us.length + 1 ≤ 1048577 := by omega
      clear qc rc xc
      clear hI
      have qc := kcR HP
      have rc := HBr.out.c11z; have xc := HBx.out.c11z
      have hI := iq_0_0_0 q w w2 w7
      refine wp_region_held_drew (S := fun w' => Far (fun b => b = q ∨ b = w2.heap.size ∨ (Value.slice a1 m1 c1).ownBlock = some b) (w7) w') (by kernel_rfl) (Far.of (below_drew _)) (fun hS10 => ?_)
      refine takeA 0 (v := ?_) rfl ?_ ?_
      rotate_left
      · (intro w hSw; (try dsimp only at hSw); go_simp; try with_reducible rfl)
      try simp only [Act.put, pu1, pu2, pu3]
      refine takeA 2 (v := ?_) rfl ?_ ?_
      rotate_left
      · (intro w hSw; (try dsimp only at hSw); go_simp; try with_reducible rfl)
      try simp only [Act.put, pu1, pu2, pu3]

      refine twoL 1 3 rfl rfl (by kernel_rfl) (by rfl) (by rfl) (fun K hK => ?_) (fun K hK => ?_)
      ·
       go_simp
       refine hK.out _ _ ?_ (fun hS11 => ?_)
       · exact hS10
       clear hK K
       refine callA 3 rfl fun K hK => ?_
       clear qc rc xc
       have HOW : Hid (OwnD 0 (B0) 27 6 w7 (.slice a1 m1 c1) (Ex.rows us)) := HOv
       go_simp
       refine (part_pat _ hy1 HP.out.drew).mono ?_
       rintro e wx12 ⟨ay, my, cy, rfl, hf, hp, hm⟩
       replace hf : FarQ q w7 wx12 := (FarQ.of (below_drew _)).trans hf
       have hswx12 : w7.heap.size ≤ wx12.heap.size := hf.size
       replace HBr := qB HBr hf
       replace HBx := qB HBx hf
       replace HOv := qO HOv hf
       replace HF := qF HF hf
       replace HP := Lib.hid hp
       have HMy : Hid (Mem (Nw 0 w7.heap.size _) _ _ _) := Lib.hid hm
       clear hm
       simp only [exV]
       go_simp
       refine hK.out _ _ ?_ (fun hS12 => ?_)
       · exact Far.mono hf (fun b e => .inl e)
       clear hK K hp hf
       refine callA 4 rfl fun K hK => ?_
       go_simp
       refine hK.out _ _ ?_ (fun hS13 => ?_)
       · exact Far.trans hS12 (Far.of (below_new _ _))
       clear hK K

       refine callA 5 rfl fun K hK => ?_
       refine wp_append_D2 _ _ (by rfl) Try.underlying23 info_ex rfl (by decide) (by rfl) (by rfl) (HOv.out.alloc _) (row_app HOW.out (by omega) (by omega) (row_ex y HMy.out) rfl) (by simp only [Ex.rows_len, List.length_cons, List.length_nil]; omega) (by simp only [Ex.rows_len, List.length_cons, List.length_nil]; omega) (by rw [World.size_alloc]; omega) (fun v9 w9 ho hg => ?_)
       obtain ⟨a9, m9, c9, rfl⟩ := mem_slice ho.mem
       refine hK.out _ _ ?_ (fun hS14 => ?_)
       · exact Far.trans hS13 ((grownFar hg).mono (fun b e => .inr (.inr e)))
       clear hK K
       have hs9 : wx12.heap.size + 1 ≤ w9.heap.size := by have h := hg.size; rw [World.size_alloc] at h; exact h
       have hob : ∀ k, (Value.slice a1 m1 c1).ownBlock = some k → B0 ≤ k := fun k hk => (HOv.out.lt k hk).1
       replace HP := Lib.hid ((HP.out.alloc _).grown hg fun k hk => by have := hob k hk; omega)
       replace HF := Lib.hid ((HF.out.alloc _).grown hg fun k hk => by have := hob k hk; omega)
       replace HBr := Lib.hid ((HBr.out.alloc _).grown hg fun k hk => by have := hob k hk; omega)
       replace HBx := Lib.hid ((HBx.out.alloc _).grown hg fun k hk => by have := hob k hk; omega)
       have HOv9 : Hid (OwnD 0 (B0) 27 6 w9 (.slice a9 m9 c9) (Ex.rows (us ++ [y]))) := Lib.hid (by rw [Ex.rows_app, ex_rows1]; exact ho)
       clear ho hg hob HOW HOv
       refine takeA 6 (v := ?_) rfl ?_ ?_
       rotate_left
       · (intro w hSw; (try dsimp only at hSw); go_simp; try with_reducible rfl)
       try simp only [Act.put, pu1, pu2, pu3]
       refine callA 7 rfl fun K hK => ?_
       have qc := kcR HP
       have rc := HBr.out.c11z; have xc := HBx.out.c11z
       have hI := iq_0_0_0 q w w2 w9
       go_simp
       refine hK.out _ _ ?_ (fun hS15 => ?_)
       · exact Far.setCell hS14 (.inr (.inl rfl)) _
       clear hK K
       refine wpAnyH_done (by kernel_rfl) ?_ _

       clear qc rc xc
       generalize ee : World.setCell w9 _ _ = w8
       have hsz8 := sizeS1 ee
       replace HP := rpO1 HP ee
       replace HF := fN1 HF ee
       replace HBr := bF1 HBr ee
       replace HBx : Hid (Bo w8 w2.heap.size 91 #[.string (nameS ts s 2).1, .slice a9 m9 c9, .slice none 0 0, .int .i64 0, .string ⟨#[]⟩, .int .i64 0, .slice none 0 0, .int .i64 0, .int .i64 0, .int .i64 (nowT ts s.i).l, .int .i64 (nowT ts s.i).c]) := Lib.hid (by rw [← ee]; exact HBx.out.set 1 (.slice a9 m9 c9))
       replace HOv9 := oS1 HOv9 ee
       clear ee
       clear hI
       have qc := kcR HP
       have rc := HBr.out.c11z; have xc := HBx.out.c11z
       have hI := iq_0_0_0 q w w2 w8
       have hZ := iq_0_0_0 q w w2 w9
       go_wp2_with (fail)
       clear qc rc xc
       go_roundw
       case rel => exact ⟨us ++ [y], sy, gg, a9, m9, c9, hr1, HP, HF, HBr, HBx, HOv9, (fun hsy => by have h1 : leftM ts sy ≤ leftM ts st - 1 := leftM_step (ts := ts) (partM_step (.inl rfl) hy1); have h2 := partM_lt (.inl rfl) hy1 HOK.out hsy; rw [leftM_ok HOK.out] at hl1 h1; rw [List.length_append, List.length_cons, List.length_nil]; omega), (by rw [List.length_append, List.length_cons, List.length_nil]; omega), by omega⟩
       case measure => exact posM_step HP1.out HP.out _ (partM_step (.inl rfl) hy1) HOK.out fun hsy => partM_lt (.inl rfl) hy1 HOK.out hsy
      ·
       clear qc rc xc
       have HOW : Hid (OwnD 0 (B0) 27 6 w7 (.slice a1 m1 c1) (Ex.rows us)) := HOv
       go_simp
       refine (part_pat _ hy1 HP.out.drew).mono ?_
       rintro e wx11 ⟨ay, my, cy, rfl, hf, hp, hm⟩
       replace hf : FarQ q w7 wx11 := (FarQ.of (below_drew _)).trans hf
       have hswx11 : w7.heap.size ≤ wx11.heap.size := hf.size
       replace HBr := qB HBr hf
       replace HBx := qB HBx hf
       replace HOv := qO HOv hf
       replace HF := qF HF hf
       replace HP := Lib.hid hp
       have HMy : Hid (Mem (Nw 0 w7.heap.size _) _ _ _) := Lib.hid hm
       clear hm
       simp only [exV]
       go_simp
       refine hK.out _ _ ?_ (fun hS11 => ?_)
       · exact Far.mono hf (fun b e => .inl e)
       clear hK K hp hf
       refine twoL 1 4 rfl rfl (by kernel_rfl) (by rfl) (by rfl) (fun K hK => ?_) (fun K hK => ?_)
       ·
        have qc := kcR HP
        have rc := HBr.out.c11z; have xc := HBx.out.c11z
        have hI := iq_0_0_0 q w w2 wx11
        go_simp
        refine hK.out _ _ ?_ (fun hS12 => ?_)
        · exact hS11
        clear hK K
        clear qc rc xc
        refine callA 4 rfl fun K hK => ?_
        go_simp
        refine hK.out _ _ ?_ (fun hS13 => ?_)
        · exact Far.trans hS12 (Far.of (below_new _ _))
        clear hK K

        refine callA 5 rfl fun K hK => ?_
        refine wp_append_D2 _ _ (by rfl) Try.underlying23 info_ex rfl (by decide) (by rfl) (by rfl) (HOv.out.alloc _) (row_app HOW.out (by omega) (by omega) (row_ex y HMy.out) rfl) (by simp only [Ex.rows_len, List.length_cons, List.length_nil]; omega) (by simp only [Ex.rows_len, List.length_cons, List.length_nil]; omega) (by rw [World.size_alloc]; omega) (fun v9 w9 ho hg => ?_)
        obtain ⟨a9, m9, c9, rfl⟩ := mem_slice ho.mem
        refine hK.out _ _ ?_ (fun hS14 => ?_)
        · exact Far.trans hS13 ((grownFar hg).mono (fun b e => .inr (.inr e)))
        clear hK K
        have hs9 : wx11.heap.size + 1 ≤ w9.heap.size := by have h := hg.size; rw [World.size_alloc] at h; exact h
        have hob : ∀ k, (Value.slice a1 m1 c1).ownBlock = some k → B0 ≤ k := fun k hk => (HOv.out.lt k hk).1
        replace HP := Lib.hid ((HP.out.alloc _).grown hg fun k hk => by have := hob k hk; omega)
        replace HF := Lib.hid ((HF.out.alloc _).grown hg fun k hk => by have := hob k hk; omega)
        replace HBr := Lib.hid ((HBr.out.alloc _).grown hg fun k hk => by have := hob k hk; omega)
        replace HBx := Lib.hid ((HBx.out.alloc _).grown hg fun k hk => by have := hob k hk; omega)
        have HOv9 : Hid (OwnD 0 (B0) 27 6 w9 (.slice a9 m9 c9) (Ex.rows (us ++ [y]))) := Lib.hid (by rw [Ex.rows_app, ex_rows1]; exact ho)
        clear ho hg hob HOW HOv
        refine takeA 6 (v := ?_) rfl ?_ ?_
        rotate_left
        · (intro w hSw; (try dsimp only at hSw); go_simp; try with_reducible rfl)
        try simp only [Act.put, pu1, pu2, pu3]
        refine callA 7 rfl fun K hK => ?_
        have qc := kcR HP
        have rc := HBr.out.c11z; have xc := HBx.out.c11z
        have hI := iq_0_0_0 q w w2 w9
        go_simp
        refine hK.out _ _ ?_ (fun hS15 => ?_)
        · exact Far.setCell hS14 (.inr (.inl rfl)) _
        clear hK K
        refine wpAnyH_done (by kernel_rfl) ?_ _

        clear qc rc xc
        generalize ee : World.setCell w9 _ _ = w8
        have hsz8 := sizeS1 ee
        replace HP := rpO1 HP ee
        replace HF := fN1 HF ee
        replace HBr := bF1 HBr ee
        replace HBx : Hid (Bo w8 w2.heap.size 91 #[.string (nameS ts s 2).1, .slice a9 m9 c9, .slice none 0 0, .int .i64 0, .string ⟨#[]⟩, .int .i64 0, .slice none 0 0, .int .i64 0, .int .i64 0, .int .i64 (nowT ts s.i).l, .int .i64 (nowT ts s.i).c]) := Lib.hid (by rw [← ee]; exact HBx.out.set 1 (.slice a9 m9 c9))
        replace HOv9 := oS1 HOv9 ee
        clear ee
        clear hI
        have qc := kcR HP
        have rc := HBr.out.c11z; have xc := HBx.out.c11z
        have hI := iq_0_0_0 q w w2 w8
        have hZ := iq_0_0_0 q w w2 w9
        go_wp2_with (fail)
        clear qc rc xc
        go_roundw
        case rel => exact ⟨us ++ [y], sy, gg, a9, m9, c9, hr1, HP, HF, HBr, HBx, HOv9, (fun hsy => by have h1 : leftM ts sy ≤ leftM ts st - 1 := leftM_step (ts := ts) (partM_step (.inl rfl) hy1); have h2 := partM_lt (.inl rfl) hy1 HOK.out hsy; rw [leftM_ok HOK.out] at hl1 h1; rw [List.length_append, List.length_cons, List.length_nil]; omega), (by rw [List.length_append, List.length_cons, List.length_nil]; omega), by omega⟩
        case measure => exact posM_step HP1.out HP.out _ (partM_step (.inl rfl) hy1) HOK.out fun hsy => partM_lt (.inl rfl) hy1 HOK.out hsy
       ·
        go_simp
        refine hK.out _ _ ?_ (fun hS12 => ?_)
        · exact Far.trans hS11 (Far.of (below_new _ _))
        clear hK K
        have qc := kcR HP
        have rc := HBr.out.c11z; have xc := HBx.out.c11z
        have hI := iq_0_0_0 q w w2 wx11
        refine callA 1 rfl fun K hK => ?_
        go_simp
        refine hK.out _ _ ?_ (fun hS13 => ?_)
        · exact hS12
        clear hK K
        clear qc rc xc
        refine callA 5 rfl fun K hK => ?_
        refine wp_append_D2 _ _ (by rfl) Try.underlying23 info_ex rfl (by decide) (by rfl) (by rfl) (HOv.out.alloc _) (row_app HOW.out (by omega) (by omega) (row_ex y HMy.out) rfl) (by simp only [Ex.rows_len, List.length_cons, List.length_nil]; omega) (by simp only [Ex.rows_len, List.length_cons, List.length_nil]; omega) (by rw [World.size_alloc]; omega) (fun v9 w9 ho hg => ?_)
        obtain ⟨a9, m9, c9, rfl⟩ := mem_slice ho.mem
        refine hK.out _ _ ?_ (fun hS14 => ?_)
        · exact Far.trans hS13 ((grownFar hg).mono (fun b e => .inr (.inr e)))
        clear hK K
        have hs9 : wx11.heap.size + 1 ≤ w9.heap.size := by have h := hg.size; rw [World.size_alloc] at h; exact h
        have hob : ∀ k, (Value.slice a1 m1 c1).ownBlock = some k → B0 ≤ k := fun k hk => (HOv.out.lt k hk).1
        replace HP := Lib.hid ((HP.out.alloc _).grown hg fun k hk => by have := hob k hk; omega)
        replace HF := Lib.hid ((HF.out.alloc _).grown hg fun k hk => by have := hob k hk; omega)
        replace HBr := Lib.hid ((HBr.out.alloc _).grown hg fun k hk => by have := hob k hk; omega)
        replace HBx := Lib.hid ((HBx.out.alloc _).grown hg fun k hk => by have := hob k hk; omega)
        have HOv9 : Hid (OwnD 0 (B0) 27 6 w9 (.slice a9 m9 c9) (Ex.rows (us ++ [y]))) := Lib.hid (by rw [Ex.rows_app, ex_rows1]; exact ho)
        clear ho hg hob HOW HOv
        refine takeA 6 (v := ?_) rfl ?_ ?_
        rotate_left
        · (intro w hSw; (try dsimp only at hSw); go_simp; try with_reducible rfl)
        try simp only [Act.put, pu1, pu2, pu3]
        refine callA 7 rfl fun K hK => ?_
        have qc := kcR HP
        have rc := HBr.out.c11z; have xc := HBx.out.c11z
        have hI := iq_0_0_0 q w w2 w9
        go_simp
        refine hK.out _ _ ?_ (fun hS15 => ?_)
        · exact Far.setCell hS14 (.inr (.inl rfl)) _
        clear hK K
        refine wpAnyH_done (by kernel_rfl) ?_ _

        clear qc rc xc
        generalize ee : World.setCell w9 _ _ = w8
        have hsz8 := sizeS1 ee
        replace HP := rpO1 HP ee
        replace HF := fN1 HF ee
        replace HBr := bF1 HBr ee
        replace HBx : Hid (Bo w8 w2.heap.size 91 #[.string (nameS ts s 2).1, .slice a9 m9 c9, .slice none 0 0, .int .i64 0, .string ⟨#[]⟩, .int .i64 0, .slice none 0 0, .int .i64 0, .int .i64 0, .int .i64 (nowT ts s.i).l, .int .i64 (nowT ts s.i).c]) := Lib.hid (by rw [← ee]; exact HBx.out.set 1 (.slice a9 m9 c9))
        replace HOv9 := oS1 HOv9 ee
        clear ee
        clear hI
        have qc := kcR HP
        have rc := HBr.out.c11z; have xc := HBx.out.c11z
        have hI := iq_0_0_0 q w w2 w8
        have hZ := iq_0_0_0 q w w2 w9
        go_wp2_with (fail)
        clear qc rc xc
        go_roundw
        case rel => exact ⟨us ++ [y], sy, gg, a9, m9, c9, hr1, HP, HF, HBr, HBx, HOv9, (fun hsy => by have h1 : leftM ts sy ≤ leftM ts st - 1 := leftM_step (ts := ts) (partM_step (.inl rfl) hy1); have h2 := partM_lt (.inl rfl) hy1 HOK.out hsy; rw [leftM_ok HOK.out] at hl1 h1; rw [List.length_append, List.length_cons, List.length_nil]; omega), (by rw [List.length_append, List.length_cons, List.length_nil]; omega), by omega⟩
        case measure => exact posM_step HP1.out HP.out _ (partM_step (.inl rfl) hy1) HOK.out fun hsy => partM_lt (.inl rfl) hy1 HOK.out hsy
end
end Go.Proofs.Ytcoiagfeoonpbaa
