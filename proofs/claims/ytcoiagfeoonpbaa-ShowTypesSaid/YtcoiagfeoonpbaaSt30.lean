/-
 The module reader's atom, typ and atoms: types. Under what they do with less fuel. No condition but how the reader and the tokens lie.
-/
import Derived.Test.YtcoiagfeoonpbaaSt20
import Derived.Deep.Cut
import Derived.Test.YtcoiagfeoonpbaaSt18
namespace Go.Proofs.Ytcoiagfeoonpbaa
open Go.RowKit
theorem info_tyM : (Try.prog.info? 39).map (fun i => (i.zero, i.size, i.bytes)) = some (some (.agg #[.int .i64 0, .string ⟨#[]⟩, .int .i64 0, .slice none 0 0]), 4, 56) := by kernel_rfl
theorem rows_len4 (l : List Tm) : (Tm.rows l).length = l.length := by rw [Tm.rows_eq, List.length_map]
theorem rows_app4 (a b : List Tm) : Tm.rows (a ++ b) = Tm.rows a ++ Tm.rows b := by rw [Tm.rows_eq, Tm.rows_eq, Tm.rows_eq, List.map_append]
theorem form2T {base : Nat} {e : TypeId} {w : World} {y : Value} {l : List Tm} (h : OwnD 0 base e 4 w y (Tm.rows l)) : ∃ a m c, y = .slice a m c ∧ m = l.length ∧ m ≤ c ∧ c ≤ 9223372036854775807 := by
 obtain ⟨a, m, c, rfl⟩ := mem_slice h.mem
 have := h.mem.len
 rw [rows_len4] at this
 exact ⟨a, m, c, rfl, this.1.symm, this.2.1, this.2.2⟩
theorem starts_ltM {ts : List Tk} {s : MS} (h : startsS ts s = true) : s.i < ts.length := by
 unfold startsS at h
 simp only [Bool.and_eq_true, Bool.or_eq_true, decide_eq_true_eq] at h
 rcases h.2 with h2 | h2 | h2
 · exact now_lt (by rw [h2]; decide)
 · exact now_lt (by rw [h2]; decide)
 · exact isT_lt (isS_parts h2).2 (by decide)
def TAns (ts : List Tk) (aL : Option Addr) (n cap q : Nat) (x : Tm) (s' : MS) (deep : Nat) (W : World) (e : Ending) (w' : World) : Prop :=
 ∃ a m c, e = .returned (tmV x a m c) ∧ FarQ q W w' ∧ RS ts aL n cap q s' (deep : Int) w' ∧ Mem (Nw 0 W.heap.size w'.heap.size) w' (.s 4 (Tm.rows x.args)) (.slice a m c)
def LAns (ts : List Tk) (aL : Option Addr) (n cap q : Nat) (l : List Tm) (s' : MS) (deep : Nat) (W : World) (e : Ending) (w' : World) : Prop :=
 ∃ a m c, e = .returned (.slice a m c) ∧ FarQ q W w' ∧ RS ts aL n cap q s' (deep : Int) w' ∧ Mem (Nw 0 W.heap.size w'.heap.size) w' (.s 4 (Tm.rows l)) (.slice a m c)
section
variable (ts : List Tk) (aL : Option Addr) (n cap q : Nat)
def ReadsAt (f : Nat) : Prop := ∀ (s : MS) (deep : Nat) (x : Tm) (s' : MS) (w : World), deep ≤ 40 → typeM ts f .atom deep s = some (x, s') → RS ts aL n cap q s (deep : Int) w → Calls Try.prog 66 #[.pointer (some ⟨q, 0, none⟩)] w (TAns ts aL n cap q x s' deep w)
def ReadsTy (f : Nat) : Prop := ∀ (s : MS) (deep : Nat) (x : Tm) (s' : MS) (w : World), deep ≤ 40 ∨ deep = 41 ∧ s.ok = false → typeM ts f .typ deep s = some (x, s') → RS ts aL n cap q s (deep : Int) w → Calls Try.prog 33 #[.pointer (some ⟨q, 0, none⟩)] w (TAns ts aL n cap q x s' deep w)
def ReadsAs (f : Nat) : Prop := ∀ (s : MS) (deep : Nat) (x : Tm) (s' : MS) (w : World), deep ≤ 40 → typeM ts f (.atoms []) deep s = some (x, s') → RS ts aL n cap q s (deep : Int) w → Calls Try.prog 65 #[.pointer (some ⟨q, 0, none⟩)] w (LAns ts aL n cap q x.args s' deep w)
end
section
variable {ts : List Tk} {aL : Option Addr} {n cap q : Nat}
set_option maxRecDepth 100000 in
set_option maxHeartbeats 20000000 in
theorem atomM_reads {f : Nat} (HT : ReadsTy ts aL n cap q f) : ReadsAt ts aL n cap q (f + 1) := by
 intro s deep x s' w hd hr hp
 have HP := Lib.hid hp
 have hq0 := hp.lt
 have HF := Lib.hid (FarB.refl q w.heap.size w)
 have hsm := hp.sm
 have hlen := hp.len
 clear hp
 rw [typeM] at hr
 go_enter Try.func66, Try.ntmps66
 go_upto_region 1 with (fail)
 generalize ee : World.alloc w _ = w1
 have hsa1 := sizeA ee
 replace HP := rpA HP ee
 replace HF := fA HF ee
 have HBr := nB ee (w.heap.size)
 clear ee
 have qc := kcR HP
 have rc := kc4 HBr
 have hI := iq_0_0 q w w1
 have hZ := iq_01 q w
 go_wp2_with (fail)
 clear qc rc
 refine (mnow_any _ HP.out.bo HP.out.mem).mono ?_
 rintro _ w2 ⟨rfl, hb⟩
 have hf := FarQ.of (q := q) hb
 replace HBr := qB HBr hf
 replace HF := qF HF hf
 have hs2 := hf.size
 replace HP := krP HP hb
 clear hf hb
 simp only [tkV]
 clear hI hZ
 have qc := kcR HP
 have rc := kc4 HBr
 have hI := iq_0_0 q w w2
 by_cases h2 : (nowT ts s.i).k = 2
 ·
  rw [if_pos h2] at hr
  cases hr
  have e2 : ((nowT ts s.i).k == 2) = true := by simp [h2]
  have hlt : s.i < ts.length := now_lt (by rw [h2]; decide)
  have hov : (s.i : Int) + 1 ≤ 9223372036854775807 := by omega
  clear h2
  go_upto_region 5 with (fail)
  clear qc rc
  generalize ee : World.setCell w2 _ _ = w3_1
  have hq1 := sizeS1 ee
  replace HP := Lib.hid (HP.out.setIE (k := (s.i + 1)) ee (by omega))
  replace HF := Lib.hid (HF.out.setQE ee)
  replace HBr := bF1 HBr ee
  clear ee
  generalize ee : World.alloc w3_1 _ = w3
  have hq2 := sizeA ee
  replace HP := rpA HP ee
  replace HF := fA HF ee
  replace HBr := bA HBr ee
  have HBt := nB ee (w2.heap.size)
  clear ee
  have hsa3 : w3.heap.size = w2.heap.size + 1 := by omega
  clear hq1 hq2
  clear hI
  have qc := kcR HP
  have rc := kc4 HBr; have tc := kc5 HBt
  have hI := iq_0_0_0 q w w2 w3
  have hZ := iq_0_01 q w w2
  go_wp2_with (fail)
  clear qc rc tc
  generalize ee : World.setCell _ ⟨w.heap.size, 3, none⟩ _ = w4
  have hsz4 := sizeS4 ee
  replace HP := rpO4 HP ee
  replace HF := fN4 HF ee
  replace HBr := bS4 HBr ee
  replace HBt := bF4 HBt ee
  clear ee
  clear hI hZ
  have fc := kc4 HBr
  refine bodyPost_ret (v := .agg #[.int .i64 1, .string (nowT ts s.i).s, .int .i64 0, .slice none 0 0]) (by clear HP HF HBr HBt; simp [results, Try.results66, go_sem, fc]) rfl ?_
  exact ⟨_, _, _, rfl, HF.out.out, HP.out, (.e none 0 4 (by decide))⟩
 by_cases h3 : (nowT ts s.i).k = 3
 ·
  rw [if_neg h2, if_pos h3] at hr
  cases hr
  have e2 : ((nowT ts s.i).k == 2) = false := by simp [h2]
  have e3 : ((nowT ts s.i).k == 3) = true := by simp [h3]
  have hlt : s.i < ts.length := now_lt (by rw [h3]; decide)
  have hov : (s.i : Int) + 1 ≤ 9223372036854775807 := by omega
  clear h3 h2
  go_upto_region 8 with (fail)
  clear qc rc
  generalize ee : World.setCell w2 _ _ = w3_1
  have hq1 := sizeS1 ee
  replace HP := Lib.hid (HP.out.setIE (k := (s.i + 1)) ee (by omega))
  replace HF := Lib.hid (HF.out.setQE ee)
  replace HBr := bF1 HBr ee
  clear ee
  generalize ee : World.alloc w3_1 _ = w3
  have hq2 := sizeA ee
  replace HP := rpA HP ee
  replace HF := fA HF ee
  replace HBr := bA HBr ee
  have HBt := nB ee (w2.heap.size)
  clear ee
  have hsa3 : w3.heap.size = w2.heap.size + 1 := by omega
  clear hq1 hq2
  clear hI
  have qc := kcR HP
  have rc := kc4 HBr; have tc := kc5 HBt
  have hI := iq_0_0_0 q w w2 w3
  have hZ := iq_0_01 q w w2
  go_wp2_with (fail)
  clear qc rc tc
  generalize ee : World.setCell _ ⟨w.heap.size, 3, none⟩ _ = w4
  have hsz4 := sizeS4 ee
  replace HP := rpO4 HP ee
  replace HF := fN4 HF ee
  replace HBr := bS4 HBr ee
  replace HBt := bF4 HBt ee
  clear ee
  clear hI hZ
  have fc := kc4 HBr
  refine bodyPost_ret (v := .agg #[.int .i64 2, .string (nowT ts s.i).s, .int .i64 0, .slice none 0 0]) (by clear HP HF HBr HBt; simp [results, Try.results66, go_sem, fc]) rfl ?_
  exact ⟨_, _, _, rfl, HF.out.out, HP.out, (.e none 0 4 (by decide))⟩
 rw [if_neg h2, if_neg h3] at hr
 have e2 : ((nowT ts s.i).k == 2) = false := by simp [h2]
 have e3 : ((nowT ts s.i).k == 3) = false := by simp [h3]
 obtain ⟨p, hr1, hr2⟩ := Option.map_eq_some_iff.1 hr
 cases hr2
 obtain ⟨z, sz⟩ := p
 by_cases h40 : deep = 40
 rotate_left
 ·
  rw [if_neg h40] at hr1
  have e4 : ((deep : Int) == 40) = false := by simp; omega
  go_upto_region 11 with (fail)
  clear qc rc
  generalize ee : World.alloc w2 _ = w3
  have hsa3 := sizeA ee
  replace HP := rpA HP ee
  replace HF := fA HF ee
  replace HBr := bA HBr ee
  have HBt := nB ee (w2.heap.size)
  clear ee
  clear hI
  have qc := kcR HP
  have rc := kc4 HBr; have tc := kc5 HBt
  have hI := iq_0_0_0 q w w2 w3
  have hZ := iq_0_01 q w w2
  go_wp2_with (fail)
  clear qc rc tc
  refine (mtake_any 6 wOpen _ HP.out (by decide)).mono ?_
  rintro _ w4 ⟨rfl, hf, hp⟩
  replace HBr := qB HBr hf
  replace HBt := qB HBt hf
  replace HF := qF HF hf
  have hs4 := hf.size
  replace HP := Lib.hid hp
  clear hf hp
  clear hI hZ
  have qc := kcR HP
  have rc := kc4 HBr; have tc := kc5 HBt
  have hI := iq_0_0_0 q w w2 w4
  go_upto_region 13 with (fail)
  clear qc rc tc
  generalize ee : World.setCell w4 _ _ = w5
  have hsz5 := sizeS1 ee
  replace HP := Lib.hid (HP.out.setDE (k := (((deep + 1 : Nat) : Int))) ee (by omega))
  replace HF := Lib.hid (HF.out.setQE ee)
  replace HBr := bF1 HBr ee
  replace HBt := bF1 HBt ee
  clear ee
  clear hI
  have qc := kcR HP
  have rc := kc4 HBr; have tc := kc5 HBt
  have hI := iq_0_0_0 q w w2 w5
  have hZ := iq_0_0_0 q w w2 w4
  go_wp2_with (fail)
  clear qc rc tc
  refine (HT _ (deep + 1) z sz _ (by omega) hr1 HP.out).mono ?_
  rintro _ w6 ⟨az, mz, cz, rfl, hf, hp, hm⟩
  replace HBr := qB HBr hf
  replace HBt := qB HBt hf
  replace HF := qF HF hf
  have hs6 := hf.size
  replace HP := Lib.hid hp
  have HMz := Lib.hid hm
  clear hf hp hm
  simp only [tmV]
  clear hI hZ
  have qc := kcR HP
  have rc := kc4 HBr; have tc := kc5 HBt
  have hI := iq_0_0_0 q w w2 w6
  go_upto_region 15 with (fail)
  clear qc rc tc
  generalize ee : World.setCell w6 _ _ = w7_1
  have hq1 := sizeS1 ee
  replace HP := Lib.hid (HP.out.setDE (k := ((deep : Int))) ee (by omega))
  replace HF := Lib.hid (HF.out.setQE ee)
  replace HBr := bF1 HBr ee
  replace HBt := bF1 HBt ee
  replace HMz := mS1 HMz ee
  clear ee
  generalize ee : World.alloc w7_1 _ = w7
  have hq2 := sizeA ee
  replace HP := rpA HP ee
  replace HF := fA HF ee
  replace HBr := bA HBr ee
  replace HBt := bA HBt ee
  replace HMz := mA HMz ee
  have HBx := nB ee (w6.heap.size)
  clear ee
  have hsa7 : w7.heap.size = w6.heap.size + 1 := by omega
  clear hq1 hq2
  clear hI
  have qc := kcR HP
  have rc := kc4 HBr; have tc := kc5 HBt; have xc := kc4 HBx
  have hI := iq_0_0_0_0 q w w2 w6 w7
  have hZ := iq_0_0_01 q w w2 w6
  go_wp2_with (fail)
  clear qc rc tc xc
  refine (mtake_any 6 wClose _ HP.out (by decide)).mono ?_
  rintro _ w8 ⟨rfl, hf, hp⟩
  replace HBr := qB HBr hf
  replace HBt := qB HBt hf
  replace HBx := qB HBx hf
  replace HMz := qM HMz hf
  replace HF := qF HF hf
  have hs8 := hf.size
  replace HP := Lib.hid hp
  clear hf hp
  clear hI hZ
  have qc := kcR HP
  have rc := kc4 HBr; have tc := kc5 HBt; have xc := kc4 HBx
  have hI := iq_0_0_0_0 q w w2 w6 w8
  go_wp2_with (fail)
  clear qc rc tc xc
  generalize ee : World.setCell _ ⟨w.heap.size, 3, none⟩ _ = w9
  have hsz9 := sizeS4 ee
  replace HP := rpO4 HP ee
  replace HF := fN4 HF ee
  replace HBr := bS4 HBr ee
  replace HBt := bF4 HBt ee
  replace HBx := bF4 HBx ee
  replace HMz := mS4 HMz ee
  clear ee
  clear hI
  have fc := kc4 HBr
  refine bodyPost_ret (v := .agg #[.int .i64 z.kind, .string z.name, .int .i64 z.n, .slice az mz cz]) (by clear HP HF HBr HBt HBx HMz; simp [results, Try.results66, go_sem, fc]) rfl ?_
  exact ⟨_, _, _, rfl, HF.out.out, HP.out, memNw HMz.out (by omega)⟩
 rw [if_pos h40] at hr1
 have e4 : ((deep : Int) == 40) = true := by simp; omega
 have H40 := Lib.hid h40
 clear h40
 go_upto_region 10 with (fail)
 clear qc rc
 generalize ee : World.alloc w2 _ = w3
 have hsa3 := sizeA ee
 replace HP := rpA HP ee
 replace HF := fA HF ee
 replace HBr := bA HBr ee
 have HBt := nB ee (w2.heap.size)
 clear ee
 clear hI
 have qc := kcR HP
 have rc := kc4 HBr; have tc := kc5 HBt
 have hI := iq_0_0_0 q w w2 w3
 have hZ := iq_0_01 q w w2
 go_wp2_with (fail)
 clear qc rc tc
 refine (mfail_any _ HP.out).mono ?_
 rintro _ w4 ⟨rfl, hf, hp⟩
 replace HBr := qB HBr hf
 replace HBt := qB HBt hf
 replace HF := qF HF hf
 have hs4 := hf.size
 replace HP := Lib.hid hp
 clear hf hp
 clear hI hZ
 have qc := kcR HP
 have rc := kc4 HBr; have tc := kc5 HBt
 have hI := iq_0_0_0 q w w2 w4
 go_wp2_with (fail)
 clear qc rc tc
 refine (mtake_any 6 wOpen _ HP.out (by decide)).mono ?_
 rintro _ w5 ⟨rfl, hf, hp⟩
 replace HBr := qB HBr hf
 replace HBt := qB HBt hf
 replace HF := qF HF hf
 have hs5 := hf.size
 replace HP := Lib.hid hp
 clear hf hp
 clear hI
 have qc := kcR HP
 have rc := kc4 HBr; have tc := kc5 HBt
 have hI := iq_0_0_0 q w w2 w5
 go_upto_region 13 with (fail)
 clear qc rc tc
 generalize ee : World.setCell w5 _ _ = w6
 have hsz6 := sizeS1 ee
 replace HP := Lib.hid (HP.out.setDE (k := (((deep + 1 : Nat) : Int))) ee (by omega))
 replace HF := Lib.hid (HF.out.setQE ee)
 replace HBr := bF1 HBr ee
 replace HBt := bF1 HBt ee
 clear ee
 clear hI
 have qc := kcR HP
 have rc := kc4 HBr; have tc := kc5 HBt
 have hI := iq_0_0_0 q w w2 w6
 have hZ := iq_0_0_0 q w w2 w5
 go_wp2_with (fail)
 clear qc rc tc
 refine (HT _ (deep + 1) z sz _ (.inr ⟨by have := H40.out; omega, (step_take (ts := ts) _).bad (fail_notok s)⟩) hr1 HP.out).mono ?_
 rintro _ w7 ⟨az, mz, cz, rfl, hf, hp, hm⟩
 replace HBr := qB HBr hf
 replace HBt := qB HBt hf
 replace HF := qF HF hf
 have hs7 := hf.size
 replace HP := Lib.hid hp
 have HMz := Lib.hid hm
 clear hf hp hm
 simp only [tmV]
 clear hI hZ
 have qc := kcR HP
 have rc := kc4 HBr; have tc := kc5 HBt
 have hI := iq_0_0_0 q w w2 w7
 go_upto_region 15 with (fail)
 clear qc rc tc
 generalize ee : World.setCell w7 _ _ = w8_1
 have hq1 := sizeS1 ee
 replace HP := Lib.hid (HP.out.setDE (k := ((deep : Int))) ee (by omega))
 replace HF := Lib.hid (HF.out.setQE ee)
 replace HBr := bF1 HBr ee
 replace HBt := bF1 HBt ee
 replace HMz := mS1 HMz ee
 clear ee
 generalize ee : World.alloc w8_1 _ = w8
 have hq2 := sizeA ee
 replace HP := rpA HP ee
 replace HF := fA HF ee
 replace HBr := bA HBr ee
 replace HBt := bA HBt ee
 replace HMz := mA HMz ee
 have HBx := nB ee (w7.heap.size)
 clear ee
 have hsa8 : w8.heap.size = w7.heap.size + 1 := by omega
 clear hq1 hq2
 clear hI
 have qc := kcR HP
 have rc := kc4 HBr; have tc := kc5 HBt; have xc := kc4 HBx
 have hI := iq_0_0_0_0 q w w2 w7 w8
 have hZ := iq_0_0_01 q w w2 w7
 go_wp2_with (fail)
 clear qc rc tc xc
 refine (mtake_any 6 wClose _ HP.out (by decide)).mono ?_
 rintro _ w9 ⟨rfl, hf, hp⟩
 replace HBr := qB HBr hf
 replace HBt := qB HBt hf
 replace HBx := qB HBx hf
 replace HMz := qM HMz hf
 replace HF := qF HF hf
 have hs9 := hf.size
 replace HP := Lib.hid hp
 clear hf hp
 clear hI hZ
 have qc := kcR HP
 have rc := kc4 HBr; have tc := kc5 HBt; have xc := kc4 HBx
 have hI := iq_0_0_0_0 q w w2 w7 w9
 go_wp2_with (fail)
 clear qc rc tc xc
 generalize ee : World.setCell _ ⟨w.heap.size, 3, none⟩ _ = w10
 have hsz10 := sizeS4 ee
 replace HP := rpO4 HP ee
 replace HF := fN4 HF ee
 replace HBr := bS4 HBr ee
 replace HBt := bF4 HBt ee
 replace HBx := bF4 HBx ee
 replace HMz := mS4 HMz ee
 clear ee
 clear hI
 have fc := kc4 HBr
 refine bodyPost_ret (v := .agg #[.int .i64 z.kind, .string z.name, .int .i64 z.n, .slice az mz cz]) (by clear HP HF HBr HBt HBx HMz; simp [results, Try.results66, go_sem, fc]) rfl ?_
 exact ⟨_, _, _, rfl, HF.out.out, HP.out, memNw HMz.out (by omega)⟩
set_option maxRecDepth 100000 in
set_option maxHeartbeats 20000000 in
theorem typM_reads {f : Nat} (HA : ReadsAt ts aL n cap q f) (HL : ReadsAs ts aL n cap q f) : ReadsTy ts aL n cap q (f + 1) := by
 intro s deep x s' w hd hr hp
 have HP := Lib.hid hp
 have hq0 := hp.lt
 have HF := Lib.hid (FarB.refl q w.heap.size w)
 have hsm := hp.sm
 have hlen := hp.len
 clear hp
 rw [typeM] at hr
 go_enter Try.func33, Try.ntmps33
 go_upto_region 1 with (fail)
 generalize ee : World.alloc w _ = w1
 have hsa1 := sizeA ee
 replace HP := rpA HP ee
 replace HF := fA HF ee
 have HBr := nB ee (w.heap.size)
 clear ee
 have qc := kcR HP
 have rc := kc4 HBr
 have hI := iq_0_0 q w w1
 have hZ := iq_01 q w
 go_wp2_with (fail)
 refine (mok_any _ HP.out).mono ?_
 rintro _ _ ⟨rfl, rfl⟩
 by_cases hok : s.ok = false
 ·
  rw [if_pos hok] at hr
  cases hr
  rw [hok]
  go_wp2_with (fail)
  clear qc rc
  generalize ee : World.setCell _ ⟨w.heap.size, 3, none⟩ _ = w2
  have hsz2 := sizeS4 ee
  replace HP := rpO4 HP ee
  replace HF := fN4 HF ee
  replace HBr := bS4 HBr ee
  clear ee
  clear hI hZ
  have fc := kc4 HBr
  refine bodyPost_ret (v := .agg #[.int .i64 0, .string ⟨#[]⟩, .int .i64 0, .slice none 0 0]) (by clear HP HF HBr; simp [results, Try.results33, go_sem, fc]) rfl ?_
  exact ⟨_, _, _, rfl, HF.out.out, HP.out, (.e none 0 4 (by decide))⟩
 rw [if_neg hok] at hr
 have hok1 : s.ok = true := by simpa using hok
 have hd4 : deep ≤ 40 := by rcases hd with h | h; exact h; exact absurd h.2 hok
 rw [hok1]
 go_wp2_with (fail)
 clear qc rc
 refine (mnow_any _ HP.out.bo HP.out.mem).mono ?_
 rintro _ w2 ⟨rfl, hb⟩
 have hf := FarQ.of (q := q) hb
 replace HBr := qB HBr hf
 replace HF := qF HF hf
 have hs2 := hf.size
 replace HP := krP HP hb
 clear hf hb
 simp only [tkV]
 clear hI hZ
 have qc := kcR HP
 have rc := kc4 HBr
 have hI := iq_0_0 q w w2
 by_cases h3 : (nowT ts s.i).k = 3
 rotate_left
 ·
  rw [if_neg h3] at hr
  have e3 : ((nowT ts s.i).k == 3) = false := by simp [h3]
  go_upto_region 7 with (fail)
  clear qc rc
  generalize ee : World.alloc w2 _ = w3
  have hsa3 := sizeA ee
  replace HP := rpA HP ee
  replace HF := fA HF ee
  replace HBr := bA HBr ee
  have HBt := nB ee (w2.heap.size)
  clear ee
  clear hI
  have qc := kcR HP
  have rc := kc4 HBr; have tc := kc5 HBt
  have hI := iq_0_0_0 q w w2 w3
  have hZ := iq_0_01 q w w2
  go_wp2_with (fail)
  clear qc rc tc
  refine (HA s deep x s' _ hd4 hr HP.out).mono ?_
  rintro _ w4 ⟨az, mz, cz, rfl, hf, hp, hm⟩
  replace HBr := qB HBr hf
  replace HBt := qB HBt hf
  replace HF := qF HF hf
  have hs4 := hf.size
  replace HP := Lib.hid hp
  have HMz := Lib.hid hm
  clear hf hp hm
  simp only [tmV]
  clear hI hZ
  have qc := kcR HP
  have rc := kc4 HBr; have tc := kc5 HBt
  have hI := iq_0_0_0 q w w2 w4
  go_wp2_with (fail)
  clear qc rc tc
  generalize ee : World.setCell _ ⟨w.heap.size, 3, none⟩ _ = w5
  have hsz5 := sizeS4 ee
  replace HP := rpO4 HP ee
  replace HF := fN4 HF ee
  replace HBr := bS4 HBr ee
  replace HBt := bF4 HBt ee
  replace HMz := mS4 HMz ee
  clear ee
  clear hI
  have fc := kc4 HBr
  refine bodyPost_ret (v := .agg #[.int .i64 x.kind, .string x.name, .int .i64 x.n, .slice az mz cz]) (by clear HP HF HBr HBt HMz; simp [results, Try.results33, go_sem, fc]) rfl ?_
  exact ⟨_, _, _, rfl, HF.out.out, HP.out, memNw HMz.out (by omega)⟩
 rw [if_pos h3] at hr
 have e3 : ((nowT ts s.i).k == 3) = true := by simp [h3]
 have hlt : s.i < ts.length := now_lt (by rw [h3]; decide)
 have hov : (s.i : Int) + 1 ≤ 9223372036854775807 := by omega
 clear h3
 obtain ⟨p, hr1, hr2⟩ := Option.map_eq_some_iff.1 hr
 cases hr2
 obtain ⟨z, sz⟩ := p
 go_upto_region 6 with (fail)
 clear qc rc
 generalize ee : World.setCell w2 _ _ = w3_1
 have hq1 := sizeS1 ee
 replace HP := Lib.hid (HP.out.setIE (k := (s.i + 1)) ee (by omega))
 replace HF := Lib.hid (HF.out.setQE ee)
 replace HBr := bF1 HBr ee
 clear ee
 generalize ee : World.alloc w3_1 _ = w3
 have hq2 := sizeA ee
 replace HP := rpA HP ee
 replace HF := fA HF ee
 replace HBr := bA HBr ee
 have HBt := nB ee (w2.heap.size)
 clear ee
 have hsa3 : w3.heap.size = w2.heap.size + 1 := by omega
 clear hq1 hq2
 clear hI
 have qc := kcR HP
 have rc := kc4 HBr; have tc := kc5 HBt
 have hI := iq_0_0_0 q w w2 w3
 have hZ := iq_0_01 q w w2
 go_wp2_with (fail)
 refine wp_region_held_drew (S := fun w' => Far (fun b => b = q ∨ b = w.heap.size) (w3) w') (by kernel_rfl) (Far.of (below_drew _)) (fun hS10 => ?_)
 refine takeA 0 (v := ?_) rfl ?_ ?_
 rotate_left
 · (intro w hSw; (try dsimp only at hSw); replace tc := Far.c5z tc hSw; go_simp; try with_reducible rfl)
 try simp only [Act.put, pu1, pu2, pu3]
 refine takeA 1 (v := ?_) rfl ?_ ?_
 rotate_left
 · (intro w hSw; (try dsimp only at hSw); replace tc := Far.c5z tc hSw; go_simp; try with_reducible rfl)
 try simp only [Act.put, pu1, pu2, pu3]
 refine takeA 2 (v := ?_) rfl ?_ ?_
 rotate_left
 · (intro w hSw; (try dsimp only at hSw); replace tc := Far.c5z tc hSw; go_simp; try with_reducible rfl)
 try simp only [Act.put, pu1, pu2, pu3]

 clear qc rc tc
 refine callA 3 rfl fun K hK => ?_
 go_simp
 refine (HL s.next deep z sz _ hd4 hr1 HP.out.drew).mono ?_
 rintro e wx11 ⟨az, mz, cz, rfl, hf, hp, hm⟩
 have hswx11 : w3.heap.size ≤ wx11.heap.size := hf.size
 replace hf : FarQ q w3 wx11 := (FarQ.of (below_drew _)).trans hf
 replace HBr := qB HBr hf
 replace HBt := qB HBt hf
 replace HF := qF HF hf
 replace HP := Lib.hid hp
 have HMz : Hid (Mem (Nw 0 w3.heap.size _) _ _ _) := Lib.hid hm
 clear hp hm
 go_simp
 refine hK.out _ _ ?_ (fun hS11 => ?_)
 · exact (Far.mono hf (fun b e => .inl e))
 clear hK K

 refine takeA 4 (v := ?_) rfl ?_ ?_
 rotate_left
 · (intro w hSw; (try dsimp only at hSw); go_simp; try with_reducible rfl)
 try simp only [Act.put, pu1, pu2, pu3]

 clear hI hZ
 have qc := kcR HP
 have rc := kc4 HBr; have tc := kc5 HBt
 have hI := iq_0_0_0 q w w2 wx11
 refine callA 5 rfl fun K hK => ?_
 go_simp
 refine hK.out _ _ ?_ (fun hS12 => ?_)
 · exact (by (iterate 4 (refine Far.setCell (p := ⟨w.heap.size, _, none⟩) ?_ (.inr rfl) _)); exact hS11)
 clear hK K
 refine wpAnyH_done (by kernel_rfl) ?_ _

 clear qc rc tc
 generalize ee : World.setCell _ ⟨w.heap.size, 3, none⟩ _ = w4
 have hsz4 := sizeS4 ee
 replace HP := rpO4 HP ee
 replace HF := fN4 HF ee
 replace HBr := bS4 HBr ee
 replace HBt := bF4 HBt ee
 replace HMz := mS4 HMz ee
 clear ee
 clear hI
 have qc := kcR HP
 have rc := kc4 HBr; have tc := kc5 HBt
 have hI := iq_0_0_0 q w w2 w4
 have hZ := iq_0_0_0 q w w2 wx11
 go_wp2_with (fail)
 clear qc rc tc
 have fc := kc4 HBr
 refine bodyPost_ret (v := .agg #[.int .i64 2, .string (nowT ts s.i).s, .int .i64 0, .slice az mz cz]) (by clear HP HF HBr HBt HMz; simp [results, Try.results33, go_sem, fc]) rfl ?_
 exact ⟨_, _, _, rfl, HF.out.out, HP.out, memNw HMz.out (by omega)⟩
set_option maxRecDepth 100000 in
set_option maxHeartbeats 20000000 in
theorem atomsM_reads (f : Nat) (HA : ∀ g, g < f → ReadsAt ts aL n cap q g) : ReadsAs ts aL n cap q f := by
 intro s0 deep x s' w hd hr hp
 have HP := Lib.hid hp
 have hq0 := hp.lt
 have HF := Lib.hid (FarB.refl q w.heap.size w)
 have hsm := hp.sm
 have hlen := hp.len
 clear hp
 go_enter Try.func65, Try.ntmps65
 go_wp2_with (fail)
 go_loopw [3] (fun v wr => ∃ (l : List Tm) (s : MS) (g : Nat), typeM ts g (.atoms l) deep s = some (x, s') ∧ g ≤ f ∧ Hid (RS ts aL n cap q s (deep : Int) wr) ∧ Hid (FarB q w.heap.size w wr) ∧ Hid (OwnD 0 w.heap.size 39 4 wr v (Tm.rows l)) ∧ (l.length : Int) + leftM ts s ≤ ts.length ∧ w.heap.size ≤ wr.heap.size) (fun v _ => ts.length + 1 - lenV v)
 case atStart => exact ⟨[], s0, f, hr, Nat.le_refl _, HP, HF, Lib.hid (OwnD.nil _ _ _ _ _), (by have := leftM_le (ts := ts) s0; simp only [List.length_nil]; omega), Nat.le_refl _⟩
 case round =>
  clear HP HF hr
  obtain ⟨l, s, g, hr, hg, HP, HF, HOl, hl1, hws⟩ := hrel
  obtain ⟨a1, m1, c1, rfl, hm1, hm2, hm3⟩ := form2T HOl.out
  have hsm1 : m1 ≤ 1048576 := by omega
  have HM1 := Lib.hid hm1
  clear hm1 hm3
  have qc := kcR HP
  have hI := chain2 q wr.heap.size
  go_wp2_with (fail)
  clear qc
  refine (mstarts_any _ HP.out).mono ?_
  rintro _ w1 ⟨rfl, hb⟩
  have hf := FarQ.of (q := q) hb
  replace HOl := qO HOl hf
  replace HF := qF HF hf
  have hs1 := hf.size
  replace HP := krP HP hb
  clear hf hb
  cases g with
  | zero => rw [typeM] at hr; cases hr
  | succ g =>
   rw [typeM] at hr
   cases hst : startsS ts s with
   | false =>
    simp only [hst, Bool.false_eq_true, if_false] at hr
    cases hr
    clear hI
    have qc := kcR HP
    have hI := chain2 q w1.heap.size
    go_wp2_with (fail)
    clear qc
    go_ret
    exact ⟨_, _, _, rfl, HF.out.out, HP.out, memNw HOl.out.mem (by omega)⟩
   | true =>
    simp only [hst, if_true] at hr
    obtain ⟨p, hr1, hr2⟩ := Option.bind_eq_some_iff.1 hr
    obtain ⟨z, sz⟩ := p
    have HST := Lib.hid hst
    clear hst hr
    clear hI
    have qc := kcR HP
    have hI := chain2 q w1.heap.size
    go_wp2_with (fail)
    have HOW := HOl
    clear qc
    refine (HA g (by omega) s deep z sz _ hd hr1 HP.out).mono ?_
    rintro _ w2 ⟨az, mz, cz, rfl, hf, hp, hm⟩
    replace HOl := qO HOl hf
    replace HF := qF HF hf
    have hs2 := hf.size
    replace HP := Lib.hid hp
    have HMz := Lib.hid hm
    clear hf hp hm
    simp only [tmV]
    clear hI
    have qc := kcR HP
    have hI := chain2 q w2.heap.size
    have hlz : l.length + 1 ≤ 1048576 := by
     have h1 := leftM_step (ts := ts) (typeM_step _ _ _ _ _ _ hr1)
     have hok : s.ok = true := by have h := HST.out; unfold startsS at h; rw [Bool.and_eq_true] at h; exact h.1
     have hlt : s.i < ts.length := starts_ltM HST.out
     rw [leftM_ok hok] at hl1 h1
     simp only [wMt] at h1
     omega
    go_wp2_with (first | (at_builtin; refine wpList_append_D rfl _ _ rfl Try.underlying37 info_tyM rfl (by decide) rfl rfl (HOl.out.alloc _) (row_app HOW.out (by omega) (by omega) (tm_mem HMz.out) rfl) (by have := HM1.out; simp only [rows_len4, List.length_cons, List.length_nil]; omega) (by have := HM1.out; simp only [rows_len4, List.length_cons, List.length_nil]; omega) (by rw [World.size_alloc]; omega) ?_; intro v9 w9 ho hgr; have HO9 := Lib.hid ho; clear ho; have HG9 := Lib.hid hgr; clear hgr))
    have hob : ∀ k, (Value.slice a1 m1 c1).ownBlock = some k → w.heap.size ≤ k := fun k hk => (HOl.out.lt k hk).1
    clear qc
    have HO8 : Hid (OwnD 0 w.heap.size 39 4 w9 v9 (Tm.rows (l ++ [z]))) := Lib.hid (by rw [rows_app4]; exact HO9.out)
    obtain ⟨a2, m2, c2, rfl, hm4, _, _⟩ := form2T HO8.out
    rw [List.length_append, List.length_cons, List.length_nil] at hm4
    have hs9 : w2.heap.size + 1 ≤ w9.heap.size := by have h := HG9.out.size; rw [World.size_alloc] at h; exact h
    have hl9 : ((l ++ [z]).length : Int) + leftM ts sz ≤ ts.length := by
     have h1 := leftM_step (ts := ts) (typeM_step _ _ _ _ _ _ hr1)
     have hok : s.ok = true := by have h := HST.out; unfold startsS at h; rw [Bool.and_eq_true] at h; exact h.1
     have hlt : s.i < ts.length := starts_ltM HST.out
     rw [leftM_ok hok] at hl1 h1
     simp only [wMt] at h1
     rw [List.length_append, List.length_cons, List.length_nil]
     omega
    go_roundw
    case rel => exact ⟨l ++ [z], sz, g, hr2, by omega, Lib.hid ((HP.out.alloc _).grown HG9.out fun k hk => by have := hob k hk; omega), Lib.hid ((HF.out.alloc _).grown HG9.out fun k hk => by have := hob k hk; omega), HO8, hl9, by omega⟩
    case measure => have := HM1.out; simp only [lenV]; omega
end
theorem allT (ts : List Tk) (aL : Option Addr) (n cap q : Nat) : ∀ F g, g ≤ F → ReadsAt ts aL n cap q g ∧ ReadsTy ts aL n cap q g ∧ ReadsAs ts aL n cap q g
  | 0, g, h => by
    obtain rfl : g = 0 := by omega
    exact ⟨fun s deep x s' w _ hr => (by rw [typeM] at hr; cases hr), fun s deep x s' w _ hr => (by rw [typeM] at hr; cases hr), fun s deep x s' w _ hr => (by rw [typeM] at hr; cases hr)⟩
  | F + 1, g, h => by
    by_cases e : g = F + 1
    · subst e
      have ih := allT ts aL n cap q F
      exact ⟨atomM_reads (ih F (Nat.le_refl _)).2.1, typM_reads (ih F (Nat.le_refl _)).1 (ih F (Nat.le_refl _)).2.2, atomsM_reads (F + 1) fun g hg => (ih g (by omega)).1⟩
    · exact allT ts aL n cap q F g (by omega)
end Go.Proofs.Ytcoiagfeoonpbaa

/-
 The document's reader's typ and types: types. No condition but how the tokens lie.
-/
namespace Go.Proofs.Ytcoiagfeoonpbaa
open Go.RowKit
section
variable (ts : List Tk) (aL : Option Addr) (n cap : Nat)
end
section
variable {ts : List Tk} {aL : Option Addr} {n cap : Nat}
attribute [local go_sem] tk_pos tk_text tk_kind0
end
end Go.Proofs.Ytcoiagfeoonpbaa

/-
  module.Type, and the document's Type: the type that begins somewhere. No condition but how the tokens lie, and how many there are.
-/
namespace Go.Proofs.Ytcoiagfeoonpbaa
open Go.RowKit
def MtAns (x : Tm) (s' : MS) (W : World) (e : Ending) (w' : World) : Prop :=
  match s'.b with
  | none => ∃ a m c, e = .returned (.tuple #[tmV x a m c, .int .i64 (s'.i : Int), .agg #[.int .i64 0, .int .i64 0, .int .i64 0]]) ∧ Below W.heap.size W w' ∧ Mem (Nw 0 W.heap.size w'.heap.size) w' (.s 4 (Tm.rows x.args)) (.slice a m c)
  | some p => e = .returned (.tuple #[.agg #[.int .i64 0, .string ⟨#[]⟩, .int .i64 0, .slice none 0 0], .int .i64 0, .agg #[.int .i64 1, .int .i64 p.1, .int .i64 p.2]]) ∧ Below W.heap.size W w'
set_option maxRecDepth 100000 in
set_option maxHeartbeats 20000000 in
theorem mtype_any {ts : List Tk} {aL : Option Addr} {n cap F : Nat} {x : Tm} {s' : MS} (i : Int) (w : World) (h : MemW w (.s 5 (tkRows ts)) (.slice aL n cap)) (hn : n ≤ 1048576) (hr : typeM ts F .typ 0 ⟨i.toNat, none⟩ = some (x, s')) :
  Calls Try.prog 13 #[.slice aL n cap, .int .i64 i] w (MtAns x s' w) := by
 have H := Lib.hid h
 clear h
 have HF : Hid (FarB w.heap.size w.heap.size w w) := Lib.hid (FarB.refl _ _ _)
 have hmx : (if i < 0 then 0 else i) = (i.toNat : Int) := by split <;> omega
 have hmx2 : (if 0 < i then i else 0) = (i.toNat : Int) := by split <;> omega
 generalize i.toNat = m0 at hr hmx hmx2
 go_enter Try.func13, Try.ntmps13
 go_upto_region 1 with (fail)
 generalize ee : World.alloc w _ = w1_1
 have hq1 := sizeA ee
 replace HF := fA HF ee
 have HBr := nB ee (w.heap.size)
 clear ee
 generalize ee : World.alloc w1_1 _ = w1
 have hq2 := sizeA ee
 replace HF := fA HF ee
 replace HBr := bA HBr ee
 have HBz := nB ee (w.heap.size + 1)
 clear ee
 have hsa1 : w1.heap.size = w.heap.size + 2 := by omega
 clear hq1 hq2
 have rc := kc4 HBr; have zc := kc3 HBz
 have hI := i01_0 w w1
 have hZ := i012 w
 go_wp2_with (fail)
 clear rc zc
 generalize ee : World.alloc w1 _ = w2
 have hsa2 := sizeA ee
 replace HF := fA HF ee
 replace HBr := bA HBr ee
 replace HBz := bA HBz ee
 have HBq := nB ee (w.heap.size + 2)
 clear ee
 clear hI hZ
 obtain ⟨q, hq⟩ : ∃ q, q = w.heap.size + 2 := ⟨_, rfl⟩
 rw [← hq] at HBq ⊢
 have HP : Hid (RS ts aL n cap q ⟨m0, none⟩ ((0 : Nat) : Int) w2) := by
  refine Lib.hid ⟨HBq.out, ?_, hn⟩
  exact H.out.mono (fun b hb => by have h1 : b < w.heap.size := hb; show b < q; omega) fun b hb => (refBelow HF.out).block b hb
 have hlen := HP.out.len
 have hsm := HP.out.sm
 clear HBq H
 replace HF : Hid (FarB q w.heap.size w w2) := Lib.hid (Far.mono HF.out fun b e => .inr (by rcases e with e | e <;> omega))
 have hq3 : q ≤ w.heap.size + 2 ∧ w.heap.size + 2 ≤ q := by omega
 clear hmx hmx2 hq
 have hqz : w2.heap.size ≤ q + 1 ∧ q + 1 ≤ w2.heap.size := by omega
 refine ((allT ts aL n cap q F F (Nat.le_refl _)).2.1 ⟨m0, none⟩ 0 x s' _ (.inl (by omega)) hr HP.out).mono ?_
 rintro _ w3 ⟨ax, mx, cx, rfl, hf, hp, hm⟩
 replace HBr := qB HBr hf
 replace HBz := qB HBz hf
 replace HF := qF HF hf
 have hs3 := hf.size
 replace HP := Lib.hid hp
 have HMx := Lib.hid hm
 clear hf hp hm
 simp only [tmV]
 have qc := kcR HP
 have rc := kc4 HBr; have zc := kc3 HBz
 have hI := chain4 w.heap.size (w.heap.size + 1) q w3.heap.size
 go_upto_region 3 with (fail)
 clear qc rc zc
 generalize ee : World.alloc w3 _ = w4
 have hsa4 := sizeA ee
 replace HP := rpA HP ee
 replace HF := fA HF ee
 replace HBr := bA HBr ee
 replace HBz := bA HBz ee
 replace HMx := mA HMx ee
 have HBt := nB ee (w3.heap.size)
 clear ee
 clear hI
 have qc := kcR HP
 have rc := kc4 HBr; have zc := kc3 HBz; have tc := kc4 HBt
 have hI := chain5 w.heap.size (w.heap.size + 1) q w3.heap.size w4.heap.size
 have hZ := chain5 w.heap.size (w.heap.size + 1) q w3.heap.size (w3.heap.size + 1)
 go_wp2_with (fail)
 refine (mok_any _ HP.out).mono ?_
 rintro _ _ ⟨rfl, rfl⟩
 cases hso : s'.ok with
 | false =>
  obtain ⟨i', b'⟩ := s'
  cases b' with
  | none => cases hso
  | some p =>
   clear hso
   go_wp2_with (fail)
   refine wp_region_held_drew (S := fun w' => Far (fun b => b = w.heap.size ∨ b = (w.heap.size + 1)) (w4) w') (by kernel_rfl) (Far.of (below_drew _)) (fun hS40 => ?_)
   refine takeA 0 (v := ?_) rfl ?_ ?_
   rotate_left
   · (intro w hSw; (try dsimp only at hSw); replace qc := Far.c6z qc hSw; go_simp; try with_reducible rfl)
   try simp only [Act.put, pu1, pu2, pu3]
   refine takeA 1 (v := ?_) rfl ?_ ?_
   rotate_left
   · (intro w hSw; (try dsimp only at hSw); replace qc := Far.c6z qc hSw; go_simp; try with_reducible rfl)
   try simp only [Act.put, pu1, pu2, pu3]
   refine takeA 2 (v := ?_) rfl ?_ ?_
   rotate_left
   · (intro w hSw; (try dsimp only at hSw); replace qc := Far.c6z qc hSw; go_simp; try with_reducible rfl)
   try simp only [Act.put, pu1, pu2, pu3]
   refine takeA 3 (v := ?_) rfl ?_ ?_
   rotate_left
   · (intro w hSw; (try dsimp only at hSw); replace qc := Far.c6z qc hSw; go_simp; try with_reducible rfl)
   try simp only [Act.put, pu1, pu2, pu3]
   refine takeA 4 (v := ?_) rfl ?_ ?_
   rotate_left
   · (intro w hSw; (try dsimp only at hSw); replace qc := Far.c6z qc hSw; go_simp; try with_reducible rfl)
   try simp only [Act.put, pu1, pu2, pu3]

   clear HP
   refine callA 5 rfl fun K hK => ?_
   go_simp
   refine hK.out _ _ ?_ (fun hS41 => ?_)
   · exact (by refine Far.trans ?_ (Far.of (below_drew _)); (iterate 4 (refine Far.setCell (p := ⟨w.heap.size, _, none⟩) ?_ (.inl rfl) _)); exact Far.refl _ _)
   clear hK K

   clear qc rc zc tc
   generalize ee : ((((w4.setCell ⟨w.heap.size, 0, none⟩ (.int .i64 0)).setCell ⟨w.heap.size, 1, none⟩ (.string ⟨#[]⟩)).setCell ⟨w.heap.size, 2, none⟩ (.int .i64 0)).setCell ⟨w.heap.size, 3, none⟩ (.slice none 0 0)) = w5_1 at *
   have hq1 := sizeS4 ee
   replace HF := fN4 HF ee
   replace HBr := bS4 HBr ee
   replace HBz := bF4 HBz ee
   replace HBt := bF4 HBt ee
   replace HMx := mS4 HMx ee
   clear ee
   generalize ee : (w5_1.drew) = w5 at *
   have hq2 := sizeD ee
   replace HF := fD HF ee
   replace HBr := bD HBr ee
   replace HBz := bD HBz ee
   replace HBt := bD HBt ee
   replace HMx := mD HMx ee
   clear ee
   have hsa5 : w5.heap.size = w3.heap.size + 1 := by omega
   clear hq1 hq2
   clear hI hZ
   have rc := kc4 HBr; have zc := kc3 HBz; have tc := kc4 HBt
   have hI := i01_0_0 w w3 w5
   have hZ := i01_01 w w3
   refine takeA 6 (v := ?_) rfl ?_ ?_
   rotate_left
   · (intro w hSw; (try dsimp only at hSw); go_simp; try with_reducible rfl)
   try simp only [Act.put, pu1, pu2, pu3]

   refine callA 7 rfl fun K hK => ?_
   go_simp
   refine hK.out _ _ ?_ (fun hS42 => ?_)
   · exact (by (iterate 3 (refine Far.setCell (p := ⟨(w.heap.size + 1), _, none⟩) ?_ (.inr rfl) _)); exact hS41)
   clear hK K
   refine wpAnyH_done (by kernel_rfl) ?_ _

   clear rc zc tc
   generalize ee : World.setCell _ ⟨(w.heap.size + 1), 2, none⟩ _ = w6
   have hsz6 := sizeS3 ee
   replace HF := fN3 HF ee
   replace HBr := bF3 HBr ee
   replace HBz := bS3 HBz ee
   replace HBt := bF3 HBt ee
   replace HMx := mS3 HMx ee
   clear ee
   clear hI hZ
   go_wp2_with (fail)
   have fr := kc4 HBr; have fz := kc3 HBz
   refine bodyPost_ret (v := .tuple #[.agg #[.int .i64 0, .string ⟨#[]⟩, .int .i64 0, .slice none 0 0], .int .i64 0, .agg #[.int .i64 (eB (some p)), .int .i64 (lB (some p)), .int .i64 (cB (some p))]]) (by clear HF HBr HBz HBt HMx; simp [results, Try.results13, go_sem, fr, fz]) rfl ?_
   exact ⟨rfl, Far.toB (Far.mono HF.out fun b e => by rcases e with e | e <;> omega) (Nat.le_refl _)⟩
 | true =>
  obtain ⟨i', b'⟩ := s'
  cases b' with
  | some p => cases hso
  | none =>
   clear hso
   go_wp2_with (fail)
   refine wp_region_held_drew (S := fun w' => Far (fun b => b = w.heap.size ∨ b = (w.heap.size + 1)) (w4) w') (by kernel_rfl) (Far.of (below_drew _)) (fun hS40 => ?_)
   refine takeA 0 (v := ?_) rfl ?_ ?_
   rotate_left
   · (intro w hSw; (try dsimp only at hSw); replace tc := Far.c4z tc hSw; replace qc := Far.c6z qc hSw; go_simp; try with_reducible rfl)
   try simp only [Act.put, pu1, pu2, pu3]
   refine takeA 1 (v := ?_) rfl ?_ ?_
   rotate_left
   · (intro w hSw; (try dsimp only at hSw); replace tc := Far.c4z tc hSw; replace qc := Far.c6z qc hSw; go_simp; try with_reducible rfl)
   try simp only [Act.put, pu1, pu2, pu3]
   refine takeA 2 (v := ?_) rfl ?_ ?_
   rotate_left
   · (intro w hSw; (try dsimp only at hSw); replace tc := Far.c4z tc hSw; replace qc := Far.c6z qc hSw; go_simp; try with_reducible rfl)
   try simp only [Act.put, pu1, pu2, pu3]
   refine takeA 3 (v := ?_) rfl ?_ ?_
   rotate_left
   · (intro w hSw; (try dsimp only at hSw); replace tc := Far.c4z tc hSw; replace qc := Far.c6z qc hSw; go_simp; try with_reducible rfl)
   try simp only [Act.put, pu1, pu2, pu3]
   refine takeA 4 (v := ?_) rfl ?_ ?_
   rotate_left
   · (intro w hSw; (try dsimp only at hSw); replace tc := Far.c4z tc hSw; replace qc := Far.c6z qc hSw; go_simp; try with_reducible rfl)
   try simp only [Act.put, pu1, pu2, pu3]
   refine takeA 5 (v := ?_) rfl ?_ ?_
   rotate_left
   · (intro w hSw; (try dsimp only at hSw); replace tc := Far.c4z tc hSw; replace qc := Far.c6z qc hSw; go_simp; try with_reducible rfl)
   try simp only [Act.put, pu1, pu2, pu3]

   clear HP
   refine callA 6 rfl fun K hK => ?_
   go_simp
   refine hK.out _ _ ?_ (fun hS41 => ?_)
   · exact (by refine Far.trans ?_ (Far.of (below_drew _)); (iterate 4 (refine Far.setCell (p := ⟨w.heap.size, _, none⟩) ?_ (.inl rfl) _)); exact Far.refl _ _)
   clear hK K

   clear qc rc zc tc
   generalize ee : ((((w4.setCell ⟨w.heap.size, 0, none⟩ (.int .i64 x.kind)).setCell ⟨w.heap.size, 1, none⟩ (.string x.name)).setCell ⟨w.heap.size, 2, none⟩ (.int .i64 x.n)).setCell ⟨w.heap.size, 3, none⟩ (.slice ax mx cx)) = w5_1 at *
   have hq1 := sizeS4 ee
   replace HF := fN4 HF ee
   replace HBr := bS4 HBr ee
   replace HBz := bF4 HBz ee
   replace HBt := bF4 HBt ee
   replace HMx := mS4 HMx ee
   clear ee
   generalize ee : (w5_1.drew) = w5 at *
   have hq2 := sizeD ee
   replace HF := fD HF ee
   replace HBr := bD HBr ee
   replace HBz := bD HBz ee
   replace HBt := bD HBt ee
   replace HMx := mD HMx ee
   clear ee
   have hsa5 : w5.heap.size = w3.heap.size + 1 := by omega
   clear hq1 hq2
   clear hI hZ
   have rc := kc4 HBr; have zc := kc3 HBz; have tc := kc4 HBt
   have hI := i01_0_0 w w3 w5
   have hZ := i01_01 w w3
   refine takeA 7 (v := ?_) rfl ?_ ?_
   rotate_left
   · (intro w hSw; (try dsimp only at hSw); go_simp; try with_reducible rfl)
   try simp only [Act.put, pu1, pu2, pu3]

   refine callA 8 rfl fun K hK => ?_
   go_simp
   refine hK.out _ _ ?_ (fun hS42 => ?_)
   · exact (by (iterate 3 (refine Far.setCell (p := ⟨(w.heap.size + 1), _, none⟩) ?_ (.inr rfl) _)); exact hS41)
   clear hK K
   refine wpAnyH_done (by kernel_rfl) ?_ _

   clear rc zc tc
   generalize ee : World.setCell _ ⟨(w.heap.size + 1), 2, none⟩ _ = w6
   have hsz6 := sizeS3 ee
   replace HF := fN3 HF ee
   replace HBr := bF3 HBr ee
   replace HBz := bS3 HBz ee
   replace HBt := bF3 HBt ee
   replace HMx := mS3 HMx ee
   clear ee
   clear hI hZ
   go_wp2_with (fail)
   have fr := kc4 HBr; have fz := kc3 HBz
   refine bodyPost_ret (v := .tuple #[.agg #[.int .i64 x.kind, .string x.name, .int .i64 x.n, .slice ax mx cx], .int .i64 (i' : Int), .agg #[.int .i64 0, .int .i64 0, .int .i64 0]]) (by clear HF HBr HBz HBt HMx; simp [results, Try.results13, go_sem, fr, fz]) rfl ?_
   exact ⟨_, _, _, rfl, Far.toB (Far.mono HF.out fun b e => by rcases e with e | e <;> omega) (Nat.le_refl _), memNw HMx.out (by omega)⟩
end Go.Proofs.Ytcoiagfeoonpbaa

/-
 The module reader's con: a constructor. No condition but how the reader and the tokens lie.
-/
namespace Go.Proofs.Ytcoiagfeoonpbaa
open Go.RowKit
def CAns (ts : List Tk) (aL : Option Addr) (n cap q : Nat) (x : Cn) (s' : MS) (W : World) (e : Ending) (w' : World) : Prop :=
 ∃ a m c, e = .returned (cnV x a m c) ∧ FarQ q W w' ∧ RS ts aL n cap q s' ((0 : Nat) : Int) w' ∧ Mem (Nw 0 W.heap.size w'.heap.size) w' (.s 4 (Tm.rows x.types)) (.slice a m c)
section
variable {ts : List Tk} {aL : Option Addr} {n cap q : Nat}
attribute [local go_sem] tk_pos
set_option maxRecDepth 100000 in
set_option maxHeartbeats 20000000 in
theorem con_any {f : Nat} {s s' : MS} {x : Cn} (w : World) (hr : conM ts f s = some (x, s')) (hp : RS ts aL n cap q s ((0 : Nat) : Int) w) : Calls Try.prog 75 #[.pointer (some ⟨q, 0, none⟩)] w (CAns ts aL n cap q x s' w) := by
 have HL := (allT ts aL n cap q f f (Nat.le_refl _)).2.2
 have HP := Lib.hid hp
 have hq0 := hp.lt
 have HF := Lib.hid (FarB.refl q w.heap.size w)
 clear hp
 unfold conM at hr
 obtain ⟨p, hr1, hr2⟩ := Option.map_eq_some_iff.1 hr
 cases hr2
 obtain ⟨z, sz⟩ := p
 go_enter Try.func75, Try.ntmps75
 go_upto_region 1 with (fail)
 generalize ee : World.alloc w _ = w1
 have hsa1 := sizeA ee
 replace HP := rpA HP ee
 replace HF := fA HF ee
 have HBr := nB ee (w.heap.size)
 clear ee
 have qc := kcR HP
 have rc := kc4 HBr
 have hI := iq_0_0 q w w1
 have hZ := iq_01 q w
 go_wp2_with (fail)
 clear qc rc
 refine (mnow_any _ HP.out.bo HP.out.mem).mono ?_
 rintro _ w2 ⟨rfl, hb⟩
 have hf := FarQ.of (q := q) hb
 replace HBr := qB HBr hf
 replace HF := qF HF hf
 have hs2 := hf.size
 replace HP := krP HP hb
 clear hf hb
 simp only [tkV]
 clear hI hZ
 have qc := kcR HP
 have rc := kc4 HBr
 have hI := iq_0_0 q w w2
 go_upto_region 2 with (fail)
 clear qc rc
 generalize ee : World.alloc w2 _ = w3
 have hsa3 := sizeA ee
 replace HP := rpA HP ee
 replace HF := fA HF ee
 replace HBr := bA HBr ee
 have HBp := nB ee (w2.heap.size)
 clear ee
 clear hI
 have qc := kcR HP
 have rc := kc4 HBr; have pc := kc2 HBp
 have hI := iq_0_0_0 q w w2 w3
 have hZ := iq_0_01 q w w2
 refine wp_region_held_drew (S := fun w' => Far (fun b => b = q ∨ b = w.heap.size) (w3) w') (by kernel_rfl) (Far.of (below_drew _)) (fun hS10 => ?_)
 refine takeA 0 (v := ?_) rfl ?_ ?_
 rotate_left
 · (intro w hSw; (try dsimp only at hSw); replace pc := Far.c2z pc hSw; go_simp; try with_reducible rfl)
 try simp only [Act.put, pu1, pu2, pu3]
 refine takeA 2 (v := ?_) rfl ?_ ?_
 rotate_left
 · (intro w hSw; (try dsimp only at hSw); replace pc := Far.c2z pc hSw; go_simp; try with_reducible rfl)
 try simp only [Act.put, pu1, pu2, pu3]
 refine takeA 4 (v := ?_) rfl ?_ ?_
 rotate_left
 · (intro w hSw; (try dsimp only at hSw); replace pc := Far.c2z pc hSw; go_simp; try with_reducible rfl)
 try simp only [Act.put, pu1, pu2, pu3]

 clear qc rc pc
 refine callA 1 rfl fun K hK => ?_
 go_simp
 refine (mname_any 3 _ HP.out.drew (by decide)).mono ?_
 rintro e wx11 ⟨rfl, hf, hp⟩
 have hswx11 : w3.heap.size ≤ wx11.heap.size := hf.size
 replace hf : FarQ q w3 wx11 := (FarQ.of (below_drew _)).trans hf
 replace HBr := qB HBr hf
 replace HBp := qB HBp hf
 replace HF := qF HF hf
 replace HP := Lib.hid hp
 clear hp
 go_simp
 refine hK.out _ _ ?_ (fun hS11 => ?_)
 · exact (Far.mono hf (fun b e => .inl e))
 clear hK K

 refine callA 3 rfl fun K hK => ?_
 go_simp
 refine (HL (nameS ts s 3).2 0 z sz _ (by decide) hr1 HP.out).mono ?_
 rintro e wx12 ⟨az, mz, cz, rfl, hf, hp, hm⟩
 have hswx12 : wx11.heap.size ≤ wx12.heap.size := hf.size
 replace HBr := qB HBr hf
 replace HBp := qB HBp hf
 replace HF := qF HF hf
 replace HP := Lib.hid hp
 have HMz : Hid (Mem (Nw 0 wx11.heap.size _) _ _ _) := Lib.hid hm
 clear hm
 clear hp
 go_simp
 refine hK.out _ _ ?_ (fun hS12 => ?_)
 · exact Far.trans hS11 (Far.mono hf (fun b e => .inl e))
 clear hK K

 refine takeA 5 (v := ?_) rfl ?_ ?_
 rotate_left
 · (intro w hSw; (try dsimp only at hSw); go_simp; try with_reducible rfl)
 try simp only [Act.put, pu1, pu2, pu3]

 have qc := kcR HP
 have rc := kc4 HBr; have pc := kc2 HBp
 have hI := iq_0_0_0 q w w2 wx12
 refine callA 6 rfl fun K hK => ?_
 go_simp
 refine hK.out _ _ ?_ (fun hS13 => ?_)
 · exact (by (iterate 4 (refine Far.setCell (p := ⟨w.heap.size, _, none⟩) ?_ (.inr rfl) _)); exact hS12)
 clear hK K
 refine wpAnyH_done (by kernel_rfl) ?_ _

 clear qc rc pc
 generalize ee : World.setCell _ ⟨w.heap.size, 3, none⟩ _ = w4
 have hsz4 := sizeS4 ee
 replace HP := rpO4 HP ee
 replace HF := fN4 HF ee
 replace HBr := bS4 HBr ee
 replace HBp := bF4 HBp ee
 replace HMz := mS4 HMz ee
 clear ee
 clear hI
 have qc := kcR HP
 have rc := kc4 HBr; have pc := kc2 HBp
 have hI := iq_0_0_0 q w w2 w4
 have hZ := iq_0_0_0 q w w2 wx12
 go_wp2_with (fail)
 clear qc rc pc
 have fc := kc4 HBr
 refine bodyPost_ret (v := .agg #[.string (nameS ts s 3).1, .slice az mz cz, .int .i64 (nowT ts s.i).l, .int .i64 (nowT ts s.i).c]) (by clear HP HF HBr HBp HMz; simp [results, Try.results75, go_sem, fc]) rfl ?_
 exact ⟨_, _, _, rfl, HF.out.out, HP.out, memNw HMz.out (by omega)⟩
end
end Go.Proofs.Ytcoiagfeoonpbaa
