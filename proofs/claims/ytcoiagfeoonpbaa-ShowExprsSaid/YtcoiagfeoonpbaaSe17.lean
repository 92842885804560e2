/-
 The parser's app: an App. Under what the other reading functions do with less fuel.
-/
import Derived.Test.YtcoiagfeoonpbaaSe16
import Derived.Test.YtcoiagfeoonpbaaSe15
import Derived.Test.YtcoiagfeoonpbaaSe14
import Derived.Recover
namespace Go.Proofs.Ytcoiagfeoonpbaa
open Go.RowKit
section
variable {ts : List Tk} {aL : Option Addr} {n cap q : Nat}
set_option maxRecDepth 100000 in
set_option maxHeartbeats 20000000 in
theorem app_reads (f : Nat) (Ht : ∀ g, g < f + 1 → Reads ts aL n cap q 119 .atom g) : ReadsA ts aL n cap q f := by
 intro i deep r w hd hr hp
 have HP := Lib.hid hp
 have hq0 := hp.lt
 have HF := Lib.hid (FarB.refl q w.heap.size w)
 clear hp
 go_enter Try.func117, Try.ntmps117
 go_wp2_with (fail)
 generalize ee : World.alloc w _ = w1
 have hsa1 := sizeA ee
 replace HP := pA HP ee
 replace HF := fA HF ee
 have HBr := nB ee (w.heap.size)
 clear ee
 have qc := kcP HP
 have rc := kc6 HBr
 have hI := iq_0_0 q w w1
 have hZ := iq_01 q w
 rcases hx : readE ts f .atom i deep with _ | ⟨x, j⟩ | ⟨l_, c_⟩
 · (rw [hx] at hr; cases hr)
 rotate_left
 ·
  rw [hx] at hr
  first | simp only at hr | simp only [andT] at hr
  cases hr
  clear qc rc
  refine ((Ht f (by omega)) i deep _ _ hd hx HP.out).mono ?_
  rintro _ w2 ⟨rfl, hf, hbo⟩
  go_wp2_with (fail)
  exact ⟨rfl, rfl, FarB.out (HF.out.farq hf), hbo⟩
 rw [hx] at hr
 first | simp only at hr | simp only [andT] at hr
 clear qc rc
 refine ((Ht f (by omega)) i deep _ _ hd hx HP.out).mono ?_
 rintro _ w2 ⟨ax, mx, cx, rfl, hf, hp, hm⟩
 replace HBr := qB HBr hf
 replace HF := qF HF hf
 have hs2 := hf.size
 replace HP := Lib.hid hp
 have HMx := Lib.hid hm
 clear hf hp hm
 simp only [exV]
 have hfw : i < j ∧ j ≤ ts.length := readE_fwd f .atom i deep x j hx
 clear hI hZ
 have qc := kcP HP
 have rc := kc6 HBr
 have hI := iq_0_0 q w w2
 go_wp2_with (fail)
 clear qc rc
 generalize ee : World.alloc w2 _ = w3
 have hsa3 := sizeA ee
 have HNEW := Lib.hid (builtE1E (base := w1.heap.size) (memNw HMx.out (by omega)) ee (b := w2.heap.size) (by omega) (by omega))
 replace HP := pA HP ee
 replace HF := fA HF ee
 replace HBr := bA HBr ee
 replace HMx := mA HMx ee
 have HOl := HNEW
 clear HNEW
 clear ee
 clear hI
 clear HMx
 go_loopw [3] (fun v wr => ∃ (l : List Ex) (jj g : Nat), readE ts g (.apps l) jj deep = some r ∧ g ≤ f ∧ Hid (PS ts aL n cap q jj (deep : Int) wr) ∧ Hid (FarB q w.heap.size w wr) ∧ Hid (Bo wr w.heap.size 27 #[.int .i64 0, .string ⟨#[]⟩, .int .i64 0, .slice none 0 0, .int .i64 0, .int .i64 0]) ∧ Hid (OwnD 0 w1.heap.size 27 6 wr v (Ex.rows l)) ∧ l ≠ [] ∧ l.length ≤ jj ∧ jj ≤ ts.length ∧ w1.heap.size ≤ wr.heap.size) (fun v _ => ts.length + 1 - lenV v)
 case atStart => exact ⟨[x], j, f, hr, Nat.le_refl _, HP, HF, HBr, HOl, (by simp), (by simp only [List.length_cons, List.length_nil]; omega), hfw.2, by omega⟩
 case round =>
  clear HP HF HBr HOl hr
  obtain ⟨l, jj, g, hr, hg, HP, HF, HBr, HOl, hl0, hl1, hl2, hws⟩ := hrel
  obtain ⟨a1, m1, c1, rfl, hm1, hm2, hm3⟩ := HOl.out.form2
  have hsm : m1 ≤ 1048576 := by have h1 := HP.out.len.1; have h2 := HP.out.sm; omega
  have HM1 := Lib.hid hm1
  clear hm1 hm3
  have qc := kcP HP
  have rc := kc6 HBr
  have hI := iq_0_0 q w wr
  go_wp2_with (fail)
  clear qc rc
  refine (now_any _ HP.out.bo HP.out.mem).mono ?_
  rintro _ w4 ⟨rfl, hb⟩
  have hf := FarQ.of (q := q) hb
  replace HBr := qB HBr hf
  replace HOl := qO HOl hf
  replace HF := qF HF hf
  have hs4 := hf.size
  replace HP := kP HP hb
  clear hf hb
  clear hI
  have qc := kcP HP
  have rc := kc6 HBr
  have hI := iq_0_0 q w w4
  go_wp2_with (fail)
  cases g with
  | zero => rw [readE] at hr; cases hr
  | succ g =>
   rw [readE] at hr
   cases hst : startsE (nowT ts jj) with
   | false =>
    clear qc rc
    refine (starts_any (nowT ts jj) _).mono ?_
    rintro _ w5 ⟨rfl, hb⟩
    have hf := FarQ.of (q := q) hb
    replace HBr := qB HBr hf
    replace HOl := qO HOl hf
    replace HF := qF HF hf
    have hs5 := hf.size
    replace HP := kP HP hb
    clear hf hb
    rw [hst]
    simp only [hst, Bool.false_eq_true, if_false] at hr
    cases hr
    have HML : Hid (Mem (Nw 0 w1.heap.size w5.heap.size) w5 (.s 6 (Ex.rows l)) (.slice a1 m1 c1)) := Lib.hid HOl.out.mem
    obtain ⟨b2, o2, z, a2, m2, c2, rfl, hz, z0, z1, z2, z3, z4, z5, HMz⟩ := ex_at HML.out 0 (List.length_pos_iff.2 hl0)
    rw [Nat.zero_mul, Nat.add_zero] at z0 z1 z2 z3 z4 z5
    by_cases h1 : l.length = 1
    ·
     obtain rfl : m1 = 1 := by have := HM1.out; omega
     have hm9 : ((1 : Int) == 1) = true := rfl
     have HZ : Hid (appE l = z) := Lib.hid (by match l, h1, hz.out with | [e], _, h => simpa [appE] using h)
     clear hI
     have qc := kcP HP
     have rc := kc6 HBr
     have hI := iq_0_0 q w w5
     go_wp2_with (fail)
     clear HML
     clear qc rc
     generalize ee : World.setCell _ ⟨w.heap.size, 5, none⟩ _ = w6
     have hsz6 := sizeS6 ee
     replace HP := pO6 HP ee
     replace HF := fN6 HF ee
     replace HBr := bS6 HBr ee
     replace HMz := mS6 HMz ee
     replace HOl := oS6 HOl ee
     clear ee
     clear hI
     rw [HZ.out]
     have fc := kc6 HBr
     refine bodyPost_ret (v := .agg #[.int .i64 z.kind, .string z.name, .int .i64 z.n, .slice a2 m2 c2, .int .i64 z.line, .int .i64 z.col]) (by clear HP HF HBr HMz HOl; simp [results, Try.results117, go_sem, fc]) rfl ?_
     exact ⟨_, _, _, rfl, HF.out.out, HP.out, memNw HMz.out (by omega)⟩
    have hm9 : ((m1 : Int) == 1) = false := by have := HM1.out; have h0 := List.length_pos_iff.2 hl0; simp; omega
    have hm8 : 1 < m1 := by have := HM1.out; have h0 := List.length_pos_iff.2 hl0; omega
    clear hI
    have qc := kcP HP
    have rc := kc6 HBr
    have hI := iq_0_0 q w w5
    go_wp2_with (fail)
    clear HML HMz
    have HZ : Hid (appE l = .mk 4 .empty 0 l z.line z.col) := Lib.hid (by match l, h1, hl0, hz.out with | e :: e2 :: es, _, _, h => (have h2 : e = z := by simpa using h); rw [← h2]; rfl)
    clear qc rc
    generalize ee : World.setCell _ ⟨w.heap.size, 5, none⟩ _ = w6
    have hsz6 := sizeS6 ee
    replace HP := pO6 HP ee
    replace HF := fN6 HF ee
    replace HBr := bS6 HBr ee
    replace HOl := oS6 HOl ee
    clear ee
    clear hI
    rw [HZ.out]
    have fc := kc6 HBr
    refine bodyPost_ret (v := .agg #[.int .i64 4, .string ⟨#[]⟩, .int .i64 0, .slice (some ⟨b2, o2, none⟩) m1 c1, .int .i64 z.line, .int .i64 z.col]) (by clear HP HF HBr HOl; simp [results, Try.results117, go_sem, fc]) rfl ?_
    exact ⟨_, _, _, rfl, HF.out.out, HP.out, memNw HOl.out.mem (by omega)⟩
   | true =>
    clear qc rc
    refine (starts_any (nowT ts jj) _).mono ?_
    rintro _ w5 ⟨rfl, hb⟩
    have hf := FarQ.of (q := q) hb
    replace HBr := qB HBr hf
    replace HOl := qO HOl hf
    replace HF := qF HF hf
    have hs5 := hf.size
    replace HP := kP HP hb
    clear hf hb
    rw [hst]
    simp only [hst, if_true] at hr
    clear hI
    have qc := kcP HP
    have rc := kc6 HBr
    have hI := iq_0_0 q w w5
    go_wp2_with (fail)
    rcases hy : readE ts g .atom jj deep with _ | ⟨y, k⟩ | ⟨l_, c_⟩
    · (rw [hy] at hr; cases hr)
    rotate_left
    ·
     rw [hy] at hr
     first | simp only at hr | simp only [andT] at hr
     cases hr
     clear qc rc
     refine ((Ht g (by omega)) jj deep _ _ hd hy HP.out).mono ?_
     rintro _ w6 ⟨rfl, hf, hbo⟩
     go_wp2_with (fail)
     exact ⟨rfl, rfl, FarB.out (HF.out.farq hf), hbo⟩
    rw [hy] at hr
    first | simp only at hr | simp only [andT] at hr
    have HOW := HOl
    clear qc rc
    refine ((Ht g (by omega)) jj deep _ _ hd hy HP.out).mono ?_
    rintro _ w6 ⟨ay, my, cy, rfl, hf, hp, hm⟩
    replace HBr := qB HBr hf
    replace HOl := qO HOl hf
    replace HF := qF HF hf
    have hs6 := hf.size
    replace HP := Lib.hid hp
    have HMy := Lib.hid hm
    clear hf hp hm
    simp only [exV]
    have hfk : jj < k ∧ k ≤ ts.length := readE_fwd g .atom jj deep y k hy
    clear hI
    have qc := kcP HP
    have rc := kc6 HBr
    have hI := iq_0_0 q w w6
    go_wp2_with (first | (at_builtin; refine wpList_append_D rfl _ _ rfl Try.underlying23 info_ex rfl (by decide) rfl rfl (HOl.out.alloc _) (newRow HOW.out (by omega) (by omega) HMy.out) (by have := HM1.out; simp only [Ex.rows_len, List.length_cons, List.length_nil]; omega) (by have := HM1.out; simp only [Ex.rows_len, List.length_cons, List.length_nil]; omega) (by rw [World.size_alloc]; omega) ?_; intro v9 w9 ho hgr; have HO9 := Lib.hid ho; clear ho; have HG9 := Lib.hid hgr; clear hgr))
    have hob : ∀ k, (Value.slice a1 m1 c1).ownBlock = some k → w1.heap.size ≤ k := fun k hk => (HOl.out.lt k hk).1
    clear qc rc
    have HO8 : Hid (OwnD 0 w1.heap.size 27 6 w9 v9 (Ex.rows (l ++ [y]))) := Lib.hid (by rw [Ex.rows_app]; exact HO9.out)
    obtain ⟨a2, m2, c2, rfl, hm4, _, _⟩ := HO8.out.form2
    rw [List.length_append, List.length_cons, List.length_nil] at hm4
    have hs9 : w6.heap.size + 1 ≤ w9.heap.size := by have h := HG9.out.size; rw [World.size_alloc] at h; exact h
    go_roundw
    case rel => exact ⟨l ++ [y], k, g, hr, by omega, Lib.hid ((HP.out.alloc (.cells #[.int .i64 y.kind, .string y.name, .int .i64 y.n, .slice ay my cy, .int .i64 y.line, .int .i64 y.col] 27)).grown HG9.out fun k hk => by have := hob k hk; omega), Lib.hid ((HF.out.alloc (.cells #[.int .i64 y.kind, .string y.name, .int .i64 y.n, .slice ay my cy, .int .i64 y.line, .int .i64 y.col] 27)).grown HG9.out fun k hk => by have := hob k hk; omega), Lib.hid ((HBr.out.alloc (.cells #[.int .i64 y.kind, .string y.name, .int .i64 y.n, .slice ay my cy, .int .i64 y.line, .int .i64 y.col] 27)).grown HG9.out fun k hk => by have := hob k hk; omega), HO8, by simp, by rw [List.length_append, List.length_cons, List.length_nil]; omega, hfk.2, by omega⟩
    case measure => have := HM1.out; simp only [lenV]; omega
end
end Go.Proofs.Ytcoiagfeoonpbaa

/-
 The parser's atom: an Atom. Under what the other reading functions do with less fuel.
-/
namespace Go.Proofs.Ytcoiagfeoonpbaa
open Go.RowKit
attribute [local go_sem] tk_pos
section
variable {ts : List Tk} {aL : Option Addr} {n cap q : Nat}
theorem memNone {base : Nat} {w : World} {x : Ex} (h : x.args = []) : Mem (Nw 0 base w.heap.size) w (.s 6 (Ex.rows x.args)) (.slice none 0 0) := by
 rw [h, Ex.rows_eq]
 exact .e none 0 6 (by decide)
set_option maxRecDepth 100000 in
set_option maxHeartbeats 20000000 in
theorem atom_succ {f i deep : Nat} {r : Rd1} (hr : readE ts (f + 1) .atom i deep = some r) (w : World) (hd : deep ≤ 40) (H : AllR ts aL n cap q (f + 1)) (hp : PS ts aL n cap q i (deep : Int) w) :
  Calls Try.prog 119 #[.pointer (some ⟨q, 0, none⟩)] w (Ans ts aL n cap q r deep w) := by
 have HP := Lib.hid hp
 have hq0 := hp.lt
 have HF := Lib.hid (FarB.refl q w.heap.size w)
 clear hp
 rw [readE] at hr
 go_enter_defers Try.func119, Try.ntmps119
 refine Code.wp_mono (doorQ_mono _ r deep w) ?_
 go_wp2_with (fail)
 generalize ee : World.alloc w _ = w1
 have hsa1 := sizeA ee
 replace HP := pA HP ee
 replace HF := fA HF ee
 have HBr := nB ee (w.heap.size)
 clear ee
 have qc := kcP HP
 have rc := kc6 HBr
 have hI := iq_0_0 q w w1
 have hZ := iq_01 q w
 cases hpl : plainE (nowT ts i) with
 | some x =>
  simp only [hpl] at hr
  cases hr
  clear qc rc
  refine (plain_ok _ HP.out hpl).mono ?_
  rintro _ w2 ⟨rfl, hf, hp⟩
  replace HBr := qB HBr hf
  replace HF := qF HF hf
  have hs2 := hf.size
  replace HP := Lib.hid hp
  clear hf hp
  simp only [exV]
  have HMx : Hid (Mem (Nw 0 w.heap.size w2.heap.size) w2 (.s 6 (Ex.rows x.args)) (.slice none 0 0)) := Lib.hid (memNone (plain_args hpl))
  clear hI hZ
  have qc := kcP HP
  have rc := kc6 HBr
  have hI := iq_0_0 q w w2
  go_wp2_with (fail)
  clear HMx
  clear qc rc
  generalize ee : World.setCell _ ⟨w.heap.size, 5, none⟩ _ = w3_1
  have hq1 := sizeS6 ee
  replace HP := pO6 HP ee
  replace HF := fN6 HF ee
  replace HBr := bS6 HBr ee
  clear ee
  generalize ee : World.alloc w3_1 _ = w3
  have hq2 := sizeA ee
  replace HP := pA HP ee
  replace HF := fA HF ee
  replace HBr := bA HBr ee
  have HBp := nB ee (w2.heap.size)
  clear ee
  have hsa3 : w3.heap.size = w2.heap.size + 1 := by omega
  clear hq1 hq2
  clear hI
  refine door_plain ?_
  have fc := kc6 HBr
  refine ⟨.agg #[.int .i64 x.kind, .string x.name, .int .i64 x.n, .slice none 0 0, .int .i64 x.line, .int .i64 x.col], (by clear HP HF HBr HBp; simp [results, Try.results119, go_sem, fc]), ?_⟩
  exact ⟨_, _, _, rfl, HF.out.out, HP.out, memNone (plain_args hpl)⟩
 | none =>
  simp only [hpl] at hr
  clear qc rc
  refine (plain_bad _ HP.out hpl).mono ?_
  rintro _ w2 ⟨⟨s_, l_, c_, rfl⟩, hf, hp⟩
  replace HBr := qB HBr hf
  replace HF := qF HF hf
  have hs2 := hf.size
  replace HP := Lib.hid hp
  clear hf hp
  clear hI hZ
  have qc := kcP HP
  have rc := kc6 HBr
  have hI := iq_0_0 q w w2
  go_wp2_with (fail)
  clear qc rc
  generalize ee : World.alloc w2 _ = w3
  have hsa3 := sizeA ee
  replace HP := pA HP ee
  replace HF := fA HF ee
  replace HBr := bA HBr ee
  have HBp := nB ee (w2.heap.size)
  clear ee
  clear hI
  have qc := kcP HP
  have rc := kc6 HBr; have pc := kc6 HBp
  have hI := iq_0_0_0 q w w2 w3
  have hZ := iq_0_01 q w w2
  rcases hop : isT ts i 6 wOpen
  ·
   simp only [hop, Bool.false_eq_true, if_false] at hr
   cases hr
   clear qc rc pc
   refine (is_any 6 wOpen _ HP.out).mono ?_
   rintro _ w4 ⟨rfl, hb⟩
   have hf := FarQ.of (q := q) hb
   replace HBr := qB HBr hf
   replace HBp := qB HBp hf
   replace HF := qF HF hf
   have hs4 := hf.size
   replace HP := kP HP hb
   clear hf hb
   rw [hop]
   clear hI hZ
   have qc := kcP HP
   have rc := kc6 HBr; have pc := kc6 HBp
   have hI := iq_0_0_0 q w w2 w4
   go_wp2_with (fail)
   clear qc rc pc
   refine (fail_any _ HP.out.bo HP.out.mem).mono ?_
   rintro _ w5 ⟨rfl, hb⟩
   have hf := FarQ.of (q := q) hb
   have hbo := (HP.out.keep hb).any
   go_wp2_with (fail)
   exact ⟨_, _, rfl, rfl, .inl rfl, FarB.out (HF.out.farq hf), hbo⟩
  simp only [hop, if_true] at hr
  clear qc rc pc
  refine (is_any 6 wOpen _ HP.out).mono ?_
  rintro _ w4 ⟨rfl, hb⟩
  have hf := FarQ.of (q := q) hb
  replace HBr := qB HBr hf
  replace HBp := qB HBp hf
  replace HF := qF HF hf
  have hs4 := hf.size
  replace HP := kP HP hb
  clear hf hb
  rw [hop]
  clear hI hZ
  have qc := kcP HP
  have rc := kc6 HBr; have pc := kc6 HBp
  have hI := iq_0_0_0 q w w2 w4
  go_wp2_with (fail)
  by_cases h40 : deep = 40
  ·
   rw [if_pos h40] at hr
   cases hr
   subst h40
   clear qc rc pc
   refine (down_bad _ (by exact HP.out)).mono ?_
   rintro _ w5 ⟨rfl, hb⟩
   have hf := FarQ.of (q := q) hb
   have hbo := (HP.out.keep hb).any
   go_wp2_with (fail)
   exact ⟨_, _, rfl, rfl, .inl rfl, FarB.out (HF.out.farq hf), hbo⟩
  rw [if_neg h40] at hr
  have hil : i < ts.length := isT_lt hop (by decide)
  have hd1 : deep + 1 ≤ 40 := by omega
  clear qc rc pc
  refine (down_ok _ HP.out (by omega) (by omega) (by omega) hil).mono ?_
  rintro _ w5 ⟨rfl, hf, hp⟩
  replace HBr := qB HBr hf
  replace HBp := qB HBp hf
  replace HF := qF HF hf
  have hs5 := hf.size
  replace HP := Lib.hid hp
  clear hf hp
  replace HP := Lib.hid (by have h := HP.out; rw [show ((deep : Int) + 1) = ((deep + 1 : Nat) : Int) by omega] at h; exact h)
  clear hI
  have qc := kcP HP
  have rc := kc6 HBr; have pc := kc6 HBp
  have hI := iq_0_0_0 q w w2 w5
  go_wp2_with (fail)
  rcases hx : readE ts f .expr (i + 1) (deep + 1) with _ | ⟨x, j⟩ | ⟨l_, c_⟩
  · (rw [hx] at hr; cases hr)
  rotate_left
  ·
   rw [hx] at hr
   first | simp only at hr | simp only [andT] at hr
   cases hr
   clear qc rc pc
   refine ((H.ex f (Nat.lt_succ_self f)) (i + 1) (deep + 1) _ _ hd1 hx HP.out).mono ?_
   rintro _ w6 ⟨rfl, hf, hbo⟩
   go_wp2_with (fail)
   exact ⟨_, _, rfl, rfl, .inr rfl, FarB.out (HF.out.farq hf), hbo⟩
  rw [hx] at hr
  first | simp only at hr | simp only [andT] at hr
  clear qc rc pc
  refine ((H.ex f (Nat.lt_succ_self f)) (i + 1) (deep + 1) _ _ hd1 hx HP.out).mono ?_
  rintro _ w6 ⟨ax, mx, cx, rfl, hf, hp, hm⟩
  replace HBr := qB HBr hf
  replace HBp := qB HBp hf
  replace HF := qF HF hf
  have hs6 := hf.size
  replace HP := Lib.hid hp
  have HMx := Lib.hid hm
  clear hf hp hm
  simp only [exV]
  clear hI
  have qc := kcP HP
  have rc := kc6 HBr; have pc := kc6 HBp
  have hI := iq_0_0_0 q w w2 w6
  go_wp2_with (fail)
  clear qc rc pc
  generalize ee : World.alloc w6 _ = w7
  have hsa7 := sizeA ee
  replace HP := pA HP ee
  replace HF := fA HF ee
  replace HBr := bA HBr ee
  replace HBp := bA HBp ee
  replace HMx := mA HMx ee
  have HBu := nB ee (w6.heap.size)
  clear ee
  clear hI
  have qc := kcP HP
  have rc := kc6 HBr; have pc := kc6 HBp; have uc := kc6 HBu
  have hI := iq_0_0_0_0 q w w2 w6 w7
  have hZ := iq_0_0_01 q w w2 w6
  rcases hcl : isT ts j 6 wClose
  ·
   first | simp only [hcl, Bool.false_eq_true, if_false] at hr | simp only [takeT, hcl, Bool.false_eq_true, if_false] at hr
   cases hr
   clear qc rc pc uc
   refine (take_bad 6 wClose _ HP.out hcl).mono ?_
   rintro _ w8 ⟨rfl, hb⟩
   have hf := FarQ.of (q := q) hb
   have hbo := (HP.out.keep hb).any
   go_wp2_with (fail)
   exact ⟨_, _, rfl, rfl, .inr rfl, FarB.out (HF.out.farq hf), hbo⟩
  first | simp only [hcl, if_true] at hr | simp only [takeT, hcl, if_true] at hr
  cases hr
  clear qc rc pc uc
  refine (take_ok 6 wClose _ HP.out hcl (by decide)).mono ?_
  rintro _ w8 ⟨rfl, hf, hp⟩
  replace HBr := qB HBr hf
  replace HBp := qB HBp hf
  replace HBu := qB HBu hf
  replace HMx := qM HMx hf
  replace HF := qF HF hf
  have hs8 := hf.size
  replace HP := Lib.hid hp
  clear hf hp
  clear hI hZ
  have qc := kcP HP
  have rc := kc6 HBr; have pc := kc6 HBp; have uc := kc6 HBu
  have hI := iq_0_0_0_0 q w w2 w6 w8
  go_wp2_with (fail)
  clear qc rc pc uc
  generalize ee : World.setCell _ ⟨w.heap.size, 5, none⟩ _ = w9
  have hsz9 := sizeS6 ee
  replace HP := pO6 HP ee
  replace HF := fN6 HF ee
  replace HBr := bS6 HBr ee
  replace HBp := bF6 HBp ee
  replace HBu := bF6 HBu ee
  replace HMx := mS6 HMx ee
  clear ee
  clear hI
  refine door_up HP.out.bo ?_
  generalize ee : World.setCell w9 _ _ = w10
  have hsz10 := sizeS1 ee
  replace HP := Lib.hid (HP.out.setDE (k := ((deep : Int))) ee (wrap_up hd))
  replace HF := Lib.hid (HF.out.setQE ee)
  replace HBr := bF1 HBr ee
  replace HBp := bF1 HBp ee
  replace HBu := bF1 HBu ee
  replace HMx := mS1 HMx ee
  clear ee
  have fc := kc6 HBr
  refine ⟨.agg #[.int .i64 x.kind, .string x.name, .int .i64 x.n, .slice ax mx cx, .int .i64 x.line, .int .i64 x.col], (by clear HP HF HBr HBp HBu HMx; simp [results, Try.results119, go_sem, fc]), ?_⟩
  exact ⟨_, _, _, rfl, HF.out.out, HP.out, memNw HMx.out (by omega)⟩
theorem atom_reads (F : Nat) (H : AllR ts aL n cap q F) : Reads ts aL n cap q 119 .atom F := by
 intro i deep r w hd hr hp
 cases F with
 | zero => rw [readE] at hr; cases hr
 | succ f => exact atom_succ hr w hd H hp
end
end Go.Proofs.Ytcoiagfeoonpbaa

/-
  The parser's reading functions, all of them, at any fuel. Under no condition but how the parser and the tokens lie.
-/
namespace Go.Proofs.Ytcoiagfeoonpbaa
theorem allR (ts : List Tk) (aL : Option Addr) (n cap q : Nat) : ∀ F, AllR ts aL n cap q F := by
  intro F
  induction F with
  | zero => exact ⟨fun g h => absurd h (Nat.not_lt_zero g), fun g h => absurd h (Nat.not_lt_zero g), fun g h => absurd h (Nat.not_lt_zero g), fun g h => absurd h (Nat.not_lt_zero g), fun g h => absurd h (Nat.not_lt_zero g)⟩
  | succ F ih =>
    have hat : ∀ g, g < F + 1 → Reads ts aL n cap q 119 .atom g := fun g hg => by
      rcases Nat.lt_succ_iff_lt_or_eq.1 hg with h | rfl
      · exact ih.tm g h
      · exact atom_reads g ih
    refine ⟨fun g hg => ?_, fun g hg => ?_, fun g hg => ?_, fun g hg => ?_, hat⟩
    · rcases Nat.lt_succ_iff_lt_or_eq.1 hg with h | rfl
      · exact ih.ex g h
      · exact expr_reads g ih
    · rcases Nat.lt_succ_iff_lt_or_eq.1 hg with h | rfl
      · exact ih.or g h
      · exact or_reads g ih
    · rcases Nat.lt_succ_iff_lt_or_eq.1 hg with h | rfl
      · exact ih.le g h
      · exact left_reads g ih
    · rcases Nat.lt_succ_iff_lt_or_eq.1 hg with h | rfl
      · exact ih.ap g h
      · exact app_reads g hat
end Go.Proofs.Ytcoiagfeoonpbaa

/-
  expr.run's deferred closure: what is thrown is caught and told. Under no condition but that the three results' boxes stand.
-/
namespace Go.Proofs.Ytcoiagfeoonpbaa
open Go.RowKit
section
variable {b0 b1 b2 : Nat}
set_option maxRecDepth 100000 in
set_option maxHeartbeats 4000000 in
/-- Nothing was thrown. -/
theorem caught_none (w : World) :
    CallsD Try.prog 88 #[.pointer (some ⟨b0, 0, none⟩), .pointer (some ⟨b1, 0, none⟩), .pointer (some ⟨b2, 0, none⟩)] .returning w fun e u' w' => e = .returned (.tuple #[]) ∧ u' = .returning ∧ w' = w := by
  refine callsD_of_wpS Try.func88 rfl fun c₀ cs hu => ?_
  simp only [Try.ntmps88, List.size_toArray, List.length_cons, List.length_nil, Nat.reduceAdd, Nat.reduceSub, Array.replicate_succ, Array.replicate_zero, List.push_toArray, List.append_toArray, List.nil_append, List.cons_append]
  apply wpS_seq
  apply wpS_region
  simp [wpOpsS, go_sem, recoverD, hu, Exit.thenS]
  refine wpS_of_wp ?_
  go_wp2
  cases c₀
  simp_all [bodyPostS, results, Try.results88]
set_option maxRecDepth 100000 in
set_option maxHeartbeats 4000000 in
/-- A fault was thrown. -/
theorem caught_fault (w : World) {c0 c1 c2 c3 c4 c5 d0 e0 e1 e2 : Value} (l c : Int) (hb1 : b0 < b1) (hb2 : b1 < b2) (h0 : Bo w b0 27 #[c0, c1, c2, c3, c4, c5]) (h1 : Bo w b1 3 #[d0]) (h2 : Bo w b2 30 #[e0, e1, e2]) :
    CallsD Try.prog 88 #[.pointer (some ⟨b0, 0, none⟩), .pointer (some ⟨b1, 0, none⟩), .pointer (some ⟨b2, 0, none⟩)] (.panicking (faultV l c)) w fun e u' w' =>
      e = .returned (.tuple #[]) ∧ settle u' = .returning ∧ Far (fun b => b = b0 ∨ b = b1 ∨ b = b2) w w' ∧ Bo w' b0 27 #[.int .i64 0, .string ⟨#[]⟩, .int .i64 0, .slice none 0 0, .int .i64 0, .int .i64 0] ∧ Bo w' b1 3 #[.int .i64 0] ∧ Bo w' b2 30 #[.int .i64 1, .int .i64 l, .int .i64 c] := by
  refine callsD_of_wpS Try.func88 rfl fun c₀ cs hu => ?_
  simp only [Try.ntmps88, List.size_toArray, List.length_cons, List.length_nil, Nat.reduceAdd, Nat.reduceSub, Array.replicate_succ, Array.replicate_zero, List.push_toArray, List.append_toArray, List.nil_append, List.cons_append]
  unfold faultV at hu
  apply wpS_seq
  apply wpS_region
  simp [wpOpsS, go_sem, recoverD, hu, Exit.thenS]
  refine wpS_of_wp ?_
  have hta : ∀ w : World, Sem.run Try.prog (Instr.typeAssert (.iface 145 (.agg #[.int .i64 l, .int .i64 c])) 20 145 true) w = .ok (.tuple #[.agg #[.int .i64 l, .int .i64 c], .bool true]) w := fun _ => by kernel_rfl
  have z0 := h0.cell (j := 0) rfl; have z1 := h0.cell (j := 1) rfl; have z2 := h0.cell (j := 2) rfl; have z3 := h0.cell (j := 3) rfl; have z4 := h0.cell (j := 4) rfl; have z5 := h0.cell (j := 5) rfl; have zz := h0.frozen
  have y0 := h1.cell (j := 0) rfl; have yz := h1.frozen
  have x0 := h2.cell (j := 0) rfl; have x1 := h2.cell (j := 1) rfl; have x2 := h2.cell (j := 2) rfl; have xz := h2.frozen
  go_wp2
  clear z0 z1 z2 z3 z4 z5 zz y0 yz x0 x1 x2 xz
  have hl2 := h2.lt
  have H0 := Lib.hid (h0.alloc (.cells #[.int .i64 l, .int .i64 c] 145))
  have H1 := Lib.hid (h1.alloc (.cells #[.int .i64 l, .int .i64 c] 145))
  have H2 := Lib.hid (h2.alloc (.cells #[.int .i64 l, .int .i64 c] 145))
  have H3 := Lib.hid (Bo.new w 145 #[.int .i64 l, .int .i64 c])
  have HF : Hid (Far (fun b => b = b0 ∨ b = b1 ∨ b = b2) w (w.alloc (.cells #[.int .i64 l, .int .i64 c] 145))) := Lib.hid (Far.of (below_new _ _))
  have hs1 : (w.alloc (.cells #[.int .i64 l, .int .i64 c] 145)).heap.size = w.heap.size + 1 := World.size_alloc _ _
  clear h0 h1 h2
  generalize (w.alloc (.cells #[.int .i64 l, .int .i64 c] 145)) = v1 at *
  have f0 := H3.out.cell (j := 0) rfl; have f1 := H3.out.cell (j := 1) rfl; have fz := Bo.frozen H3.out; have z0 := H0.out.cell (j := 0) rfl; have z1 := H0.out.cell (j := 1) rfl; have z2 := H0.out.cell (j := 2) rfl; have z3 := H0.out.cell (j := 3) rfl; have z4 := H0.out.cell (j := 4) rfl; have z5 := H0.out.cell (j := 5) rfl; have zz := Bo.frozen H0.out; have y0 := H1.out.cell (j := 0) rfl; have yz := Bo.frozen H1.out; have x0 := H2.out.cell (j := 0) rfl; have x1 := H2.out.cell (j := 1) rfl; have x2 := H2.out.cell (j := 2) rfl; have xz := Bo.frozen H2.out
  have n1 : b0 ≠ b1 := (by omega); have n2 : b1 ≠ b0 := (by omega); have n3 : b0 ≠ b2 := (by omega); have n4 : b2 ≠ b0 := (by omega); have n5 : b1 ≠ b2 := (by omega); have n6 : b2 ≠ b1 := (by omega); have n7 : b0 ≠ w.heap.size := (by omega); have n8 : b1 ≠ w.heap.size := (by omega); have n9 : b2 ≠ w.heap.size := (by omega)
  refine wp_region_held_drew (S := fun w' => Far (fun b => b = b0 ∨ b = b1 ∨ b = b2) (v1) w') (by kernel_rfl) (Far.of (below_drew _)) (fun hS0 => ?_)
  refine takeL 0 (v := ?_) rfl (by kernel_rfl) (by kernel_rfl) (by kernel_rfl) (fun _ _ _ h => h) (by rfl) ?_ (by assumption) ?_
  rotate_left
  · (intro w hSw; (try dsimp only at hSw); replace f0 := Far.cellZ f0 hSw (by intro e; rcases e with e | e | e <;> omega); replace f1 := Far.cellZ f1 hSw (by intro e; rcases e with e | e | e <;> omega); go_simp; try with_reducible rfl)
  try simp only [Act.put, List.setIfInBounds_toArray, List.set_cons_zero, List.set_cons_succ]
  refine takeL 1 (v := ?_) rfl (by kernel_rfl) (by kernel_rfl) (by kernel_rfl) (fun _ _ _ h => h) (by rfl) ?_ (by assumption) ?_
  rotate_left
  · (intro w hSw; (try dsimp only at hSw); replace f0 := Far.cellZ f0 hSw (by intro e; rcases e with e | e | e <;> omega); replace f1 := Far.cellZ f1 hSw (by intro e; rcases e with e | e | e <;> omega); go_simp; try with_reducible rfl)
  try simp only [Act.put, List.setIfInBounds_toArray, List.set_cons_zero, List.set_cons_succ]
  refine takeL 2 (v := ?_) rfl (by kernel_rfl) (by kernel_rfl) (by kernel_rfl) (fun _ _ _ h => h) (by rfl) ?_ (by assumption) ?_
  rotate_left
  · (intro w hSw; (try dsimp only at hSw); replace f0 := Far.cellZ f0 hSw (by intro e; rcases e with e | e | e <;> omega); replace f1 := Far.cellZ f1 hSw (by intro e; rcases e with e | e | e <;> omega); go_simp; try with_reducible rfl)
  try simp only [Act.put, List.setIfInBounds_toArray, List.set_cons_zero, List.set_cons_succ]
  refine takeL 3 (v := ?_) rfl (by kernel_rfl) (by kernel_rfl) (by kernel_rfl) (fun _ _ _ h => h) (by rfl) ?_ (by assumption) ?_
  rotate_left
  · (intro w hSw; (try dsimp only at hSw); replace f0 := Far.cellZ f0 hSw (by intro e; rcases e with e | e | e <;> omega); replace f1 := Far.cellZ f1 hSw (by intro e; rcases e with e | e | e <;> omega); go_simp; try with_reducible rfl)
  try simp only [Act.put, List.setIfInBounds_toArray, List.set_cons_zero, List.set_cons_succ]

  refine callL 4 rfl (by kernel_rfl) (by rfl) (fun K hK => ?_)
  go_simp
  refine hK.out _ _ ?_ (fun hS1 => ?_)
  · exact (by refine Far.trans ?_ (Far.of (below_drew _)); (iterate 6 (refine Far.setCell (p := ⟨b0, _, none⟩) ?_ (.inl rfl) _)); exact Far.refl _ _)
  clear hK K

  clear f0 f1 fz z0 z1 z2 z3 z4 z5 zz y0 yz x0 x1 x2 xz
  replace H0 := Lib.hid (H0.out.set 0 (.int .i64 0))
  replace H1 := Lib.hid (H1.out.far 0 (.int .i64 0) (g := b0) (by omega))
  replace H2 := Lib.hid (H2.out.far 0 (.int .i64 0) (g := b0) (by omega))
  replace HF := Lib.hid (HF.out.setCell (p := ⟨b0, 0, none⟩) (.inl rfl) (.int .i64 0))
  replace H0 := Lib.hid (H0.out.set 1 (.string ⟨#[]⟩))
  replace H1 := Lib.hid (H1.out.far 1 (.string ⟨#[]⟩) (g := b0) (by omega))
  replace H2 := Lib.hid (H2.out.far 1 (.string ⟨#[]⟩) (g := b0) (by omega))
  replace HF := Lib.hid (HF.out.setCell (p := ⟨b0, 1, none⟩) (.inl rfl) (.string ⟨#[]⟩))
  replace H0 := Lib.hid (H0.out.set 2 (.int .i64 0))
  replace H1 := Lib.hid (H1.out.far 2 (.int .i64 0) (g := b0) (by omega))
  replace H2 := Lib.hid (H2.out.far 2 (.int .i64 0) (g := b0) (by omega))
  replace HF := Lib.hid (HF.out.setCell (p := ⟨b0, 2, none⟩) (.inl rfl) (.int .i64 0))
  replace H0 := Lib.hid (H0.out.set 3 (.slice none 0 0))
  replace H1 := Lib.hid (H1.out.far 3 (.slice none 0 0) (g := b0) (by omega))
  replace H2 := Lib.hid (H2.out.far 3 (.slice none 0 0) (g := b0) (by omega))
  replace HF := Lib.hid (HF.out.setCell (p := ⟨b0, 3, none⟩) (.inl rfl) (.slice none 0 0))
  replace H0 := Lib.hid (H0.out.set 4 (.int .i64 0))
  replace H1 := Lib.hid (H1.out.far 4 (.int .i64 0) (g := b0) (by omega))
  replace H2 := Lib.hid (H2.out.far 4 (.int .i64 0) (g := b0) (by omega))
  replace HF := Lib.hid (HF.out.setCell (p := ⟨b0, 4, none⟩) (.inl rfl) (.int .i64 0))
  replace H0 := Lib.hid (H0.out.set 5 (.int .i64 0))
  replace H1 := Lib.hid (H1.out.far 5 (.int .i64 0) (g := b0) (by omega))
  replace H2 := Lib.hid (H2.out.far 5 (.int .i64 0) (g := b0) (by omega))
  replace HF := Lib.hid (HF.out.setCell (p := ⟨b0, 5, none⟩) (.inl rfl) (.int .i64 0))
  replace H0 := Lib.hid (H0.out.drew)
  replace H1 := Lib.hid (H1.out.drew)
  replace H2 := Lib.hid (H2.out.drew)
  replace HF := Lib.hid (Far.trans HF.out (Far.of (below_drew _)))
  replace H0 : Hid (Bo (((((((v1.setCell ⟨b0, 0, none⟩ (.int .i64 0)).setCell ⟨b0, 1, none⟩ (.string ⟨#[]⟩)).setCell ⟨b0, 2, none⟩ (.int .i64 0)).setCell ⟨b0, 3, none⟩ (.slice none 0 0)).setCell ⟨b0, 4, none⟩ (.int .i64 0)).setCell ⟨b0, 5, none⟩ (.int .i64 0)).drew) b0 27 #[.int .i64 0, .string ⟨#[]⟩, .int .i64 0, .slice none 0 0, .int .i64 0, .int .i64 0]) := H0
  generalize (((((((v1.setCell ⟨b0, 0, none⟩ (.int .i64 0)).setCell ⟨b0, 1, none⟩ (.string ⟨#[]⟩)).setCell ⟨b0, 2, none⟩ (.int .i64 0)).setCell ⟨b0, 3, none⟩ (.slice none 0 0)).setCell ⟨b0, 4, none⟩ (.int .i64 0)).setCell ⟨b0, 5, none⟩ (.int .i64 0)).drew) = v2 at *
  have y0 := H1.out.cell (j := 0) rfl; have yz := Bo.frozen H1.out; have x0 := H2.out.cell (j := 0) rfl; have x1 := H2.out.cell (j := 1) rfl; have x2 := H2.out.cell (j := 2) rfl; have xz := Bo.frozen H2.out
  refine callL 5 rfl (by kernel_rfl) (by rfl) (fun K hK => ?_)
  go_simp
  refine hK.out _ _ ?_ (fun hS2 => ?_)
  · exact Far.setCell (p := ⟨b1, 0, none⟩) hS1 (.inr (.inl rfl)) _
  clear hK K

  clear y0 yz x0 x1 x2 xz
  replace H1 := Lib.hid (H1.out.set 0 (.int .i64 0))
  replace H0 := Lib.hid (H0.out.far 0 (.int .i64 0) (g := b1) (by omega))
  replace H2 := Lib.hid (H2.out.far 0 (.int .i64 0) (g := b1) (by omega))
  replace HF := Lib.hid (HF.out.setCell (p := ⟨b1, 0, none⟩) (.inr (.inl rfl)) (.int .i64 0))
  replace H1 : Hid (Bo (v2.setCell ⟨b1, 0, none⟩ (.int .i64 0)) b1 3 #[.int .i64 0]) := H1
  generalize (v2.setCell ⟨b1, 0, none⟩ (.int .i64 0)) = v3 at *
  have x0 := H2.out.cell (j := 0) rfl; have x1 := H2.out.cell (j := 1) rfl; have x2 := H2.out.cell (j := 2) rfl; have xz := Bo.frozen H2.out
  refine callL 6 rfl (by kernel_rfl) (by rfl) (fun K hK => ?_)
  go_simp
  refine hK.out _ _ ?_ (fun hS3 => ?_)
  · exact Far.setCell (p := ⟨b2, 2, none⟩) (Far.setCell (p := ⟨b2, 1, none⟩) (Far.setCell (p := ⟨b2, 0, none⟩) hS2 (.inr (.inr rfl)) _) (.inr (.inr rfl)) _) (.inr (.inr rfl)) _
  clear hK K
  refine wpAnyH_done (by kernel_rfl) ?_ _

  replace H2 := Lib.hid (H2.out.set 0 (.int .i64 1))
  replace H0 := Lib.hid (H0.out.far 0 (.int .i64 1) (g := b2) (by omega))
  replace H1 := Lib.hid (H1.out.far 0 (.int .i64 1) (g := b2) (by omega))
  replace HF := Lib.hid (HF.out.setCell (p := ⟨b2, 0, none⟩) (.inr (.inr rfl)) (.int .i64 1))
  replace H2 := Lib.hid (H2.out.set 1 (.int .i64 l))
  replace H0 := Lib.hid (H0.out.far 1 (.int .i64 l) (g := b2) (by omega))
  replace H1 := Lib.hid (H1.out.far 1 (.int .i64 l) (g := b2) (by omega))
  replace HF := Lib.hid (HF.out.setCell (p := ⟨b2, 1, none⟩) (.inr (.inr rfl)) (.int .i64 l))
  replace H2 := Lib.hid (H2.out.set 2 (.int .i64 c))
  replace H0 := Lib.hid (H0.out.far 2 (.int .i64 c) (g := b2) (by omega))
  replace H1 := Lib.hid (H1.out.far 2 (.int .i64 c) (g := b2) (by omega))
  replace HF := Lib.hid (HF.out.setCell (p := ⟨b2, 2, none⟩) (.inr (.inr rfl)) (.int .i64 c))
  replace H2 : Hid (Bo (((v3.setCell ⟨b2, 0, none⟩ (.int .i64 1)).setCell ⟨b2, 1, none⟩ (.int .i64 l)).setCell ⟨b2, 2, none⟩ (.int .i64 c)) b2 30 #[.int .i64 1, .int .i64 l, .int .i64 c]) := H2
  generalize (((v3.setCell ⟨b2, 0, none⟩ (.int .i64 1)).setCell ⟨b2, 1, none⟩ (.int .i64 l)).setCell ⟨b2, 2, none⟩ (.int .i64 c)) = v4 at *
  go_wp2
  clear x0 x1 x2 xz hta
  exact ⟨rfl, _, rfl, _, results_none rfl _ _ _, rfl, rfl, HF.out, H0.out, H1.out, H2.out⟩
end
end Go.Proofs.Ytcoiagfeoonpbaa
