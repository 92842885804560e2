/-
 The document's reader's Expr: an Expr. Under what itself and rank do with less fuel.
-/
import Derived.Test.YtnmlobakiclgiaaEx18
import Derived.Test.YtnmlobakiclgiaaEx17
import Derived.Test.YtnmlobakiclgiaaEx19
import Derived.Test.YtnmlobakiclgiaaEx20
import Derived.Test.YtnmlobakiclgiaaEx21
import Derived.Test.YtnmlobakiclgiaaEx22
namespace Go.Proofs.Ytnmlobakiclgiaa
open Go.RowKit
section
variable {ts : List Tk} {aL : Option Addr} {n cap : Nat}
attribute [local go_sem] tk_pos tk_text tk_kind0
set_option maxRecDepth 100000 in
set_option maxHeartbeats 20000000 in
theorem exprR_D {f i deep : Nat} {r : Rd1} {a0 b0 : Int} (hr : readE ts (f + 1) .expr i deep = some r) (hlt : isT ts i 5 wLet = false) (hDif : isT ts i 5 wIf = true) (hD40 : ¬ deep = 40) (hDD : ∃ (x : Ex) (j : Nat) (y : Ex) (k : Nat), readE ts f .expr (i + 1) (deep + 1) = some (.ok x j) ∧ isT ts j 5 wThen = true ∧ readE ts f .expr (j + 1) (deep + 1) = some (.ok y k)) (w : World) (hd : deep ≤ 40) (h : MemW w (.s 5 (tkRows ts)) (.slice aL n cap)) (hn : n ≤ 1048576) (HE : ReadsR ts aL n cap 14 .expr f) (_HO : ReadsK ts aL n cap f) :
  Calls Try.prog 14 #[rdV aL n cap (i : Int) (deep : Int) false a0 b0] w (AnsR aL n cap r deep a0 b0 w) := by
 have H := Lib.hid h
 clear h
 rw [readE] at hr
 try simp only at hr
 have HLT := Lib.hid hlt
 have HDIF := Lib.hid hDif
 have HD40 := Lib.hid hD40
 have HDD := Lib.hid hDD
 clear hlt hDif hD40 hDD
 have HF : Hid (FarB w.heap.size w.heap.size w w) := Lib.hid (FarB.refl _ _ _)
 simp only [rdV]
 go_enter Try.func14, Try.ntmps14
 go_wp2_with (fail)
 generalize ee : World.alloc w _ = w1_1
 have hq1 := sizeA ee
 replace HF := fA HF ee
 have HBr := nB ee (w.heap.size)
 clear ee
 generalize ee : World.alloc w1_1 _ = w1_2
 have hq2 := sizeA ee
 replace HF := fA HF ee
 replace HBr := bA HBr ee
 have HBs := nB ee (w.heap.size + 1)
 clear ee
 generalize ee : World.alloc w1_2 _ = w1
 have hq3 := sizeA ee
 replace HF := fA HF ee
 replace HBr := bA HBr ee
 replace HBs := bA HBs ee
 have HBx := nB ee (w.heap.size + 2)
 clear ee
 have hsa1 : w1.heap.size = w.heap.size + 3 := by omega
 clear hq1 hq2 hq3
 have rc := kc6 HBr; have sc := kc6 HBs; have xc := kc6 HBx
 have hI := i012_0 w w1
 have hZ := i0123 w
 clear rc sc xc
 refine (nowR_any _ (refTok HF.out H.out)).mono ?_
 rintro _ w2 ⟨rfl, hb⟩
 replace HBr := kB HBr hb
 replace HBs := kB HBs hb
 replace HBx := kB HBx hb
 replace HF := kF HF hb
 have hs2 := hb.size
 clear hb
 simp only [tkV]
 clear hI hZ
 have rc := kc6 HBr; have sc := kc6 HBs; have xc := kc6 HBx
 have hI := i012_0 w w2
 go_wp2_with (fail)
 clear rc sc xc
 generalize ee : World.alloc w2 _ = w3_1
 have hq1 := sizeA ee
 replace HF := fA HF ee
 replace HBr := bA HBr ee
 replace HBs := bA HBs ee
 replace HBx := bA HBx ee
 have HBp := nB ee (w2.heap.size)
 clear ee
 generalize ee : World.alloc w3_1 _ = w3
 have hq2 := sizeA ee
 replace HF := fA HF ee
 replace HBr := bA HBr ee
 replace HBs := bA HBs ee
 replace HBx := bA HBx ee
 replace HBp := bA HBp ee
 have HBe := nB ee (w2.heap.size + 1)
 clear ee
 have hsa3 : w3.heap.size = w2.heap.size + 2 := by omega
 clear hq1 hq2
 clear hI
 have rc := kc6 HBr; have sc := kc6 HBs; have xc := kc6 HBx; have pc := kc2 HBp; have ec := kc6 HBe
 have hI := i012_01_0 w w2 w3
 have hZ := i012_012 w w2
 rcases hlet : isT ts i 5 wLet
 rotate_left
 ·
  simp only [hlet, if_true] at hr
  have hlt := HLT.out
  rw [hlet] at hlt
  cases hlt
 simp only [hlet, Bool.false_eq_true, if_false] at hr
 clear rc sc xc pc ec
 refine (isR_ok (s := wLet) _ (refTok HF.out H.out)).mono ?_
 rintro _ w4 ⟨rfl, hb⟩
 replace HBr := kB HBr hb
 replace HBs := kB HBs hb
 replace HBx := kB HBx hb
 replace HBp := kB HBp hb
 replace HBe := kB HBe hb
 replace HF := kF HF hb
 have hs4 := hb.size
 clear hb
 rw [hlet]
 clear hI hZ
 have rc := kc6 HBr; have sc := kc6 HBs; have xc := kc6 HBx; have pc := kc2 HBp; have ec := kc6 HBe
 have hI := i012_01_0 w w2 w4
 go_wp2_with (fail)
 rcases hif : isT ts i 5 wIf
 ·
  simp only [hif, Bool.false_eq_true, if_false] at hr
  have h9 := HDIF.out
  rw [hif] at h9
  cases h9
 simp only [hif, if_true] at hr
 clear rc sc xc pc ec
 refine (isR_ok (s := wIf) _ (refTok HF.out H.out)).mono ?_
 rintro _ w5 ⟨rfl, hb⟩
 replace HBr := kB HBr hb
 replace HBs := kB HBs hb
 replace HBx := kB HBx hb
 replace HBp := kB HBp hb
 replace HBe := kB HBe hb
 replace HF := kF HF hb
 have hs5 := hb.size
 clear hb
 rw [hif]
 clear hI
 have rc := kc6 HBr; have sc := kc6 HBs; have xc := kc6 HBx; have pc := kc2 HBp; have ec := kc6 HBe
 have hI := i012_01_0 w w2 w5
 go_wp2_with (fail)
 by_cases h40 : deep = 40
 ·
  rw [if_pos h40] at hr
  cases hr
  exact absurd h40 HD40.out
 rw [if_neg h40] at hr
 have hil : i < ts.length := isT_lt hif (by decide)
 have hd1 : deep + 1 ≤ 40 := by omega
 clear rc sc xc pc ec
 refine (downR_ok2 _ (refTok HF.out H.out) (by omega) hil).mono ?_
 rintro _ w6 ⟨rfl, hb⟩
 replace HBr := kB HBr hb
 replace HBs := kB HBs hb
 replace HBx := kB HBx hb
 replace HBp := kB HBp hb
 replace HBe := kB HBe hb
 replace HF := kF HF hb
 have hs6 := hb.size
 clear hb
 simp only [rdV]
 clear hI
 have rc := kc6 HBr; have sc := kc6 HBs; have xc := kc6 HBx; have pc := kc2 HBp; have ec := kc6 HBe
 have hI := i012_01_0 w w2 w6
 go_wp2_with (fail)
 rcases hx : readE ts f .expr (i + 1) (deep + 1) with _ | ⟨x, j⟩ | ⟨l_, c_⟩
 · (rw [hx] at hr; cases hr)
 rotate_left
 ·
  rw [hx] at hr
  first | simp only at hr | simp only [andT] at hr
  cases hr
  obtain ⟨x0, j0, y0, k0, d1, d2, d3⟩ := HDD.out
  rw [hx] at d1
  cases d1
 rw [hx] at hr
 first | simp only at hr | simp only [andT] at hr
 clear rc sc xc pc ec
 refine (HE (i + 1) (deep + 1) _ _ _ _ hd1 (refTok HF.out H.out) hn hx).mono ?_
 rintro _ w7 ⟨ax, mx, cx, rfl, hb, hm⟩
 replace HBr := kB HBr hb
 replace HBs := kB HBs hb
 replace HBx := kB HBx hb
 replace HBp := kB HBp hb
 replace HBe := kB HBe hb
 replace HF := kF HF hb
 have hs7 := hb.size
 clear hb
 have HMx := Lib.hid hm
 clear hm
 simp only [rdV, exV]
 clear hI
 have rc := kc6 HBr; have sc := kc6 HBs; have xc := kc6 HBx; have pc := kc2 HBp; have ec := kc6 HBe
 have hI := i012_01_0 w w2 w7
 go_upto_region 22 with (fail)
 clear rc sc xc pc ec
 generalize ee : World.alloc w7 _ = w8_1
 have hq1 := sizeA ee
 replace HF := fA HF ee
 replace HBr := bA HBr ee
 replace HBs := bA HBs ee
 replace HBx := bA HBx ee
 replace HBp := bA HBp ee
 replace HBe := bA HBe ee
 replace HMx := mA HMx ee
 have HBu := nB ee (w7.heap.size)
 clear ee
 generalize ee : World.alloc w8_1 _ = w8
 have hq2 := sizeA ee
 replace HF := fA HF ee
 replace HBr := bA HBr ee
 replace HBs := bA HBs ee
 replace HBx := bA HBx ee
 replace HBp := bA HBp ee
 replace HBe := bA HBe ee
 replace HBu := bA HBu ee
 replace HMx := mA HMx ee
 have HBv := nB ee (w7.heap.size + 1)
 clear ee
 have hsa8 : w8.heap.size = w7.heap.size + 2 := by omega
 clear hq1 hq2
 clear hI
 have rc := kc6 HBr; have sc := kc6 HBs; have xc := kc6 HBx; have pc := kc2 HBp; have ec := kc6 HBe; have uc := kc6 HBu; have vc := kc6 HBv
 have hI := i012_01_01_0 w w2 w7 w8
 have hZ := i012_01_012 w w2 w7
 go_wp2_with (fail)
 rcases hth : isT ts j 5 wThen
 ·
  first | simp only [hth, Bool.false_eq_true, if_false] at hr | simp only [takeT, hth, Bool.false_eq_true, if_false] at hr
  obtain ⟨x0, j0, y0, k0, d1, d2, d3⟩ := HDD.out
  rw [hx] at d1
  cases d1
  rw [hth] at d2
  cases d2
 first | simp only [hth, if_true] at hr | simp only [takeT, hth, if_true] at hr
 clear rc sc xc pc ec uc vc
 refine (takeR_ok _ (refTok HF.out H.out) hth (by decide)).mono ?_
 rintro _ w9 ⟨rfl, hb⟩
 replace HBr := kB HBr hb
 replace HBs := kB HBs hb
 replace HBx := kB HBx hb
 replace HBp := kB HBp hb
 replace HBe := kB HBe hb
 replace HBu := kB HBu hb
 replace HBv := kB HBv hb
 replace HMx := kM HMx hb
 replace HF := kF HF hb
 have hs9 := hb.size
 clear hb
 simp only [rdV]
 clear hI hZ
 have rc := kc6 HBr; have sc := kc6 HBs; have xc := kc6 HBx; have pc := kc2 HBp; have ec := kc6 HBe; have uc := kc6 HBu; have vc := kc6 HBv
 have hI := i012_01_01_0 w w2 w7 w9
 go_wp2_with (fail)
 rcases hy : readE ts f .expr (j + 1) (deep + 1) with _ | ⟨y, k⟩ | ⟨l_, c_⟩
 · (rw [hy] at hr; cases hr)
 rotate_left
 ·
  rw [hy] at hr
  first | simp only at hr | simp only [andT] at hr
  cases hr
  obtain ⟨x0, j0, y0, k0, d1, d2, d3⟩ := HDD.out
  rw [hx] at d1
  cases d1
  rw [hy] at d3
  cases d3
 rw [hy] at hr
 first | simp only at hr | simp only [andT] at hr
 clear rc sc xc pc ec uc vc
 refine (HE (j + 1) (deep + 1) _ _ _ _ hd1 (refTok HF.out H.out) hn hy).mono ?_
 rintro _ w10 ⟨ay, my, cy, rfl, hb, hm⟩
 replace HBr := kB HBr hb
 replace HBs := kB HBs hb
 replace HBx := kB HBx hb
 replace HBp := kB HBp hb
 replace HBe := kB HBe hb
 replace HBu := kB HBu hb
 replace HBv := kB HBv hb
 replace HMx := kM HMx hb
 replace HF := kF HF hb
 have hs10 := hb.size
 clear hb
 have HMy := Lib.hid hm
 clear hm
 simp only [rdV, exV]
 clear hI
 have rc := kc6 HBr; have sc := kc6 HBs; have xc := kc6 HBx; have pc := kc2 HBp; have ec := kc6 HBe; have uc := kc6 HBu; have vc := kc6 HBv
 have hI := i012_01_01_0 w w2 w7 w10
 go_upto_region 23 with (fail)
 clear rc sc xc pc ec uc vc
 generalize ee : World.alloc w10 _ = w11_1
 have hq1 := sizeA ee
 replace HF := fA HF ee
 replace HBr := bA HBr ee
 replace HBs := bA HBs ee
 replace HBx := bA HBx ee
 replace HBp := bA HBp ee
 replace HBe := bA HBe ee
 replace HBu := bA HBu ee
 replace HBv := bA HBv ee
 replace HMx := mA HMx ee
 replace HMy := mA HMy ee
 have HBu2 := nB ee (w10.heap.size)
 clear ee
 generalize ee : World.alloc w11_1 _ = w11
 have hq2 := sizeA ee
 replace HF := fA HF ee
 replace HBr := bA HBr ee
 replace HBs := bA HBs ee
 replace HBx := bA HBx ee
 replace HBp := bA HBp ee
 replace HBe := bA HBe ee
 replace HBu := bA HBu ee
 replace HBv := bA HBv ee
 replace HBu2 := bA HBu2 ee
 replace HMx := mA HMx ee
 replace HMy := mA HMy ee
 have HBv2 := nB ee (w10.heap.size + 1)
 clear ee
 have hsa11 : w11.heap.size = w10.heap.size + 2 := by omega
 clear hq1 hq2
 clear hI
 have rc := kc6 HBr; have sc := kc6 HBs; have xc := kc6 HBx; have pc := kc2 HBp; have ec := kc6 HBe; have uc := kc6 HBu; have vc := kc6 HBv; have u2c := kc6 HBu2; have v2c := kc6 HBv2
 have hI := i012_01_01_01_0 w w2 w7 w10 w11
 have hZ := i012_01_01_012 w w2 w7 w10
 go_wp2_with (fail)
 rcases hel : isT ts k 5 wElse
 ·
  first | simp only [hel, Bool.false_eq_true, if_false] at hr | simp only [takeT, hel, Bool.false_eq_true, if_false] at hr
  cases hr
  clear rc sc xc pc ec uc vc u2c v2c
  refine (takeR_no _ (refTok HF.out H.out) hel).mono ?_
  rintro _ w12 ⟨rfl, hb⟩
  replace HBr := kB HBr hb
  replace HBs := kB HBs hb
  replace HBx := kB HBx hb
  replace HBp := kB HBp hb
  replace HBe := kB HBe hb
  replace HBu := kB HBu hb
  replace HBv := kB HBv hb
  replace HBu2 := kB HBu2 hb
  replace HBv2 := kB HBv2 hb
  replace HMx := kM HMx hb
  replace HMy := kM HMy hb
  replace HF := kF HF hb
  have hs12 := hb.size
  clear hb
  simp only [rdV]
  clear hI hZ
  have rc := kc6 HBr; have sc := kc6 HBs; have xc := kc6 HBx; have pc := kc2 HBp; have ec := kc6 HBe; have uc := kc6 HBu; have vc := kc6 HBv; have u2c := kc6 HBu2; have v2c := kc6 HBv2
  have hI := i012_01_01_01_0 w w2 w7 w10 w12
  go_wp2_with (fail)
  clear HMx HMy
  clear rc sc xc pc ec uc vc u2c v2c
  refine (exprR_bad (i := k) _ (refTok HF.out H.out)).mono ?_
  rintro _ w13 ⟨ib, db, kb, sb, nb, ab, mb, cb, ub, vb, rfl, hb⟩
  replace HBr := kB HBr hb
  replace HBs := kB HBs hb
  replace HBx := kB HBx hb
  replace HBp := kB HBp hb
  replace HBe := kB HBe hb
  replace HBu := kB HBu hb
  replace HBv := kB HBv hb
  replace HBu2 := kB HBu2 hb
  replace HBv2 := kB HBv2 hb
  replace HF := kF HF hb
  have hs13 := hb.size
  clear hb
  simp only [rdV]
  clear hI
  have rc := kc6 HBr; have sc := kc6 HBs; have xc := kc6 HBx; have pc := kc2 HBp; have ec := kc6 HBe; have uc := kc6 HBu; have vc := kc6 HBv; have u2c := kc6 HBu2; have v2c := kc6 HBv2
  have hI := i012_01_01_01_0 w w2 w7 w10 w13
  go_upto_region 24 with (fail)
  clear rc sc xc pc ec uc vc u2c v2c
  generalize ee : World.alloc w13 _ = w14_1
  have hq1 := sizeA ee
  replace HF := fA HF ee
  replace HBr := bA HBr ee
  replace HBs := bA HBs ee
  replace HBx := bA HBx ee
  replace HBp := bA HBp ee
  replace HBe := bA HBe ee
  replace HBu := bA HBu ee
  replace HBv := bA HBv ee
  replace HBu2 := bA HBu2 ee
  replace HBv2 := bA HBv2 ee
  have HBu3 := nB ee (w13.heap.size)
  clear ee
  generalize ee : World.alloc w14_1 _ = w14
  have hq2 := sizeA ee
  replace HF := fA HF ee
  replace HBr := bA HBr ee
  replace HBs := bA HBs ee
  replace HBx := bA HBx ee
  replace HBp := bA HBp ee
  replace HBe := bA HBe ee
  replace HBu := bA HBu ee
  replace HBv := bA HBv ee
  replace HBu2 := bA HBu2 ee
  replace HBv2 := bA HBv2 ee
  replace HBu3 := bA HBu3 ee
  have HBv3 := nB ee (w13.heap.size + 1)
  clear ee
  have hsa14 : w14.heap.size = w13.heap.size + 2 := by omega
  clear hq1 hq2
  clear hI
  have rc := kc6 HBr; have sc := kc6 HBs; have xc := kc6 HBx; have pc := kc2 HBp; have ec := kc6 HBe; have uc := kc6 HBu; have vc := kc6 HBv; have u2c := kc6 HBu2; have v2c := kc6 HBv2; have u3c := kc6 HBu3; have v3c := kc6 HBv3
  have hI := i012_01_01_01_01_0 w w2 w7 w10 w13 w14
  have hZ := i012_01_01_01_012 w w2 w7 w10 w13
  go_wp2_with (fail)
  clear rc sc xc pc ec uc vc u2c v2c u3c v3c
  generalize ee : World.setCell w14 _ _ = w15
  have hsz15 := sizeS1 ee
  replace HF := fN1 HF ee
  replace HBr := bF1 HBr ee
  replace HBs := bF1 HBs ee
  replace HBx := bF1 HBx ee
  replace HBp := bF1 HBp ee
  replace HBe := bF1 HBe ee
  replace HBu := bF1 HBu ee
  replace HBv := bF1 HBv ee
  replace HBu2 := bF1 HBu2 ee
  replace HBv2 := bF1 HBv2 ee
  replace HBu3 : Hid (Bo w15 w13.heap.size 47 #[.slice aL n cap, .int .i64 (ib : Int), .int .i64 (deep : Int), .bool true, .int .i64 (nowT ts k).l, .int .i64 (nowT ts k).c]) := Lib.hid (by rw [← ee]; exact HBu3.out.set 2 (.int .i64 (deep : Int)))
  replace HBv3 := bF1 HBv3 ee
  clear ee
  clear hI hZ
  have rc := kc6 HBr; have sc := kc6 HBs; have xc := kc6 HBx; have pc := kc2 HBp; have ec := kc6 HBe; have uc := kc6 HBu; have vc := kc6 HBv; have u2c := kc6 HBu2; have v2c := kc6 HBv2; have u3c := kc6 HBu3; have v3c := kc6 HBv3
  have hI := i012_01_01_01_01_0 w w2 w7 w10 w13 w15
  have hZ := i012_01_01_01_012 w w2 w7 w10 w13
  refine wp_region_held_drew (S := fun w' => Far (fun b => b = (w.heap.size + 1) ∨ b = (w.heap.size + 2)) (w15) w') (by kernel_rfl) (Far.of (below_drew _)) (fun hS40 => ?_)
  refine takeA 0 (v := ?_) rfl ?_ ?_
  rotate_left
  · (intro w hSw; (try dsimp only at hSw); replace u3c := Far.c6z u3c hSw; replace vc := Far.c6z vc hSw; replace v2c := Far.c6z v2c hSw; replace v3c := Far.c6z v3c hSw; replace pc := Far.c2z pc hSw; go_simp; try with_reducible rfl)
  try simp only [Act.put, pu1, pu2, pu3]
  refine takeA 1 (v := ?_) rfl ?_ ?_
  rotate_left
  · (intro w hSw; (try dsimp only at hSw); replace u3c := Far.c6z u3c hSw; replace vc := Far.c6z vc hSw; replace v2c := Far.c6z v2c hSw; replace v3c := Far.c6z v3c hSw; replace pc := Far.c2z pc hSw; go_simp; try with_reducible rfl)
  try simp only [Act.put, pu1, pu2, pu3]
  refine takeA 2 (v := ?_) rfl ?_ ?_
  rotate_left
  · (intro w hSw; (try dsimp only at hSw); replace u3c := Far.c6z u3c hSw; replace vc := Far.c6z vc hSw; replace v2c := Far.c6z v2c hSw; replace v3c := Far.c6z v3c hSw; replace pc := Far.c2z pc hSw; go_simp; try with_reducible rfl)
  try simp only [Act.put, pu1, pu2, pu3]
  refine takeA 3 (v := ?_) rfl ?_ ?_
  rotate_left
  · (intro w hSw; (try dsimp only at hSw); replace u3c := Far.c6z u3c hSw; replace vc := Far.c6z vc hSw; replace v2c := Far.c6z v2c hSw; replace v3c := Far.c6z v3c hSw; replace pc := Far.c2z pc hSw; go_simp; try with_reducible rfl)
  try simp only [Act.put, pu1, pu2, pu3]
  refine takeA 5 (v := ?_) rfl ?_ ?_
  rotate_left
  · (intro w hSw; (try dsimp only at hSw); replace u3c := Far.c6z u3c hSw; replace vc := Far.c6z vc hSw; replace v2c := Far.c6z v2c hSw; replace v3c := Far.c6z v3c hSw; replace pc := Far.c2z pc hSw; go_simp; try with_reducible rfl)
  try simp only [Act.put, pu1, pu2, pu3]

  refine twoL 4 7 rfl rfl (by kernel_rfl) (by rfl) (by rfl) (fun K hK => ?_) (fun K hK => ?_)
  ·
   go_simp
   refine hK.out _ _ ?_ (fun hS41 => ?_)
   · exact Far.trans (Far.of (below_new _ _)) (Far.of (below_drew _))
   clear hK K
   clear rc sc xc pc ec uc vc u2c v2c u3c v3c
   generalize ee : (w15.alloc (.cells #[.int .i64 x.kind, .string x.name, .int .i64 x.n, .slice ax mx cx, .int .i64 x.line, .int .i64 x.col, .int .i64 y.kind, .string y.name, .int .i64 y.n, .slice ay my cy, .int .i64 y.line, .int .i64 y.col, .int .i64 kb, .string sb, .int .i64 nb, .slice ab mb cb, .int .i64 ub, .int .i64 vb] 27)) = w16_1 at *
   have hq1 := sizeA ee
   replace HF := fA HF ee
   replace HBr := bA HBr ee
   replace HBs := bA HBs ee
   replace HBx := bA HBx ee
   replace HBp := bA HBp ee
   replace HBe := bA HBe ee
   replace HBu := bA HBu ee
   replace HBv := bA HBv ee
   replace HBu2 := bA HBu2 ee
   replace HBv2 := bA HBv2 ee
   replace HBu3 := bA HBu3 ee
   replace HBv3 := bA HBv3 ee
   have HBrow := nB ee (w13.heap.size + 2)
   clear ee
   generalize ee : (w16_1.drew) = w16 at *
   have hq2 := sizeD ee
   replace HF := fD HF ee
   replace HBr := bD HBr ee
   replace HBs := bD HBs ee
   replace HBx := bD HBx ee
   replace HBp := bD HBp ee
   replace HBe := bD HBe ee
   replace HBu := bD HBu ee
   replace HBv := bD HBv ee
   replace HBu2 := bD HBu2 ee
   replace HBv2 := bD HBv2 ee
   replace HBu3 := bD HBu3 ee
   replace HBv3 := bD HBv3 ee
   replace HBrow := bD HBrow ee
   clear ee
   have hsa16 : w16.heap.size = w13.heap.size + 3 := by omega
   clear hq1 hq2
   clear hI hZ
   have rc := kc6 HBr; have sc := kc6 HBs; have xc := kc6 HBx; have pc := kc2 HBp; have ec := kc6 HBe; have uc := kc6 HBu; have vc := kc6 HBv; have u2c := kc6 HBu2; have v2c := kc6 HBv2; have u3c := kc6 HBu3; have v3c := kc6 HBv3
   have hI := i012_01_01_01_012_0 w w2 w7 w10 w13 w16
   have hZ := i012_01_01_01_0123 w w2 w7 w10 w13
   refine takeA 6 (v := ?_) rfl ?_ ?_
   rotate_left
   · (intro w hSw; (try dsimp only at hSw); go_simp; try with_reducible rfl)
   try simp only [Act.put, pu1, pu2, pu3]
   refine callA 7 rfl fun K hK => ?_
   go_simp
   refine hK.out _ _ ?_ (fun hS42 => ?_)
   · exact (by (iterate 6 (refine Far.setCell (p := ⟨(w.heap.size + 1), _, none⟩) ?_ (.inl rfl) _)); exact hS41)
   clear hK K

   clear rc sc xc pc ec uc vc u2c v2c u3c v3c
   generalize ee : ((((((w16.setCell ⟨(w.heap.size + 1), 0, none⟩ (.slice aL n cap)).setCell ⟨(w.heap.size + 1), 1, none⟩ (.int .i64 (ib : Int))).setCell ⟨(w.heap.size + 1), 2, none⟩ (.int .i64 (deep : Int))).setCell ⟨(w.heap.size + 1), 3, none⟩ (.bool true)).setCell ⟨(w.heap.size + 1), 4, none⟩ (.int .i64 (nowT ts k).l)).setCell ⟨(w.heap.size + 1), 5, none⟩ (.int .i64 (nowT ts k).c)) = w17 at *
   have hsz17 := sizeS6 ee
   replace HF := fN6 HF ee
   replace HBr := bF6 HBr ee
   replace HBs := bS6 HBs ee
   replace HBx := bF6 HBx ee
   replace HBp := bF6 HBp ee
   replace HBe := bF6 HBe ee
   replace HBu := bF6 HBu ee
   replace HBv := bF6 HBv ee
   replace HBu2 := bF6 HBu2 ee
   replace HBv2 := bF6 HBv2 ee
   replace HBu3 := bF6 HBu3 ee
   replace HBv3 := bF6 HBv3 ee
   replace HBrow := bF6 HBrow ee
   clear ee
   clear hI hZ
   have rc := kc6 HBr; have sc := kc6 HBs; have xc := kc6 HBx; have pc := kc2 HBp; have ec := kc6 HBe; have uc := kc6 HBu; have vc := kc6 HBv; have u2c := kc6 HBu2; have v2c := kc6 HBv2; have u3c := kc6 HBu3; have v3c := kc6 HBv3
   have hI := i012_01_01_01_012_0 w w2 w7 w10 w13 w17
   have hZ := i012_01_01_01_0123 w w2 w7 w10 w13
   refine callA 8 rfl fun K hK => ?_
   go_simp
   refine hK.out _ _ ?_ (fun hS43 => ?_)
   · exact (by (iterate 6 (refine Far.setCell (p := ⟨(w.heap.size + 2), _, none⟩) ?_ (.inr rfl) _)); exact hS42)
   clear hK K
   refine wpAnyH_done (by kernel_rfl) ?_ _

   clear rc sc xc pc ec uc vc u2c v2c u3c v3c
   generalize ee : World.setCell _ ⟨(w.heap.size + 2), 5, none⟩ _ = w18
   have hsz18 := sizeS6 ee
   replace HF := fN6 HF ee
   replace HBr := bF6 HBr ee
   replace HBs := bF6 HBs ee
   replace HBx := bS6 HBx ee
   replace HBp := bF6 HBp ee
   replace HBe := bF6 HBe ee
   replace HBu := bF6 HBu ee
   replace HBv := bF6 HBv ee
   replace HBu2 := bF6 HBu2 ee
   replace HBv2 := bF6 HBv2 ee
   replace HBu3 := bF6 HBu3 ee
   replace HBv3 := bF6 HBv3 ee
   replace HBrow := bF6 HBrow ee
   clear ee
   clear hI hZ
   go_wp2_with (fail)
   have z := kc6 HBs; have y := kc6 HBx
   refine bodyPost_ret (v := .tuple #[.agg #[.slice aL n cap, .int .i64 (ib : Int), .int .i64 (deep : Int), .bool true, .int .i64 (nowT ts k).l, .int .i64 (nowT ts k).c], .agg #[.int .i64 6, .string ⟨#[]⟩, .int .i64 0, .slice (some ⟨w13.heap.size + 2, 0, none⟩) 3 3, .int .i64 (nowT ts i).l, .int .i64 (nowT ts i).c]]) (by clear HF H HBr HBs HBx HBp HBe HBu HBv HBu2 HBv2 HBu3 HBv3 HBrow; simp [results, Try.results14, go_sem, z, y]) rfl ?_
   exact ⟨_, _, _, _, _, _, _, _, _, _, rfl, refBelow HF.out⟩
  ·
   go_simp
   refine hK.out _ _ ?_ (fun hS41 => ?_)
   · exact (by refine Far.trans ?_ (Far.of (below_drew _)); (iterate 6 (refine Far.setCell (p := ⟨(w.heap.size + 1), _, none⟩) ?_ (.inl rfl) _)); exact Far.refl _ _)
   clear hK K
   clear rc sc xc pc ec uc vc u2c v2c u3c v3c
   generalize ee : ((((((w15.setCell ⟨(w.heap.size + 1), 0, none⟩ (.slice aL n cap)).setCell ⟨(w.heap.size + 1), 1, none⟩ (.int .i64 (ib : Int))).setCell ⟨(w.heap.size + 1), 2, none⟩ (.int .i64 (deep : Int))).setCell ⟨(w.heap.size + 1), 3, none⟩ (.bool true)).setCell ⟨(w.heap.size + 1), 4, none⟩ (.int .i64 (nowT ts k).l)).setCell ⟨(w.heap.size + 1), 5, none⟩ (.int .i64 (nowT ts k).c)) = w16_1 at *
   have hq1 := sizeS6 ee
   replace HF := fN6 HF ee
   replace HBr := bF6 HBr ee
   replace HBs := bS6 HBs ee
   replace HBx := bF6 HBx ee
   replace HBp := bF6 HBp ee
   replace HBe := bF6 HBe ee
   replace HBu := bF6 HBu ee
   replace HBv := bF6 HBv ee
   replace HBu2 := bF6 HBu2 ee
   replace HBv2 := bF6 HBv2 ee
   replace HBu3 := bF6 HBu3 ee
   replace HBv3 := bF6 HBv3 ee
   clear ee
   generalize ee : (w16_1.drew) = w16 at *
   have hq2 := sizeD ee
   replace HF := fD HF ee
   replace HBr := bD HBr ee
   replace HBs := bD HBs ee
   replace HBx := bD HBx ee
   replace HBp := bD HBp ee
   replace HBe := bD HBe ee
   replace HBu := bD HBu ee
   replace HBv := bD HBv ee
   replace HBu2 := bD HBu2 ee
   replace HBv2 := bD HBv2 ee
   replace HBu3 := bD HBu3 ee
   replace HBv3 := bD HBv3 ee
   clear ee
   have hsa16 : w16.heap.size = w13.heap.size + 2 := by omega
   clear hq1 hq2
   clear hI hZ
   have rc := kc6 HBr; have sc := kc6 HBs; have xc := kc6 HBx; have pc := kc2 HBp; have ec := kc6 HBe; have uc := kc6 HBu; have vc := kc6 HBv; have u2c := kc6 HBu2; have v2c := kc6 HBv2; have u3c := kc6 HBu3; have v3c := kc6 HBv3
   have hI := i012_01_01_01_01_0 w w2 w7 w10 w13 w16
   have hZ := i012_01_01_01_012 w w2 w7 w10 w13
   refine callA 4 rfl fun K hK => ?_
   go_simp
   refine hK.out _ _ ?_ (fun hS42 => ?_)
   · exact Far.trans hS41 (Far.of (below_new _ _))
   clear hK K

   clear rc sc xc pc ec uc vc u2c v2c u3c v3c
   generalize ee : (w16.alloc (.cells #[.int .i64 x.kind, .string x.name, .int .i64 x.n, .slice ax mx cx, .int .i64 x.line, .int .i64 x.col, .int .i64 y.kind, .string y.name, .int .i64 y.n, .slice ay my cy, .int .i64 y.line, .int .i64 y.col, .int .i64 kb, .string sb, .int .i64 nb, .slice ab mb cb, .int .i64 ub, .int .i64 vb] 27)) = w17 at *
   have hsa17 := sizeA ee
   replace HF := fA HF ee
   replace HBr := bA HBr ee
   replace HBs := bA HBs ee
   replace HBx := bA HBx ee
   replace HBp := bA HBp ee
   replace HBe := bA HBe ee
   replace HBu := bA HBu ee
   replace HBv := bA HBv ee
   replace HBu2 := bA HBu2 ee
   replace HBv2 := bA HBv2 ee
   replace HBu3 := bA HBu3 ee
   replace HBv3 := bA HBv3 ee
   have HBrow := nB ee (w13.heap.size + 2)
   clear ee
   clear hI hZ
   have rc := kc6 HBr; have sc := kc6 HBs; have xc := kc6 HBx; have pc := kc2 HBp; have ec := kc6 HBe; have uc := kc6 HBu; have vc := kc6 HBv; have u2c := kc6 HBu2; have v2c := kc6 HBv2; have u3c := kc6 HBu3; have v3c := kc6 HBv3
   have hI := i012_01_01_01_012_0 w w2 w7 w10 w13 w17
   have hZ := i012_01_01_01_0123 w w2 w7 w10 w13
   refine takeA 6 (v := ?_) rfl ?_ ?_
   rotate_left
   · (intro w hSw; (try dsimp only at hSw); go_simp; try with_reducible rfl)
   try simp only [Act.put, pu1, pu2, pu3]
   refine callA 8 rfl fun K hK => ?_
   go_simp
   refine hK.out _ _ ?_ (fun hS43 => ?_)
   · exact (by (iterate 6 (refine Far.setCell (p := ⟨(w.heap.size + 2), _, none⟩) ?_ (.inr rfl) _)); exact hS42)
   clear hK K
   refine wpAnyH_done (by kernel_rfl) ?_ _

   clear rc sc xc pc ec uc vc u2c v2c u3c v3c
   generalize ee : World.setCell _ ⟨(w.heap.size + 2), 5, none⟩ _ = w18
   have hsz18 := sizeS6 ee
   replace HF := fN6 HF ee
   replace HBr := bF6 HBr ee
   replace HBs := bF6 HBs ee
   replace HBx := bS6 HBx ee
   replace HBp := bF6 HBp ee
   replace HBe := bF6 HBe ee
   replace HBu := bF6 HBu ee
   replace HBv := bF6 HBv ee
   replace HBu2 := bF6 HBu2 ee
   replace HBv2 := bF6 HBv2 ee
   replace HBu3 := bF6 HBu3 ee
   replace HBv3 := bF6 HBv3 ee
   replace HBrow := bF6 HBrow ee
   clear ee
   clear hI hZ
   go_wp2_with (fail)
   have z := kc6 HBs; have y := kc6 HBx
   refine bodyPost_ret (v := .tuple #[.agg #[.slice aL n cap, .int .i64 (ib : Int), .int .i64 (deep : Int), .bool true, .int .i64 (nowT ts k).l, .int .i64 (nowT ts k).c], .agg #[.int .i64 6, .string ⟨#[]⟩, .int .i64 0, .slice (some ⟨w13.heap.size + 2, 0, none⟩) 3 3, .int .i64 (nowT ts i).l, .int .i64 (nowT ts i).c]]) (by clear HF H HBr HBs HBx HBp HBe HBu HBv HBu2 HBv2 HBu3 HBv3 HBrow; simp [results, Try.results14, go_sem, z, y]) rfl ?_
   exact ⟨_, _, _, _, _, _, _, _, _, _, rfl, refBelow HF.out⟩
 first | simp only [hel, if_true] at hr | simp only [takeT, hel, if_true] at hr
 clear rc sc xc pc ec uc vc u2c v2c
 refine (takeR_ok _ (refTok HF.out H.out) hel (by decide)).mono ?_
 rintro _ w12 ⟨rfl, hb⟩
 replace HBr := kB HBr hb
 replace HBs := kB HBs hb
 replace HBx := kB HBx hb
 replace HBp := kB HBp hb
 replace HBe := kB HBe hb
 replace HBu := kB HBu hb
 replace HBv := kB HBv hb
 replace HBu2 := kB HBu2 hb
 replace HBv2 := kB HBv2 hb
 replace HMx := kM HMx hb
 replace HMy := kM HMy hb
 replace HF := kF HF hb
 have hs12 := hb.size
 clear hb
 simp only [rdV]
 clear hI hZ
 have rc := kc6 HBr; have sc := kc6 HBs; have xc := kc6 HBx; have pc := kc2 HBp; have ec := kc6 HBe; have uc := kc6 HBu; have vc := kc6 HBv; have u2c := kc6 HBu2; have v2c := kc6 HBv2
 have hI := i012_01_01_01_0 w w2 w7 w10 w12
 go_wp2_with (fail)
 rcases hz : readE ts f .expr (k + 1) (deep + 1) with _ | ⟨z, m⟩ | ⟨l_, c_⟩
 · (rw [hz] at hr; cases hr)
 rotate_left
 ·
  rw [hz] at hr
  first | simp only at hr | simp only [andT] at hr
  cases hr
  clear HMx HMy
  clear rc sc xc pc ec uc vc u2c v2c
  refine (HE (k + 1) (deep + 1) _ _ _ _ hd1 (refTok HF.out H.out) hn hz).mono ?_
  rintro _ w13 ⟨ib, db, kb, sb, nb, ab, mb, cb, ub, vb, rfl, hb⟩
  replace HBr := kB HBr hb
  replace HBs := kB HBs hb
  replace HBx := kB HBx hb
  replace HBp := kB HBp hb
  replace HBe := kB HBe hb
  replace HBu := kB HBu hb
  replace HBv := kB HBv hb
  replace HBu2 := kB HBu2 hb
  replace HBv2 := kB HBv2 hb
  replace HF := kF HF hb
  have hs13 := hb.size
  clear hb
  simp only [rdV]
  clear hI
  have rc := kc6 HBr; have sc := kc6 HBs; have xc := kc6 HBx; have pc := kc2 HBp; have ec := kc6 HBe; have uc := kc6 HBu; have vc := kc6 HBv; have u2c := kc6 HBu2; have v2c := kc6 HBv2
  have hI := i012_01_01_01_0 w w2 w7 w10 w13
  go_upto_region 24 with (fail)
  clear rc sc xc pc ec uc vc u2c v2c
  generalize ee : World.alloc w13 _ = w14_1
  have hq1 := sizeA ee
  replace HF := fA HF ee
  replace HBr := bA HBr ee
  replace HBs := bA HBs ee
  replace HBx := bA HBx ee
  replace HBp := bA HBp ee
  replace HBe := bA HBe ee
  replace HBu := bA HBu ee
  replace HBv := bA HBv ee
  replace HBu2 := bA HBu2 ee
  replace HBv2 := bA HBv2 ee
  have HBu3 := nB ee (w13.heap.size)
  clear ee
  generalize ee : World.alloc w14_1 _ = w14
  have hq2 := sizeA ee
  replace HF := fA HF ee
  replace HBr := bA HBr ee
  replace HBs := bA HBs ee
  replace HBx := bA HBx ee
  replace HBp := bA HBp ee
  replace HBe := bA HBe ee
  replace HBu := bA HBu ee
  replace HBv := bA HBv ee
  replace HBu2 := bA HBu2 ee
  replace HBv2 := bA HBv2 ee
  replace HBu3 := bA HBu3 ee
  have HBv3 := nB ee (w13.heap.size + 1)
  clear ee
  have hsa14 : w14.heap.size = w13.heap.size + 2 := by omega
  clear hq1 hq2
  clear hI
  have rc := kc6 HBr; have sc := kc6 HBs; have xc := kc6 HBx; have pc := kc2 HBp; have ec := kc6 HBe; have uc := kc6 HBu; have vc := kc6 HBv; have u2c := kc6 HBu2; have v2c := kc6 HBv2; have u3c := kc6 HBu3; have v3c := kc6 HBv3
  have hI := i012_01_01_01_01_0 w w2 w7 w10 w13 w14
  have hZ := i012_01_01_01_012 w w2 w7 w10 w13
  go_wp2_with (fail)
  clear rc sc xc pc ec uc vc u2c v2c u3c v3c
  generalize ee : World.setCell w14 _ _ = w15
  have hsz15 := sizeS1 ee
  replace HF := fN1 HF ee
  replace HBr := bF1 HBr ee
  replace HBs := bF1 HBs ee
  replace HBx := bF1 HBx ee
  replace HBp := bF1 HBp ee
  replace HBe := bF1 HBe ee
  replace HBu := bF1 HBu ee
  replace HBv := bF1 HBv ee
  replace HBu2 := bF1 HBu2 ee
  replace HBv2 := bF1 HBv2 ee
  replace HBu3 : Hid (Bo w15 w13.heap.size 47 #[.slice aL n cap, .int .i64 (ib : Int), .int .i64 (deep : Int), .bool true, .int .i64 l_, .int .i64 c_]) := Lib.hid (by rw [← ee]; exact HBu3.out.set 2 (.int .i64 (deep : Int)))
  replace HBv3 := bF1 HBv3 ee
  clear ee
  clear hI hZ
  have rc := kc6 HBr; have sc := kc6 HBs; have xc := kc6 HBx; have pc := kc2 HBp; have ec := kc6 HBe; have uc := kc6 HBu; have vc := kc6 HBv; have u2c := kc6 HBu2; have v2c := kc6 HBv2; have u3c := kc6 HBu3; have v3c := kc6 HBv3
  have hI := i012_01_01_01_01_0 w w2 w7 w10 w13 w15
  have hZ := i012_01_01_01_012 w w2 w7 w10 w13
  refine wp_region_held_drew (S := fun w' => Far (fun b => b = (w.heap.size + 1) ∨ b = (w.heap.size + 2)) (w15) w') (by kernel_rfl) (Far.of (below_drew _)) (fun hS40 => ?_)
  refine takeA 0 (v := ?_) rfl ?_ ?_
  rotate_left
  · (intro w hSw; (try dsimp only at hSw); replace u3c := Far.c6z u3c hSw; replace vc := Far.c6z vc hSw; replace v2c := Far.c6z v2c hSw; replace v3c := Far.c6z v3c hSw; replace pc := Far.c2z pc hSw; go_simp; try with_reducible rfl)
  try simp only [Act.put, pu1, pu2, pu3]
  refine takeA 1 (v := ?_) rfl ?_ ?_
  rotate_left
  · (intro w hSw; (try dsimp only at hSw); replace u3c := Far.c6z u3c hSw; replace vc := Far.c6z vc hSw; replace v2c := Far.c6z v2c hSw; replace v3c := Far.c6z v3c hSw; replace pc := Far.c2z pc hSw; go_simp; try with_reducible rfl)
  try simp only [Act.put, pu1, pu2, pu3]
  refine takeA 2 (v := ?_) rfl ?_ ?_
  rotate_left
  · (intro w hSw; (try dsimp only at hSw); replace u3c := Far.c6z u3c hSw; replace vc := Far.c6z vc hSw; replace v2c := Far.c6z v2c hSw; replace v3c := Far.c6z v3c hSw; replace pc := Far.c2z pc hSw; go_simp; try with_reducible rfl)
  try simp only [Act.put, pu1, pu2, pu3]
  refine takeA 3 (v := ?_) rfl ?_ ?_
  rotate_left
  · (intro w hSw; (try dsimp only at hSw); replace u3c := Far.c6z u3c hSw; replace vc := Far.c6z vc hSw; replace v2c := Far.c6z v2c hSw; replace v3c := Far.c6z v3c hSw; replace pc := Far.c2z pc hSw; go_simp; try with_reducible rfl)
  try simp only [Act.put, pu1, pu2, pu3]
  refine takeA 5 (v := ?_) rfl ?_ ?_
  rotate_left
  · (intro w hSw; (try dsimp only at hSw); replace u3c := Far.c6z u3c hSw; replace vc := Far.c6z vc hSw; replace v2c := Far.c6z v2c hSw; replace v3c := Far.c6z v3c hSw; replace pc := Far.c2z pc hSw; go_simp; try with_reducible rfl)
  try simp only [Act.put, pu1, pu2, pu3]

  refine twoL 4 7 rfl rfl (by kernel_rfl) (by rfl) (by rfl) (fun K hK => ?_) (fun K hK => ?_)
  ·
   go_simp
   refine hK.out _ _ ?_ (fun hS41 => ?_)
   · exact Far.trans (Far.of (below_new _ _)) (Far.of (below_drew _))
   clear hK K
   clear rc sc xc pc ec uc vc u2c v2c u3c v3c
   generalize ee : (w15.alloc (.cells #[.int .i64 x.kind, .string x.name, .int .i64 x.n, .slice ax mx cx, .int .i64 x.line, .int .i64 x.col, .int .i64 y.kind, .string y.name, .int .i64 y.n, .slice ay my cy, .int .i64 y.line, .int .i64 y.col, .int .i64 kb, .string sb, .int .i64 nb, .slice ab mb cb, .int .i64 ub, .int .i64 vb] 27)) = w16_1 at *
   have hq1 := sizeA ee
   replace HF := fA HF ee
   replace HBr := bA HBr ee
   replace HBs := bA HBs ee
   replace HBx := bA HBx ee
   replace HBp := bA HBp ee
   replace HBe := bA HBe ee
   replace HBu := bA HBu ee
   replace HBv := bA HBv ee
   replace HBu2 := bA HBu2 ee
   replace HBv2 := bA HBv2 ee
   replace HBu3 := bA HBu3 ee
   replace HBv3 := bA HBv3 ee
   have HBrow := nB ee (w13.heap.size + 2)
   clear ee
   generalize ee : (w16_1.drew) = w16 at *
   have hq2 := sizeD ee
   replace HF := fD HF ee
   replace HBr := bD HBr ee
   replace HBs := bD HBs ee
   replace HBx := bD HBx ee
   replace HBp := bD HBp ee
   replace HBe := bD HBe ee
   replace HBu := bD HBu ee
   replace HBv := bD HBv ee
   replace HBu2 := bD HBu2 ee
   replace HBv2 := bD HBv2 ee
   replace HBu3 := bD HBu3 ee
   replace HBv3 := bD HBv3 ee
   replace HBrow := bD HBrow ee
   clear ee
   have hsa16 : w16.heap.size = w13.heap.size + 3 := by omega
   clear hq1 hq2
   clear hI hZ
   have rc := kc6 HBr; have sc := kc6 HBs; have xc := kc6 HBx; have pc := kc2 HBp; have ec := kc6 HBe; have uc := kc6 HBu; have vc := kc6 HBv; have u2c := kc6 HBu2; have v2c := kc6 HBv2; have u3c := kc6 HBu3; have v3c := kc6 HBv3
   have hI := i012_01_01_01_012_0 w w2 w7 w10 w13 w16
   have hZ := i012_01_01_01_0123 w w2 w7 w10 w13
   refine takeA 6 (v := ?_) rfl ?_ ?_
   rotate_left
   · (intro w hSw; (try dsimp only at hSw); go_simp; try with_reducible rfl)
   try simp only [Act.put, pu1, pu2, pu3]
   refine callA 7 rfl fun K hK => ?_
   go_simp
   refine hK.out _ _ ?_ (fun hS42 => ?_)
   · exact (by (iterate 6 (refine Far.setCell (p := ⟨(w.heap.size + 1), _, none⟩) ?_ (.inl rfl) _)); exact hS41)
   clear hK K

   clear rc sc xc pc ec uc vc u2c v2c u3c v3c
   generalize ee : ((((((w16.setCell ⟨(w.heap.size + 1), 0, none⟩ (.slice aL n cap)).setCell ⟨(w.heap.size + 1), 1, none⟩ (.int .i64 (ib : Int))).setCell ⟨(w.heap.size + 1), 2, none⟩ (.int .i64 (deep : Int))).setCell ⟨(w.heap.size + 1), 3, none⟩ (.bool true)).setCell ⟨(w.heap.size + 1), 4, none⟩ (.int .i64 l_)).setCell ⟨(w.heap.size + 1), 5, none⟩ (.int .i64 c_)) = w17 at *
   have hsz17 := sizeS6 ee
   replace HF := fN6 HF ee
   replace HBr := bF6 HBr ee
   replace HBs := bS6 HBs ee
   replace HBx := bF6 HBx ee
   replace HBp := bF6 HBp ee
   replace HBe := bF6 HBe ee
   replace HBu := bF6 HBu ee
   replace HBv := bF6 HBv ee
   replace HBu2 := bF6 HBu2 ee
   replace HBv2 := bF6 HBv2 ee
   replace HBu3 := bF6 HBu3 ee
   replace HBv3 := bF6 HBv3 ee
   replace HBrow := bF6 HBrow ee
   clear ee
   clear hI hZ
   have rc := kc6 HBr; have sc := kc6 HBs; have xc := kc6 HBx; have pc := kc2 HBp; have ec := kc6 HBe; have uc := kc6 HBu; have vc := kc6 HBv; have u2c := kc6 HBu2; have v2c := kc6 HBv2; have u3c := kc6 HBu3; have v3c := kc6 HBv3
   have hI := i012_01_01_01_012_0 w w2 w7 w10 w13 w17
   have hZ := i012_01_01_01_0123 w w2 w7 w10 w13
   refine callA 8 rfl fun K hK => ?_
   go_simp
   refine hK.out _ _ ?_ (fun hS43 => ?_)
   · exact (by (iterate 6 (refine Far.setCell (p := ⟨(w.heap.size + 2), _, none⟩) ?_ (.inr rfl) _)); exact hS42)
   clear hK K
   refine wpAnyH_done (by kernel_rfl) ?_ _

   clear rc sc xc pc ec uc vc u2c v2c u3c v3c
   generalize ee : World.setCell _ ⟨(w.heap.size + 2), 5, none⟩ _ = w18
   have hsz18 := sizeS6 ee
   replace HF := fN6 HF ee
   replace HBr := bF6 HBr ee
   replace HBs := bF6 HBs ee
   replace HBx := bS6 HBx ee
   replace HBp := bF6 HBp ee
   replace HBe := bF6 HBe ee
   replace HBu := bF6 HBu ee
   replace HBv := bF6 HBv ee
   replace HBu2 := bF6 HBu2 ee
   replace HBv2 := bF6 HBv2 ee
   replace HBu3 := bF6 HBu3 ee
   replace HBv3 := bF6 HBv3 ee
   replace HBrow := bF6 HBrow ee
   clear ee
   clear hI hZ
   go_wp2_with (fail)
   have z := kc6 HBs; have y := kc6 HBx
   refine bodyPost_ret (v := .tuple #[.agg #[.slice aL n cap, .int .i64 (ib : Int), .int .i64 (deep : Int), .bool true, .int .i64 l_, .int .i64 c_], .agg #[.int .i64 6, .string ⟨#[]⟩, .int .i64 0, .slice (some ⟨w13.heap.size + 2, 0, none⟩) 3 3, .int .i64 (nowT ts i).l, .int .i64 (nowT ts i).c]]) (by clear HF H HBr HBs HBx HBp HBe HBu HBv HBu2 HBv2 HBu3 HBv3 HBrow; simp [results, Try.results14, go_sem, z, y]) rfl ?_
   exact ⟨_, _, _, _, _, _, _, _, _, _, rfl, refBelow HF.out⟩
  ·
   go_simp
   refine hK.out _ _ ?_ (fun hS41 => ?_)
   · exact (by refine Far.trans ?_ (Far.of (below_drew _)); (iterate 6 (refine Far.setCell (p := ⟨(w.heap.size + 1), _, none⟩) ?_ (.inl rfl) _)); exact Far.refl _ _)
   clear hK K
   clear rc sc xc pc ec uc vc u2c v2c u3c v3c
   generalize ee : ((((((w15.setCell ⟨(w.heap.size + 1), 0, none⟩ (.slice aL n cap)).setCell ⟨(w.heap.size + 1), 1, none⟩ (.int .i64 (ib : Int))).setCell ⟨(w.heap.size + 1), 2, none⟩ (.int .i64 (deep : Int))).setCell ⟨(w.heap.size + 1), 3, none⟩ (.bool true)).setCell ⟨(w.heap.size + 1), 4, none⟩ (.int .i64 l_)).setCell ⟨(w.heap.size + 1), 5, none⟩ (.int .i64 c_)) = w16_1 at *
   have hq1 := sizeS6 ee
   replace HF := fN6 HF ee
   replace HBr := bF6 HBr ee
   replace HBs := bS6 HBs ee
   replace HBx := bF6 HBx ee
   replace HBp := bF6 HBp ee
   replace HBe := bF6 HBe ee
   replace HBu := bF6 HBu ee
   replace HBv := bF6 HBv ee
   replace HBu2 := bF6 HBu2 ee
   replace HBv2 := bF6 HBv2 ee
   replace HBu3 := bF6 HBu3 ee
   replace HBv3 := bF6 HBv3 ee
   clear ee
   generalize ee : (w16_1.drew) = w16 at *
   have hq2 := sizeD ee
   replace HF := fD HF ee
   replace HBr := bD HBr ee
   replace HBs := bD HBs ee
   replace HBx := bD HBx ee
   replace HBp := bD HBp ee
   replace HBe := bD HBe ee
   replace HBu := bD HBu ee
   replace HBv := bD HBv ee
   replace HBu2 := bD HBu2 ee
   replace HBv2 := bD HBv2 ee
   replace HBu3 := bD HBu3 ee
   replace HBv3 := bD HBv3 ee
   clear ee
   have hsa16 : w16.heap.size = w13.heap.size + 2 := by omega
   clear hq1 hq2
   clear hI hZ
   have rc := kc6 HBr; have sc := kc6 HBs; have xc := kc6 HBx; have pc := kc2 HBp; have ec := kc6 HBe; have uc := kc6 HBu; have vc := kc6 HBv; have u2c := kc6 HBu2; have v2c := kc6 HBv2; have u3c := kc6 HBu3; have v3c := kc6 HBv3
   have hI := i012_01_01_01_01_0 w w2 w7 w10 w13 w16
   have hZ := i012_01_01_01_012 w w2 w7 w10 w13
   refine callA 4 rfl fun K hK => ?_
   go_simp
   refine hK.out _ _ ?_ (fun hS42 => ?_)
   · exact Far.trans hS41 (Far.of (below_new _ _))
   clear hK K

   clear rc sc xc pc ec uc vc u2c v2c u3c v3c
   generalize ee : (w16.alloc (.cells #[.int .i64 x.kind, .string x.name, .int .i64 x.n, .slice ax mx cx, .int .i64 x.line, .int .i64 x.col, .int .i64 y.kind, .string y.name, .int .i64 y.n, .slice ay my cy, .int .i64 y.line, .int .i64 y.col, .int .i64 kb, .string sb, .int .i64 nb, .slice ab mb cb, .int .i64 ub, .int .i64 vb] 27)) = w17 at *
   have hsa17 := sizeA ee
   replace HF := fA HF ee
   replace HBr := bA HBr ee
   replace HBs := bA HBs ee
   replace HBx := bA HBx ee
   replace HBp := bA HBp ee
   replace HBe := bA HBe ee
   replace HBu := bA HBu ee
   replace HBv := bA HBv ee
   replace HBu2 := bA HBu2 ee
   replace HBv2 := bA HBv2 ee
   replace HBu3 := bA HBu3 ee
   replace HBv3 := bA HBv3 ee
   have HBrow := nB ee (w13.heap.size + 2)
   clear ee
   clear hI hZ
   have rc := kc6 HBr; have sc := kc6 HBs; have xc := kc6 HBx; have pc := kc2 HBp; have ec := kc6 HBe; have uc := kc6 HBu; have vc := kc6 HBv; have u2c := kc6 HBu2; have v2c := kc6 HBv2; have u3c := kc6 HBu3; have v3c := kc6 HBv3
   have hI := i012_01_01_01_012_0 w w2 w7 w10 w13 w17
   have hZ := i012_01_01_01_0123 w w2 w7 w10 w13
   refine takeA 6 (v := ?_) rfl ?_ ?_
   rotate_left
   · (intro w hSw; (try dsimp only at hSw); go_simp; try with_reducible rfl)
   try simp only [Act.put, pu1, pu2, pu3]
   refine callA 8 rfl fun K hK => ?_
   go_simp
   refine hK.out _ _ ?_ (fun hS43 => ?_)
   · exact (by (iterate 6 (refine Far.setCell (p := ⟨(w.heap.size + 2), _, none⟩) ?_ (.inr rfl) _)); exact hS42)
   clear hK K
   refine wpAnyH_done (by kernel_rfl) ?_ _

   clear rc sc xc pc ec uc vc u2c v2c u3c v3c
   generalize ee : World.setCell _ ⟨(w.heap.size + 2), 5, none⟩ _ = w18
   have hsz18 := sizeS6 ee
   replace HF := fN6 HF ee
   replace HBr := bF6 HBr ee
   replace HBs := bF6 HBs ee
   replace HBx := bS6 HBx ee
   replace HBp := bF6 HBp ee
   replace HBe := bF6 HBe ee
   replace HBu := bF6 HBu ee
   replace HBv := bF6 HBv ee
   replace HBu2 := bF6 HBu2 ee
   replace HBv2 := bF6 HBv2 ee
   replace HBu3 := bF6 HBu3 ee
   replace HBv3 := bF6 HBv3 ee
   replace HBrow := bF6 HBrow ee
   clear ee
   clear hI hZ
   go_wp2_with (fail)
   have z := kc6 HBs; have y := kc6 HBx
   refine bodyPost_ret (v := .tuple #[.agg #[.slice aL n cap, .int .i64 (ib : Int), .int .i64 (deep : Int), .bool true, .int .i64 l_, .int .i64 c_], .agg #[.int .i64 6, .string ⟨#[]⟩, .int .i64 0, .slice (some ⟨w13.heap.size + 2, 0, none⟩) 3 3, .int .i64 (nowT ts i).l, .int .i64 (nowT ts i).c]]) (by clear HF H HBr HBs HBx HBp HBe HBu HBv HBu2 HBv2 HBu3 HBv3 HBrow; simp [results, Try.results14, go_sem, z, y]) rfl ?_
   exact ⟨_, _, _, _, _, _, _, _, _, _, rfl, refBelow HF.out⟩
 rw [hz] at hr
 first | simp only at hr | simp only [andT] at hr
 clear rc sc xc pc ec uc vc u2c v2c
 refine (HE (k + 1) (deep + 1) _ _ _ _ hd1 (refTok HF.out H.out) hn hz).mono ?_
 rintro _ w13 ⟨az, mz, cz, rfl, hb, hm⟩
 replace HBr := kB HBr hb
 replace HBs := kB HBs hb
 replace HBx := kB HBx hb
 replace HBp := kB HBp hb
 replace HBe := kB HBe hb
 replace HBu := kB HBu hb
 replace HBv := kB HBv hb
 replace HBu2 := kB HBu2 hb
 replace HBv2 := kB HBv2 hb
 replace HMx := kM HMx hb
 replace HMy := kM HMy hb
 replace HF := kF HF hb
 have hs13 := hb.size
 clear hb
 have HMz := Lib.hid hm
 clear hm
 simp only [rdV, exV]
 have HYx : Hid (Mem (NwS (Av w6.heap.size w13.heap.size w13.heap.size) w13.heap.size) w13 _ _) := Lib.hid (memS_av (g := w13.heap.size) (k := w13.heap.size) HMx.out (by omega) (by omega) (by omega))
 clear HMx
 have HYy : Hid (Mem (NwS (Av w6.heap.size w13.heap.size w13.heap.size) w13.heap.size) w13 _ _) := Lib.hid (memS_av (g := w13.heap.size) (k := w13.heap.size) HMy.out (by omega) (by omega) (by omega))
 clear HMy
 have HYz : Hid (Mem (NwS (Av w6.heap.size w13.heap.size w13.heap.size) w13.heap.size) w13 _ _) := Lib.hid (memS_av (g := w13.heap.size) (k := w13.heap.size) HMz.out (by omega) (by omega) (by omega))
 clear HMz
 clear hI
 have rc := kc6 HBr; have sc := kc6 HBs; have xc := kc6 HBx; have pc := kc2 HBp; have ec := kc6 HBe; have uc := kc6 HBu; have vc := kc6 HBv; have u2c := kc6 HBu2; have v2c := kc6 HBv2
 have hI := i012_01_01_01_0 w w2 w7 w10 w13
 go_upto_region 24 with (fail)
 clear rc sc xc pc ec uc vc u2c v2c
 generalize ee : World.alloc w13 _ = w14_1
 have hq1 := sizeA ee
 replace HF := fA HF ee
 replace HBr := bA HBr ee
 replace HBs := bA HBs ee
 replace HBx := bA HBx ee
 replace HBp := bA HBp ee
 replace HBe := bA HBe ee
 replace HBu := bA HBu ee
 replace HBv := bA HBv ee
 replace HBu2 := bA HBu2 ee
 replace HBv2 := bA HBv2 ee
 replace HYx := yA HYx ee
 replace HYy := yA HYy ee
 replace HYz := yA HYz ee
 have HBu3 := nB ee (w13.heap.size)
 clear ee
 generalize ee : World.alloc w14_1 _ = w14
 have hq2 := sizeA ee
 replace HF := fA HF ee
 replace HBr := bA HBr ee
 replace HBs := bA HBs ee
 replace HBx := bA HBx ee
 replace HBp := bA HBp ee
 replace HBe := bA HBe ee
 replace HBu := bA HBu ee
 replace HBv := bA HBv ee
 replace HBu2 := bA HBu2 ee
 replace HBv2 := bA HBv2 ee
 replace HBu3 := bA HBu3 ee
 replace HYx := yA HYx ee
 replace HYy := yA HYy ee
 replace HYz := yA HYz ee
 have HBv3 := nB ee (w13.heap.size + 1)
 clear ee
 have hsa14 : w14.heap.size = w13.heap.size + 2 := by omega
 clear hq1 hq2
 clear hI
 have rc := kc6 HBr; have sc := kc6 HBs; have xc := kc6 HBx; have pc := kc2 HBp; have ec := kc6 HBe; have uc := kc6 HBu; have vc := kc6 HBv; have u2c := kc6 HBu2; have v2c := kc6 HBv2; have u3c := kc6 HBu3; have v3c := kc6 HBv3
 have hI := i012_01_01_01_01_0 w w2 w7 w10 w13 w14
 have hZ := i012_01_01_01_012 w w2 w7 w10 w13
 go_wp2_with (fail)
 clear rc sc xc pc ec uc vc u2c v2c u3c v3c
 generalize ee : World.setCell w14 _ _ = w15
 have hsz15 := sizeS1 ee
 replace HF := fN1 HF ee
 replace HBr := bF1 HBr ee
 replace HBs := bF1 HBs ee
 replace HBx := bF1 HBx ee
 replace HBp := bF1 HBp ee
 replace HBe := bF1 HBe ee
 replace HBu := bF1 HBu ee
 replace HBv := bF1 HBv ee
 replace HBu2 := bF1 HBu2 ee
 replace HBv2 := bF1 HBv2 ee
 replace HBu3 : Hid (Bo w15 w13.heap.size 47 #[.slice aL n cap, .int .i64 (m : Int), .int .i64 (deep : Int), .bool false, .int .i64 a0, .int .i64 b0]) := Lib.hid (by rw [← ee]; exact HBu3.out.set 2 (.int .i64 (deep : Int)))
 replace HBv3 := bF1 HBv3 ee
 replace HYx := yS1 HYx ee
 replace HYy := yS1 HYy ee
 replace HYz := yS1 HYz ee
 clear ee
 clear hI hZ
 have rc := kc6 HBr; have sc := kc6 HBs; have xc := kc6 HBx; have pc := kc2 HBp; have ec := kc6 HBe; have uc := kc6 HBu; have vc := kc6 HBv; have u2c := kc6 HBu2; have v2c := kc6 HBv2; have u3c := kc6 HBu3; have v3c := kc6 HBv3
 have hI := i012_01_01_01_01_0 w w2 w7 w10 w13 w15
 have hZ := i012_01_01_01_012 w w2 w7 w10 w13
 cases hr
 refine wp_region_held_drew (S := fun w' => Far (fun b => b = (w.heap.size + 1) ∨ b = (w.heap.size + 2)) (w15) w') (by kernel_rfl) (Far.of (below_drew _)) (fun hS40 => ?_)
 refine takeA 0 (v := ?_) rfl ?_ ?_
 rotate_left
 · (intro w hSw; (try dsimp only at hSw); replace u3c := Far.c6z u3c hSw; replace vc := Far.c6z vc hSw; replace v2c := Far.c6z v2c hSw; replace v3c := Far.c6z v3c hSw; replace pc := Far.c2z pc hSw; go_simp; try with_reducible rfl)
 try simp only [Act.put, pu1, pu2, pu3]
 refine takeA 1 (v := ?_) rfl ?_ ?_
 rotate_left
 · (intro w hSw; (try dsimp only at hSw); replace u3c := Far.c6z u3c hSw; replace vc := Far.c6z vc hSw; replace v2c := Far.c6z v2c hSw; replace v3c := Far.c6z v3c hSw; replace pc := Far.c2z pc hSw; go_simp; try with_reducible rfl)
 try simp only [Act.put, pu1, pu2, pu3]
 refine takeA 2 (v := ?_) rfl ?_ ?_
 rotate_left
 · (intro w hSw; (try dsimp only at hSw); replace u3c := Far.c6z u3c hSw; replace vc := Far.c6z vc hSw; replace v2c := Far.c6z v2c hSw; replace v3c := Far.c6z v3c hSw; replace pc := Far.c2z pc hSw; go_simp; try with_reducible rfl)
 try simp only [Act.put, pu1, pu2, pu3]
 refine takeA 3 (v := ?_) rfl ?_ ?_
 rotate_left
 · (intro w hSw; (try dsimp only at hSw); replace u3c := Far.c6z u3c hSw; replace vc := Far.c6z vc hSw; replace v2c := Far.c6z v2c hSw; replace v3c := Far.c6z v3c hSw; replace pc := Far.c2z pc hSw; go_simp; try with_reducible rfl)
 try simp only [Act.put, pu1, pu2, pu3]
 refine takeA 5 (v := ?_) rfl ?_ ?_
 rotate_left
 · (intro w hSw; (try dsimp only at hSw); replace u3c := Far.c6z u3c hSw; replace vc := Far.c6z vc hSw; replace v2c := Far.c6z v2c hSw; replace v3c := Far.c6z v3c hSw; replace pc := Far.c2z pc hSw; go_simp; try with_reducible rfl)
 try simp only [Act.put, pu1, pu2, pu3]

 refine twoL 4 7 rfl rfl (by kernel_rfl) (by rfl) (by rfl) (fun K hK => ?_) (fun K hK => ?_)
 ·
  go_simp
  refine hK.out _ _ ?_ (fun hS41 => ?_)
  · exact Far.trans (Far.of (below_new _ _)) (Far.of (below_drew _))
  clear hK K
  clear rc sc xc pc ec uc vc u2c v2c u3c v3c
  generalize ee : (w15.alloc (.cells #[.int .i64 x.kind, .string x.name, .int .i64 x.n, .slice ax mx cx, .int .i64 x.line, .int .i64 x.col, .int .i64 y.kind, .string y.name, .int .i64 y.n, .slice ay my cy, .int .i64 y.line, .int .i64 y.col, .int .i64 z.kind, .string z.name, .int .i64 z.n, .slice az mz cz, .int .i64 z.line, .int .i64 z.col] 27)) = w16_1 at *
  have hq1 := sizeA ee
  have HNEW := Lib.hid (builtS3E (A := Av w6.heap.size w13.heap.size w13.heap.size) (base := w13.heap.size + 2) HYx.out HYy.out HYz.out ee (b := w13.heap.size + 2) (by omega) (by omega))
  replace HF := fA HF ee
  replace HBr := bA HBr ee
  replace HBs := bA HBs ee
  replace HBx := bA HBx ee
  replace HBp := bA HBp ee
  replace HBe := bA HBe ee
  replace HBu := bA HBu ee
  replace HBv := bA HBv ee
  replace HBu2 := bA HBu2 ee
  replace HBv2 := bA HBv2 ee
  replace HBu3 := bA HBu3 ee
  replace HBv3 := bA HBv3 ee
  replace HYx := yA HYx ee
  replace HYy := yA HYy ee
  replace HYz := yA HYz ee
  have HSz := HNEW
  clear HNEW
  clear ee
  generalize ee : (w16_1.drew) = w16 at *
  have hq2 := sizeD ee
  replace HF := fD HF ee
  replace HBr := bD HBr ee
  replace HBs := bD HBs ee
  replace HBx := bD HBx ee
  replace HBp := bD HBp ee
  replace HBe := bD HBe ee
  replace HBu := bD HBu ee
  replace HBv := bD HBv ee
  replace HBu2 := bD HBu2 ee
  replace HBv2 := bD HBv2 ee
  replace HBu3 := bD HBu3 ee
  replace HBv3 := bD HBv3 ee
  replace HYx := yD HYx ee
  replace HYy := yD HYy ee
  replace HYz := yD HYz ee
  replace HSz := sD HSz ee
  clear ee
  have hsa16 : w16.heap.size = w13.heap.size + 3 := by omega
  clear hq1 hq2
  clear hI hZ
  have rc := kc6 HBr; have sc := kc6 HBs; have xc := kc6 HBx; have pc := kc2 HBp; have ec := kc6 HBe; have uc := kc6 HBu; have vc := kc6 HBv; have u2c := kc6 HBu2; have v2c := kc6 HBv2; have u3c := kc6 HBu3; have v3c := kc6 HBv3
  have hI := i012_01_01_01_01_0 w w2 w7 w10 w13 w16
  have hZ := i012_01_01_01_013 w w2 w7 w10 w13
  refine takeA 6 (v := ?_) rfl ?_ ?_
  rotate_left
  · (intro w hSw; (try dsimp only at hSw); go_simp; try with_reducible rfl)
  try simp only [Act.put, pu1, pu2, pu3]
  refine callA 7 rfl fun K hK => ?_
  go_simp
  refine hK.out _ _ ?_ (fun hS42 => ?_)
  · exact (by (iterate 6 (refine Far.setCell (p := ⟨(w.heap.size + 1), _, none⟩) ?_ (.inl rfl) _)); exact hS41)
  clear hK K

  clear rc sc xc pc ec uc vc u2c v2c u3c v3c
  generalize ee : ((((((w16.setCell ⟨(w.heap.size + 1), 0, none⟩ (.slice aL n cap)).setCell ⟨(w.heap.size + 1), 1, none⟩ (.int .i64 (m : Int))).setCell ⟨(w.heap.size + 1), 2, none⟩ (.int .i64 (deep : Int))).setCell ⟨(w.heap.size + 1), 3, none⟩ (.bool false)).setCell ⟨(w.heap.size + 1), 4, none⟩ (.int .i64 a0)).setCell ⟨(w.heap.size + 1), 5, none⟩ (.int .i64 b0)) = w17 at *
  have hsz17 := sizeS6 ee
  replace HF := fN6 HF ee
  replace HBr := bF6 HBr ee
  replace HBs := bS6 HBs ee
  replace HBx := bF6 HBx ee
  replace HBp := bF6 HBp ee
  replace HBe := bF6 HBe ee
  replace HBu := bF6 HBu ee
  replace HBv := bF6 HBv ee
  replace HBu2 := bF6 HBu2 ee
  replace HBv2 := bF6 HBv2 ee
  replace HBu3 := bF6 HBu3 ee
  replace HBv3 := bF6 HBv3 ee
  replace HYx := yS6 HYx ee
  replace HYy := yS6 HYy ee
  replace HYz := yS6 HYz ee
  replace HSz := sS6 HSz ee
  clear ee
  clear hI hZ
  have rc := kc6 HBr; have sc := kc6 HBs; have xc := kc6 HBx; have pc := kc2 HBp; have ec := kc6 HBe; have uc := kc6 HBu; have vc := kc6 HBv; have u2c := kc6 HBu2; have v2c := kc6 HBv2; have u3c := kc6 HBu3; have v3c := kc6 HBv3
  have hI := i012_01_01_01_01_0 w w2 w7 w10 w13 w17
  have hZ := i012_01_01_01_013 w w2 w7 w10 w13
  refine callA 8 rfl fun K hK => ?_
  go_simp
  refine hK.out _ _ ?_ (fun hS43 => ?_)
  · exact (by (iterate 6 (refine Far.setCell (p := ⟨(w.heap.size + 2), _, none⟩) ?_ (.inr rfl) _)); exact hS42)
  clear hK K
  refine wpAnyH_done (by kernel_rfl) ?_ _

  clear rc sc xc pc ec uc vc u2c v2c u3c v3c
  generalize ee : World.setCell _ ⟨(w.heap.size + 2), 5, none⟩ _ = w18
  have hsz18 := sizeS6 ee
  replace HF := fN6 HF ee
  replace HBr := bF6 HBr ee
  replace HBs := bF6 HBs ee
  replace HBx := bS6 HBx ee
  replace HBp := bF6 HBp ee
  replace HBe := bF6 HBe ee
  replace HBu := bF6 HBu ee
  replace HBv := bF6 HBv ee
  replace HBu2 := bF6 HBu2 ee
  replace HBv2 := bF6 HBv2 ee
  replace HBu3 := bF6 HBu3 ee
  replace HBv3 := bF6 HBv3 ee
  replace HYx := yS6 HYx ee
  replace HYy := yS6 HYy ee
  replace HYz := yS6 HYz ee
  replace HSz := sS6 HSz ee
  clear ee
  clear hI hZ
  go_wp2_with (fail)
  have z := kc6 HBs; have y := kc6 HBx
  refine bodyPost_ret (v := .tuple #[.agg #[.slice aL n cap, .int .i64 (m : Int), .int .i64 (deep : Int), .bool false, .int .i64 a0, .int .i64 b0], .agg #[.int .i64 6, .string ⟨#[]⟩, .int .i64 0, .slice (some ⟨w13.heap.size + 2, 0, none⟩) 3 3, .int .i64 (nowT ts i).l, .int .i64 (nowT ts i).c]]) (by clear HF H HBr HBs HBx HBp HBe HBu HBv HBu2 HBv2 HBu3 HBv3 HYx HYy HYz HSz; simp [results, Try.results14, go_sem, z, y]) rfl ?_
  have HYZ := Lib.hid (OwnS.sameO HSz.out (A := Av w6.heap.size w13.heap.size w13.heap.size) fun k hk => by have hk2 : w13.heap.size + 2 = k := Option.some.inj hk; exact ⟨by omega, by omega, by omega⟩)
  exact ⟨_, _, _, rfl, refBelow HF.out, (memS_nw HYZ.out (fun b hb => Nat.le_trans (by omega) hb.1))⟩
 ·
  go_simp
  refine hK.out _ _ ?_ (fun hS41 => ?_)
  · exact (by refine Far.trans ?_ (Far.of (below_drew _)); (iterate 6 (refine Far.setCell (p := ⟨(w.heap.size + 1), _, none⟩) ?_ (.inl rfl) _)); exact Far.refl _ _)
  clear hK K
  clear rc sc xc pc ec uc vc u2c v2c u3c v3c
  generalize ee : ((((((w15.setCell ⟨(w.heap.size + 1), 0, none⟩ (.slice aL n cap)).setCell ⟨(w.heap.size + 1), 1, none⟩ (.int .i64 (m : Int))).setCell ⟨(w.heap.size + 1), 2, none⟩ (.int .i64 (deep : Int))).setCell ⟨(w.heap.size + 1), 3, none⟩ (.bool false)).setCell ⟨(w.heap.size + 1), 4, none⟩ (.int .i64 a0)).setCell ⟨(w.heap.size + 1), 5, none⟩ (.int .i64 b0)) = w16_1 at *
  have hq1 := sizeS6 ee
  replace HF := fN6 HF ee
  replace HBr := bF6 HBr ee
  replace HBs := bS6 HBs ee
  replace HBx := bF6 HBx ee
  replace HBp := bF6 HBp ee
  replace HBe := bF6 HBe ee
  replace HBu := bF6 HBu ee
  replace HBv := bF6 HBv ee
  replace HBu2 := bF6 HBu2 ee
  replace HBv2 := bF6 HBv2 ee
  replace HBu3 := bF6 HBu3 ee
  replace HBv3 := bF6 HBv3 ee
  replace HYx := yS6 HYx ee
  replace HYy := yS6 HYy ee
  replace HYz := yS6 HYz ee
  clear ee
  generalize ee : (w16_1.drew) = w16 at *
  have hq2 := sizeD ee
  replace HF := fD HF ee
  replace HBr := bD HBr ee
  replace HBs := bD HBs ee
  replace HBx := bD HBx ee
  replace HBp := bD HBp ee
  replace HBe := bD HBe ee
  replace HBu := bD HBu ee
  replace HBv := bD HBv ee
  replace HBu2 := bD HBu2 ee
  replace HBv2 := bD HBv2 ee
  replace HBu3 := bD HBu3 ee
  replace HBv3 := bD HBv3 ee
  replace HYx := yD HYx ee
  replace HYy := yD HYy ee
  replace HYz := yD HYz ee
  clear ee
  have hsa16 : w16.heap.size = w13.heap.size + 2 := by omega
  clear hq1 hq2
  clear hI hZ
  have rc := kc6 HBr; have sc := kc6 HBs; have xc := kc6 HBx; have pc := kc2 HBp; have ec := kc6 HBe; have uc := kc6 HBu; have vc := kc6 HBv; have u2c := kc6 HBu2; have v2c := kc6 HBv2; have u3c := kc6 HBu3; have v3c := kc6 HBv3
  have hI := i012_01_01_01_01_0 w w2 w7 w10 w13 w16
  have hZ := i012_01_01_01_012 w w2 w7 w10 w13
  refine callA 4 rfl fun K hK => ?_
  go_simp
  refine hK.out _ _ ?_ (fun hS42 => ?_)
  · exact Far.trans hS41 (Far.of (below_new _ _))
  clear hK K

  clear rc sc xc pc ec uc vc u2c v2c u3c v3c
  generalize ee : (w16.alloc (.cells #[.int .i64 x.kind, .string x.name, .int .i64 x.n, .slice ax mx cx, .int .i64 x.line, .int .i64 x.col, .int .i64 y.kind, .string y.name, .int .i64 y.n, .slice ay my cy, .int .i64 y.line, .int .i64 y.col, .int .i64 z.kind, .string z.name, .int .i64 z.n, .slice az mz cz, .int .i64 z.line, .int .i64 z.col] 27)) = w17 at *
  have hsa17 := sizeA ee
  have HNEW := Lib.hid (builtS3E (A := Av w6.heap.size w13.heap.size w13.heap.size) (base := w13.heap.size + 2) HYx.out HYy.out HYz.out ee (b := w13.heap.size + 2) (by omega) (by omega))
  replace HF := fA HF ee
  replace HBr := bA HBr ee
  replace HBs := bA HBs ee
  replace HBx := bA HBx ee
  replace HBp := bA HBp ee
  replace HBe := bA HBe ee
  replace HBu := bA HBu ee
  replace HBv := bA HBv ee
  replace HBu2 := bA HBu2 ee
  replace HBv2 := bA HBv2 ee
  replace HBu3 := bA HBu3 ee
  replace HBv3 := bA HBv3 ee
  replace HYx := yA HYx ee
  replace HYy := yA HYy ee
  replace HYz := yA HYz ee
  have HSz := HNEW
  clear HNEW
  clear ee
  clear hI hZ
  have rc := kc6 HBr; have sc := kc6 HBs; have xc := kc6 HBx; have pc := kc2 HBp; have ec := kc6 HBe; have uc := kc6 HBu; have vc := kc6 HBv; have u2c := kc6 HBu2; have v2c := kc6 HBv2; have u3c := kc6 HBu3; have v3c := kc6 HBv3
  have hI := i012_01_01_01_01_0 w w2 w7 w10 w13 w17
  have hZ := i012_01_01_01_013 w w2 w7 w10 w13
  refine takeA 6 (v := ?_) rfl ?_ ?_
  rotate_left
  · (intro w hSw; (try dsimp only at hSw); go_simp; try with_reducible rfl)
  try simp only [Act.put, pu1, pu2, pu3]
  refine callA 8 rfl fun K hK => ?_
  go_simp
  refine hK.out _ _ ?_ (fun hS43 => ?_)
  · exact (by (iterate 6 (refine Far.setCell (p := ⟨(w.heap.size + 2), _, none⟩) ?_ (.inr rfl) _)); exact hS42)
  clear hK K
  refine wpAnyH_done (by kernel_rfl) ?_ _

  clear rc sc xc pc ec uc vc u2c v2c u3c v3c
  generalize ee : World.setCell _ ⟨(w.heap.size + 2), 5, none⟩ _ = w18
  have hsz18 := sizeS6 ee
  replace HF := fN6 HF ee
  replace HBr := bF6 HBr ee
  replace HBs := bF6 HBs ee
  replace HBx := bS6 HBx ee
  replace HBp := bF6 HBp ee
  replace HBe := bF6 HBe ee
  replace HBu := bF6 HBu ee
  replace HBv := bF6 HBv ee
  replace HBu2 := bF6 HBu2 ee
  replace HBv2 := bF6 HBv2 ee
  replace HBu3 := bF6 HBu3 ee
  replace HBv3 := bF6 HBv3 ee
  replace HYx := yS6 HYx ee
  replace HYy := yS6 HYy ee
  replace HYz := yS6 HYz ee
  replace HSz := sS6 HSz ee
  clear ee
  clear hI hZ
  go_wp2_with (fail)
  have z := kc6 HBs; have y := kc6 HBx
  refine bodyPost_ret (v := .tuple #[.agg #[.slice aL n cap, .int .i64 (m : Int), .int .i64 (deep : Int), .bool false, .int .i64 a0, .int .i64 b0], .agg #[.int .i64 6, .string ⟨#[]⟩, .int .i64 0, .slice (some ⟨w13.heap.size + 2, 0, none⟩) 3 3, .int .i64 (nowT ts i).l, .int .i64 (nowT ts i).c]]) (by clear HF H HBr HBs HBx HBp HBe HBu HBv HBu2 HBv2 HBu3 HBv3 HYx HYy HYz HSz; simp [results, Try.results14, go_sem, z, y]) rfl ?_
  have HYZ := Lib.hid (OwnS.sameO HSz.out (A := Av w6.heap.size w13.heap.size w13.heap.size) fun k hk => by have hk2 : w13.heap.size + 2 = k := Option.some.inj hk; exact ⟨by omega, by omega, by omega⟩)
  exact ⟨_, _, _, rfl, refBelow HF.out, (memS_nw HYZ.out (fun b hb => Nat.le_trans (by omega) hb.1))⟩
end
end Go.Proofs.Ytnmlobakiclgiaa

/-
  The document's reader, all together: each of its functions reads what the plain model says, for any fuel. No condition but how the tokens lie.
-/
namespace Go.Proofs.Ytnmlobakiclgiaa
open Go.RowKit
section
variable (ts : List Tk) (aL : Option Addr) (n cap : Nat)
structure AllRR (g : Nat) : Prop where
  ex : ReadsR ts aL n cap 14 .expr g
  rk : ReadsK ts aL n cap g
  tm : ReadsR ts aL n cap 67 .atom g
theorem allRR_zero : AllRR ts aL n cap 0 where
  ex := fun i deep r a0 b0 w _ _ _ hr => by rw [readE] at hr; cases hr
  rk := fun rank i deep r a0 b0 w _ _ _ _ _ hr => by rw [readE] at hr; cases hr
  tm := fun i deep r a0 b0 w _ _ _ hr => by rw [readE] at hr; cases hr
theorem allRR_succ (F : Nat) (ih : ∀ g, g ≤ F → AllRR ts aL n cap g) : AllRR ts aL n cap (F + 1) where
  ex := fun i deep r a0 b0 w hd hm hn hr => by
    cases hlet : isT ts i 5 wLet with
    | false =>
      by_cases hif : isT ts i 5 wIf = true
      · by_cases h40 : deep = 40
        · exact exprR_A hr hlet (fun _ h => absurd h40 h) w hd hm hn (ih F (Nat.le_refl _)).ex (ih F (Nat.le_refl _)).rk
        · by_cases hD : ∃ (x : Ex) (j : Nat) (y : Ex) (k : Nat), readE ts F .expr (i + 1) (deep + 1) = some (.ok x j) ∧ isT ts j 5 wThen = true ∧ readE ts F .expr (j + 1) (deep + 1) = some (.ok y k)
          · exact exprR_D hr hlet hif h40 hD w hd hm hn (ih F (Nat.le_refl _)).ex (ih F (Nat.le_refl _)).rk
          · exact exprR_A hr hlet (fun _ _ x j y k h1 h2 h3 => hD ⟨x, j, y, k, h1, h2, h3⟩) w hd hm hn (ih F (Nat.le_refl _)).ex (ih F (Nat.le_refl _)).rk
      · exact exprR_A hr hlet (fun h => absurd h hif) w hd hm hn (ih F (Nat.le_refl _)).ex (ih F (Nat.le_refl _)).rk
    | true =>
      by_cases h40 : deep = 40
      · exact exprR_B hr hlet (.inl h40) w hd hm hn (ih F (Nat.le_refl _)).ex (ih F (Nat.le_refl _)).rk
      · by_cases hnm : (nowT ts (i + 1)).k ≠ 2
        · exact exprR_B hr hlet (.inr (.inl hnm)) w hd hm hn (ih F (Nat.le_refl _)).ex (ih F (Nat.le_refl _)).rk
        · cases hfr : isT ts (i + 2) 5 wFree with
          | true => exact exprR_B hr hlet (.inr (.inr hfr)) w hd hm hn (ih F (Nat.le_refl _)).ex (ih F (Nat.le_refl _)).rk
          | false => exact exprR_C hr hlet h40 hnm hfr w hd hm hn (ih F (Nat.le_refl _)).ex (ih F (Nat.le_refl _)).rk
  rk := rank_reads F (fun g hg => (ih g hg).rk) fun i deep r a0 b0 w hd hm hn hr => appR_reads w hd hm hn hr fun g hg => (ih g hg).tm
  tm := fun i deep r a0 b0 w hd hm hn hr => atomR_succ hr w hd hm hn (ih F (Nat.le_refl _)).ex
theorem allRR_le : ∀ F g, g ≤ F → AllRR ts aL n cap g
  | 0, g, h => by obtain rfl : g = 0 := by omega
                  exact allRR_zero ts aL n cap
  | F + 1, g, h => by
    by_cases e : g = F + 1
    · subst e
      exact allRR_succ ts aL n cap F (allRR_le F)
    · exact allRR_le F g (by omega)
theorem allRR (F : Nat) : AllRR ts aL n cap F := allRR_le ts aL n cap F F (Nat.le_refl _)
end
end Go.Proofs.Ytnmlobakiclgiaa
