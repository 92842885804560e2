/-
 The document's reader's Expr: an Expr. Under what itself and rank do with less fuel.
-/
import Derived.Test.YtnmlobakiclgiaaEx18
import Derived.Test.YtnmlobakiclgiaaEx17
import Derived.Test.YtnmlobakiclgiaaEx19
namespace Go.Proofs.Ytnmlobakiclgiaa
open Go.RowKit
section
variable {ts : List Tk} {aL : Option Addr} {n cap : Nat}
attribute [local go_sem] tk_pos tk_text tk_kind0
set_option maxRecDepth 100000 in
set_option maxHeartbeats 20000000 in
theorem exprR_A {f i deep : Nat} {r : Rd1} {a0 b0 : Int} (hr : readE ts (f + 1) .expr i deep = some r) (hlt : isT ts i 5 wLet = false) (hDD : isT ts i 5 wIf = true → ¬ deep = 40 → ∀ (x : Ex) (j : Nat) (y : Ex) (k : Nat), readE ts f .expr (i + 1) (deep + 1) = some (.ok x j) → isT ts j 5 wThen = true → readE ts f .expr (j + 1) (deep + 1) = some (.ok y k) → False) (w : World) (hd : deep ≤ 40) (h : MemW w (.s 5 (tkRows ts)) (.slice aL n cap)) (hn : n ≤ 1048576) (HE : ReadsR ts aL n cap 14 .expr f) (HO : ReadsK ts aL n cap f) :
  Calls Try.prog 14 #[rdV aL n cap (i : Int) (deep : Int) false a0 b0] w (AnsR aL n cap r deep a0 b0 w) := by
 have H := Lib.hid h
 clear h
 rw [readE] at hr
 try simp only at hr
 have HLT := Lib.hid hlt
 have HDD := Lib.hid hDD
 clear hlt hDD
 have HF : Hid (FarB w.heap.size w.heap.size w w) := Lib.hid (FarB.refl _ _ _)
 simp only [rdV]
 go_enter Try.func14, Try.ntmps14
 go_wp2_with (fail)
 generalize ee : World.alloc w _ = w1_1
 have hq1 := sizeA ee
 replace HF := fA HF ee
 have HBr := nB ee (w.heap.size)
 clear ee
 generalize ee : World.alloc w1_1 _ = w1_2
 have hq2 := sizeA ee
 replace HF := fA HF ee
 replace HBr := bA HBr ee
 have HBs := nB ee (w.heap.size + 1)
 clear ee
 generalize ee : World.alloc w1_2 _ = w1
 have hq3 := sizeA ee
 replace HF := fA HF ee
 replace HBr := bA HBr ee
 replace HBs := bA HBs ee
 have HBx := nB ee (w.heap.size + 2)
 clear ee
 have hsa1 : w1.heap.size = w.heap.size + 3 := by omega
 clear hq1 hq2 hq3
 have rc := kc6 HBr; have sc := kc6 HBs; have xc := kc6 HBx
 have hI := i012_0 w w1
 have hZ := i0123 w
 clear rc sc xc
 refine (nowR_any _ (refTok HF.out H.out)).mono ?_
 rintro _ w2 ⟨rfl, hb⟩
 replace HBr := kB HBr hb
 replace HBs := kB HBs hb
 replace HBx := kB HBx hb
 replace HF := kF HF hb
 have hs2 := hb.size
 clear hb
 simp only [tkV]
 clear hI hZ
 have rc := kc6 HBr; have sc := kc6 HBs; have xc := kc6 HBx
 have hI := i012_0 w w2
 go_wp2_with (fail)
 clear rc sc xc
 generalize ee : World.alloc w2 _ = w3_1
 have hq1 := sizeA ee
 replace HF := fA HF ee
 replace HBr := bA HBr ee
 replace HBs := bA HBs ee
 replace HBx := bA HBx ee
 have HBp := nB ee (w2.heap.size)
 clear ee
 generalize ee : World.alloc w3_1 _ = w3
 have hq2 := sizeA ee
 replace HF := fA HF ee
 replace HBr := bA HBr ee
 replace HBs := bA HBs ee
 replace HBx := bA HBx ee
 replace HBp := bA HBp ee
 have HBe := nB ee (w2.heap.size + 1)
 clear ee
 have hsa3 : w3.heap.size = w2.heap.size + 2 := by omega
 clear hq1 hq2
 clear hI
 have rc := kc6 HBr; have sc := kc6 HBs; have xc := kc6 HBx; have pc := kc2 HBp; have ec := kc6 HBe
 have hI := i012_01_0 w w2 w3
 have hZ := i012_012 w w2
 rcases hlet : isT ts i 5 wLet
 rotate_left
 ·
  simp only [hlet, if_true] at hr
  have hlt := HLT.out
  rw [hlet] at hlt
  cases hlt
 simp only [hlet, Bool.false_eq_true, if_false] at hr
 clear rc sc xc pc ec
 refine (isR_ok (s := wLet) _ (refTok HF.out H.out)).mono ?_
 rintro _ w4 ⟨rfl, hb⟩
 replace HBr := kB HBr hb
 replace HBs := kB HBs hb
 replace HBx := kB HBx hb
 replace HBp := kB HBp hb
 replace HBe := kB HBe hb
 replace HF := kF HF hb
 have hs4 := hb.size
 clear hb
 rw [hlet]
 clear hI hZ
 have rc := kc6 HBr; have sc := kc6 HBs; have xc := kc6 HBx; have pc := kc2 HBp; have ec := kc6 HBe
 have hI := i012_01_0 w w2 w4
 go_wp2_with (fail)
 rcases hif : isT ts i 5 wIf
 ·
  simp only [hif, Bool.false_eq_true, if_false] at hr
  clear rc sc xc pc ec
  refine (isR_ok (s := wIf) _ (refTok HF.out H.out)).mono ?_
  rintro _ w5 ⟨rfl, hb⟩
  replace HBr := kB HBr hb
  replace HBs := kB HBs hb
  replace HBx := kB HBx hb
  replace HBp := kB HBp hb
  replace HBe := kB HBe hb
  replace HF := kF HF hb
  have hs5 := hb.size
  clear hb
  rw [hif]
  clear hI
  have rc := kc6 HBr; have sc := kc6 HBs; have xc := kc6 HBx; have pc := kc2 HBp; have ec := kc6 HBe
  have hI := i012_01_0 w w2 w5
  go_wp2_with (fail)
  cases r with
  | bad l_ c_ =>
   clear rc sc xc pc ec
   refine (HO 1 i deep _ _ _ _ (by omega) (by omega) hd (refTok HF.out H.out) hn hr).mono ?_
   rintro _ w6 ⟨iq, dq, kq, sq, nq, aq, mq, cq, uq, vq, rfl, hb⟩
   replace HBr := kB HBr hb
   replace HBs := kB HBs hb
   replace HBx := kB HBx hb
   replace HBp := kB HBp hb
   replace HBe := kB HBe hb
   replace HF := kF HF hb
   have hs6 := hb.size
   clear hb
   simp only [rdV]
   clear hI
   have rc := kc6 HBr; have sc := kc6 HBs; have xc := kc6 HBx; have pc := kc2 HBp; have ec := kc6 HBe
   have hI := i012_01_0 w w2 w6
   go_wp2_with (fail)
   clear rc sc xc pc ec
   generalize ee : World.setCell _ ⟨(w.heap.size + 1), 5, none⟩ _ = w7_1
   have hq1 := sizeS6 ee
   replace HF := fN6 HF ee
   replace HBr := bF6 HBr ee
   replace HBs := bS6 HBs ee
   replace HBx := bF6 HBx ee
   replace HBp := bF6 HBp ee
   replace HBe := bF6 HBe ee
   clear ee
   generalize ee : World.setCell _ ⟨(w.heap.size + 2), 5, none⟩ _ = w7
   have hq2 := sizeS6 ee
   replace HF := fN6 HF ee
   replace HBr := bF6 HBr ee
   replace HBs := bF6 HBs ee
   replace HBx := bS6 HBx ee
   replace HBp := bF6 HBp ee
   replace HBe := bF6 HBe ee
   clear ee
   have hsz7 : w7.heap.size = w6.heap.size := by omega
   clear hq1 hq2
   clear hI
   go_wp2_with (fail)
   have z := kc6 HBs; have y := kc6 HBx
   refine bodyPost_ret (v := .tuple #[.agg #[.slice aL n cap, .int .i64 (iq : Int), .int .i64 dq, .bool true, .int .i64 l_, .int .i64 c_], .agg #[.int .i64 kq, .string sq, .int .i64 nq, .slice aq mq cq, .int .i64 uq, .int .i64 vq]]) (by clear HF H HBr HBs HBx HBp HBe; simp [results, Try.results14, go_sem, z, y]) rfl ?_
   exact ⟨_, _, _, _, _, _, _, _, _, _, rfl, refBelow HF.out⟩
  | ok x j =>
   clear rc sc xc pc ec
   refine (HO 1 i deep _ _ _ _ (by omega) (by omega) hd (refTok HF.out H.out) hn hr).mono ?_
   rintro _ w6 ⟨ax, mx, cx, rfl, hb, hm⟩
   replace HBr := kB HBr hb
   replace HBs := kB HBs hb
   replace HBx := kB HBx hb
   replace HBp := kB HBp hb
   replace HBe := kB HBe hb
   replace HF := kF HF hb
   have hs6 := hb.size
   clear hb
   have HMx := Lib.hid hm
   clear hm
   simp only [rdV, exV]
   clear hI
   have rc := kc6 HBr; have sc := kc6 HBs; have xc := kc6 HBx; have pc := kc2 HBp; have ec := kc6 HBe
   have hI := i012_01_0 w w2 w6
   go_wp2_with (fail)
   clear rc sc xc pc ec
   generalize ee : World.setCell _ ⟨(w.heap.size + 1), 5, none⟩ _ = w7_1
   have hq1 := sizeS6 ee
   replace HF := fN6 HF ee
   replace HBr := bF6 HBr ee
   replace HBs := bS6 HBs ee
   replace HBx := bF6 HBx ee
   replace HBp := bF6 HBp ee
   replace HBe := bF6 HBe ee
   replace HMx := mS6 HMx ee
   clear ee
   generalize ee : World.setCell _ ⟨(w.heap.size + 2), 5, none⟩ _ = w7
   have hq2 := sizeS6 ee
   replace HF := fN6 HF ee
   replace HBr := bF6 HBr ee
   replace HBs := bF6 HBs ee
   replace HBx := bS6 HBx ee
   replace HBp := bF6 HBp ee
   replace HBe := bF6 HBe ee
   replace HMx := mS6 HMx ee
   clear ee
   have hsz7 : w7.heap.size = w6.heap.size := by omega
   clear hq1 hq2
   clear hI
   go_wp2_with (fail)
   have z := kc6 HBs; have y := kc6 HBx
   refine bodyPost_ret (v := .tuple #[.agg #[.slice aL n cap, .int .i64 (j : Int), .int .i64 (deep : Int), .bool false, .int .i64 a0, .int .i64 b0], .agg #[.int .i64 x.kind, .string x.name, .int .i64 x.n, .slice ax mx cx, .int .i64 x.line, .int .i64 x.col]]) (by clear HF H HBr HBs HBx HBp HBe HMx; simp [results, Try.results14, go_sem, z, y]) rfl ?_
   exact ⟨_, _, _, rfl, refBelow HF.out, memNw HMx.out (by omega)⟩
 simp only [hif, if_true] at hr
 clear rc sc xc pc ec
 refine (isR_ok (s := wIf) _ (refTok HF.out H.out)).mono ?_
 rintro _ w5 ⟨rfl, hb⟩
 replace HBr := kB HBr hb
 replace HBs := kB HBs hb
 replace HBx := kB HBx hb
 replace HBp := kB HBp hb
 replace HBe := kB HBe hb
 replace HF := kF HF hb
 have hs5 := hb.size
 clear hb
 rw [hif]
 clear hI
 have rc := kc6 HBr; have sc := kc6 HBs; have xc := kc6 HBx; have pc := kc2 HBp; have ec := kc6 HBe
 have hI := i012_01_0 w w2 w5
 go_wp2_with (fail)
 by_cases h40 : deep = 40
 ·
  rw [if_pos h40] at hr
  cases hr
  clear rc sc xc pc ec
  refine (downR_bad2 _ (refTok HF.out H.out) h40).mono ?_
  rintro _ w6 ⟨rfl, hb⟩
  replace HBr := kB HBr hb
  replace HBs := kB HBs hb
  replace HBx := kB HBx hb
  replace HBp := kB HBp hb
  replace HBe := kB HBe hb
  replace HF := kF HF hb
  have hs6 := hb.size
  clear hb
  clear h40
  simp only [rdV]
  clear hI
  have rc := kc6 HBr; have sc := kc6 HBs; have xc := kc6 HBx; have pc := kc2 HBp; have ec := kc6 HBe
  have hI := i012_01_0 w w2 w6
  go_wp2_with (fail)
  clear rc sc xc pc ec
  refine (exprR_bad (i := i) _ (refTok HF.out H.out)).mono ?_
  rintro _ w7 ⟨iq, dq, kq, sq, nq, aq, mq, cq, uq, vq, rfl, hb⟩
  replace HBr := kB HBr hb
  replace HBs := kB HBs hb
  replace HBx := kB HBx hb
  replace HBp := kB HBp hb
  replace HBe := kB HBe hb
  replace HF := kF HF hb
  have hs7 := hb.size
  clear hb
  simp only [rdV]
  clear hI
  have rc := kc6 HBr; have sc := kc6 HBs; have xc := kc6 HBx; have pc := kc2 HBp; have ec := kc6 HBe
  have hI := i012_01_0 w w2 w7
  go_upto_region 22 with (fail)
  clear rc sc xc pc ec
  generalize ee : World.alloc w7 _ = w8_1
  have hq1 := sizeA ee
  replace HF := fA HF ee
  replace HBr := bA HBr ee
  replace HBs := bA HBs ee
  replace HBx := bA HBx ee
  replace HBp := bA HBp ee
  replace HBe := bA HBe ee
  have HBu := nB ee (w7.heap.size)
  clear ee
  generalize ee : World.alloc w8_1 _ = w8
  have hq2 := sizeA ee
  replace HF := fA HF ee
  replace HBr := bA HBr ee
  replace HBs := bA HBs ee
  replace HBx := bA HBx ee
  replace HBp := bA HBp ee
  replace HBe := bA HBe ee
  replace HBu := bA HBu ee
  have HBv := nB ee (w7.heap.size + 1)
  clear ee
  have hsa8 : w8.heap.size = w7.heap.size + 2 := by omega
  clear hq1 hq2
  clear hI
  have rc := kc6 HBr; have sc := kc6 HBs; have xc := kc6 HBx; have pc := kc2 HBp; have ec := kc6 HBe; have uc := kc6 HBu; have vc := kc6 HBv
  have hI := i012_01_01_0 w w2 w7 w8
  have hZ := i012_01_012 w w2 w7
  go_wp2_with (fail)
  clear rc sc xc pc ec uc vc
  refine (takeR_bad (i := iq) _ (refTok HF.out H.out)).mono ?_
  rintro _ w9 ⟨rfl, hb⟩
  replace HBr := kB HBr hb
  replace HBs := kB HBs hb
  replace HBx := kB HBx hb
  replace HBp := kB HBp hb
  replace HBe := kB HBe hb
  replace HBu := kB HBu hb
  replace HBv := kB HBv hb
  replace HF := kF HF hb
  have hs9 := hb.size
  clear hb
  simp only [rdV]
  clear hI hZ
  have rc := kc6 HBr; have sc := kc6 HBs; have xc := kc6 HBx; have pc := kc2 HBp; have ec := kc6 HBe; have uc := kc6 HBu; have vc := kc6 HBv
  have hI := i012_01_01_0 w w2 w7 w9
  go_wp2_with (fail)
  clear rc sc xc pc ec uc vc
  refine (exprR_bad (i := iq) _ (refTok HF.out H.out)).mono ?_
  rintro _ w10 ⟨ih, dh, kh, sh, nh, ah, mh, ch, uh, vh, rfl, hb⟩
  replace HBr := kB HBr hb
  replace HBs := kB HBs hb
  replace HBx := kB HBx hb
  replace HBp := kB HBp hb
  replace HBe := kB HBe hb
  replace HBu := kB HBu hb
  replace HBv := kB HBv hb
  replace HF := kF HF hb
  have hs10 := hb.size
  clear hb
  simp only [rdV]
  clear hI
  have rc := kc6 HBr; have sc := kc6 HBs; have xc := kc6 HBx; have pc := kc2 HBp; have ec := kc6 HBe; have uc := kc6 HBu; have vc := kc6 HBv
  have hI := i012_01_01_0 w w2 w7 w10
  go_upto_region 23 with (fail)
  clear rc sc xc pc ec uc vc
  generalize ee : World.alloc w10 _ = w11_1
  have hq1 := sizeA ee
  replace HF := fA HF ee
  replace HBr := bA HBr ee
  replace HBs := bA HBs ee
  replace HBx := bA HBx ee
  replace HBp := bA HBp ee
  replace HBe := bA HBe ee
  replace HBu := bA HBu ee
  replace HBv := bA HBv ee
  have HBu2 := nB ee (w10.heap.size)
  clear ee
  generalize ee : World.alloc w11_1 _ = w11
  have hq2 := sizeA ee
  replace HF := fA HF ee
  replace HBr := bA HBr ee
  replace HBs := bA HBs ee
  replace HBx := bA HBx ee
  replace HBp := bA HBp ee
  replace HBe := bA HBe ee
  replace HBu := bA HBu ee
  replace HBv := bA HBv ee
  replace HBu2 := bA HBu2 ee
  have HBv2 := nB ee (w10.heap.size + 1)
  clear ee
  have hsa11 : w11.heap.size = w10.heap.size + 2 := by omega
  clear hq1 hq2
  clear hI
  have rc := kc6 HBr; have sc := kc6 HBs; have xc := kc6 HBx; have pc := kc2 HBp; have ec := kc6 HBe; have uc := kc6 HBu; have vc := kc6 HBv; have u2c := kc6 HBu2; have v2c := kc6 HBv2
  have hI := i012_01_01_01_0 w w2 w7 w10 w11
  have hZ := i012_01_01_012 w w2 w7 w10
  go_wp2_with (fail)
  clear rc sc xc pc ec uc vc u2c v2c
  refine (takeR_bad (i := ih) _ (refTok HF.out H.out)).mono ?_
  rintro _ w12 ⟨rfl, hb⟩
  replace HBr := kB HBr hb
  replace HBs := kB HBs hb
  replace HBx := kB HBx hb
  replace HBp := kB HBp hb
  replace HBe := kB HBe hb
  replace HBu := kB HBu hb
  replace HBv := kB HBv hb
  replace HBu2 := kB HBu2 hb
  replace HBv2 := kB HBv2 hb
  replace HF := kF HF hb
  have hs12 := hb.size
  clear hb
  simp only [rdV]
  clear hI hZ
  have rc := kc6 HBr; have sc := kc6 HBs; have xc := kc6 HBx; have pc := kc2 HBp; have ec := kc6 HBe; have uc := kc6 HBu; have vc := kc6 HBv; have u2c := kc6 HBu2; have v2c := kc6 HBv2
  have hI := i012_01_01_01_0 w w2 w7 w10 w12
  go_wp2_with (fail)
  clear rc sc xc pc ec uc vc u2c v2c
  refine (exprR_bad (i := ih) _ (refTok HF.out H.out)).mono ?_
  rintro _ w13 ⟨ib, db, kb, sb, nb, ab, mb, cb, ub, vb, rfl, hb⟩
  replace HBr := kB HBr hb
  replace HBs := kB HBs hb
  replace HBx := kB HBx hb
  replace HBp := kB HBp hb
  replace HBe := kB HBe hb
  replace HBu := kB HBu hb
  replace HBv := kB HBv hb
  replace HBu2 := kB HBu2 hb
  replace HBv2 := kB HBv2 hb
  replace HF := kF HF hb
  have hs13 := hb.size
  clear hb
  simp only [rdV]
  clear hI
  have rc := kc6 HBr; have sc := kc6 HBs; have xc := kc6 HBx; have pc := kc2 HBp; have ec := kc6 HBe; have uc := kc6 HBu; have vc := kc6 HBv; have u2c := kc6 HBu2; have v2c := kc6 HBv2
  have hI := i012_01_01_01_0 w w2 w7 w10 w13
  go_upto_region 24 with (fail)
  clear rc sc xc pc ec uc vc u2c v2c
  generalize ee : World.alloc w13 _ = w14_1
  have hq1 := sizeA ee
  replace HF := fA HF ee
  replace HBr := bA HBr ee
  replace HBs := bA HBs ee
  replace HBx := bA HBx ee
  replace HBp := bA HBp ee
  replace HBe := bA HBe ee
  replace HBu := bA HBu ee
  replace HBv := bA HBv ee
  replace HBu2 := bA HBu2 ee
  replace HBv2 := bA HBv2 ee
  have HBu3 := nB ee (w13.heap.size)
  clear ee
  generalize ee : World.alloc w14_1 _ = w14
  have hq2 := sizeA ee
  replace HF := fA HF ee
  replace HBr := bA HBr ee
  replace HBs := bA HBs ee
  replace HBx := bA HBx ee
  replace HBp := bA HBp ee
  replace HBe := bA HBe ee
  replace HBu := bA HBu ee
  replace HBv := bA HBv ee
  replace HBu2 := bA HBu2 ee
  replace HBv2 := bA HBv2 ee
  replace HBu3 := bA HBu3 ee
  have HBv3 := nB ee (w13.heap.size + 1)
  clear ee
  have hsa14 : w14.heap.size = w13.heap.size + 2 := by omega
  clear hq1 hq2
  clear hI
  have rc := kc6 HBr; have sc := kc6 HBs; have xc := kc6 HBx; have pc := kc2 HBp; have ec := kc6 HBe; have uc := kc6 HBu; have vc := kc6 HBv; have u2c := kc6 HBu2; have v2c := kc6 HBv2; have u3c := kc6 HBu3; have v3c := kc6 HBv3
  have hI := i012_01_01_01_01_0 w w2 w7 w10 w13 w14
  have hZ := i012_01_01_01_012 w w2 w7 w10 w13
  go_wp2_with (fail)
  clear rc sc xc pc ec uc vc u2c v2c u3c v3c
  generalize ee : World.setCell w14 _ _ = w15
  have hsz15 := sizeS1 ee
  replace HF := fN1 HF ee
  replace HBr := bF1 HBr ee
  replace HBs := bF1 HBs ee
  replace HBx := bF1 HBx ee
  replace HBp := bF1 HBp ee
  replace HBe := bF1 HBe ee
  replace HBu := bF1 HBu ee
  replace HBv := bF1 HBv ee
  replace HBu2 := bF1 HBu2 ee
  replace HBv2 := bF1 HBv2 ee
  replace HBu3 : Hid (Bo w15 w13.heap.size 47 #[.slice aL n cap, .int .i64 (ib : Int), .int .i64 (deep : Int), .bool true, .int .i64 (nowT ts i).l, .int .i64 (nowT ts i).c]) := Lib.hid (by rw [← ee]; exact HBu3.out.set 2 (.int .i64 (deep : Int)))
  replace HBv3 := bF1 HBv3 ee
  clear ee
  clear hI hZ
  have rc := kc6 HBr; have sc := kc6 HBs; have xc := kc6 HBx; have pc := kc2 HBp; have ec := kc6 HBe; have uc := kc6 HBu; have vc := kc6 HBv; have u2c := kc6 HBu2; have v2c := kc6 HBv2; have u3c := kc6 HBu3; have v3c := kc6 HBv3
  have hI := i012_01_01_01_01_0 w w2 w7 w10 w13 w15
  have hZ := i012_01_01_01_012 w w2 w7 w10 w13
  refine wp_region_held_drew (S := fun w' => Far (fun b => b = (w.heap.size + 1) ∨ b = (w.heap.size + 2)) (w15) w') (by kernel_rfl) (Far.of (below_drew _)) (fun hS40 => ?_)
  refine takeA 0 (v := ?_) rfl ?_ ?_
  rotate_left
  · (intro w hSw; (try dsimp only at hSw); replace u3c := Far.c6z u3c hSw; replace vc := Far.c6z vc hSw; replace v2c := Far.c6z v2c hSw; replace v3c := Far.c6z v3c hSw; replace pc := Far.c2z pc hSw; go_simp; try with_reducible rfl)
  try simp only [Act.put, pu1, pu2, pu3]
  refine takeA 1 (v := ?_) rfl ?_ ?_
  rotate_left
  · (intro w hSw; (try dsimp only at hSw); replace u3c := Far.c6z u3c hSw; replace vc := Far.c6z vc hSw; replace v2c := Far.c6z v2c hSw; replace v3c := Far.c6z v3c hSw; replace pc := Far.c2z pc hSw; go_simp; try with_reducible rfl)
  try simp only [Act.put, pu1, pu2, pu3]
  refine takeA 2 (v := ?_) rfl ?_ ?_
  rotate_left
  · (intro w hSw; (try dsimp only at hSw); replace u3c := Far.c6z u3c hSw; replace vc := Far.c6z vc hSw; replace v2c := Far.c6z v2c hSw; replace v3c := Far.c6z v3c hSw; replace pc := Far.c2z pc hSw; go_simp; try with_reducible rfl)
  try simp only [Act.put, pu1, pu2, pu3]
  refine takeA 3 (v := ?_) rfl ?_ ?_
  rotate_left
  · (intro w hSw; (try dsimp only at hSw); replace u3c := Far.c6z u3c hSw; replace vc := Far.c6z vc hSw; replace v2c := Far.c6z v2c hSw; replace v3c := Far.c6z v3c hSw; replace pc := Far.c2z pc hSw; go_simp; try with_reducible rfl)
  try simp only [Act.put, pu1, pu2, pu3]
  refine takeA 5 (v := ?_) rfl ?_ ?_
  rotate_left
  · (intro w hSw; (try dsimp only at hSw); replace u3c := Far.c6z u3c hSw; replace vc := Far.c6z vc hSw; replace v2c := Far.c6z v2c hSw; replace v3c := Far.c6z v3c hSw; replace pc := Far.c2z pc hSw; go_simp; try with_reducible rfl)
  try simp only [Act.put, pu1, pu2, pu3]

  refine twoL 4 7 rfl rfl (by kernel_rfl) (by rfl) (by rfl) (fun K hK => ?_) (fun K hK => ?_)
  ·
   go_simp
   refine hK.out _ _ ?_ (fun hS41 => ?_)
   · exact Far.trans (Far.of (below_new _ _)) (Far.of (below_drew _))
   clear hK K
   clear rc sc xc pc ec uc vc u2c v2c u3c v3c
   generalize ee : (w15.alloc (.cells #[.int .i64 kq, .string sq, .int .i64 nq, .slice aq mq cq, .int .i64 uq, .int .i64 vq, .int .i64 kh, .string sh, .int .i64 nh, .slice ah mh ch, .int .i64 uh, .int .i64 vh, .int .i64 kb, .string sb, .int .i64 nb, .slice ab mb cb, .int .i64 ub, .int .i64 vb] 27)) = w16_1 at *
   have hq1 := sizeA ee
   replace HF := fA HF ee
   replace HBr := bA HBr ee
   replace HBs := bA HBs ee
   replace HBx := bA HBx ee
   replace HBp := bA HBp ee
   replace HBe := bA HBe ee
   replace HBu := bA HBu ee
   replace HBv := bA HBv ee
   replace HBu2 := bA HBu2 ee
   replace HBv2 := bA HBv2 ee
   replace HBu3 := bA HBu3 ee
   replace HBv3 := bA HBv3 ee
   have HBrow := nB ee (w13.heap.size + 2)
   clear ee
   generalize ee : (w16_1.drew) = w16 at *
   have hq2 := sizeD ee
   replace HF := fD HF ee
   replace HBr := bD HBr ee
   replace HBs := bD HBs ee
   replace HBx := bD HBx ee
   replace HBp := bD HBp ee
   replace HBe := bD HBe ee
   replace HBu := bD HBu ee
   replace HBv := bD HBv ee
   replace HBu2 := bD HBu2 ee
   replace HBv2 := bD HBv2 ee
   replace HBu3 := bD HBu3 ee
   replace HBv3 := bD HBv3 ee
   replace HBrow := bD HBrow ee
   clear ee
   have hsa16 : w16.heap.size = w13.heap.size + 3 := by omega
   clear hq1 hq2
   clear hI hZ
   have rc := kc6 HBr; have sc := kc6 HBs; have xc := kc6 HBx; have pc := kc2 HBp; have ec := kc6 HBe; have uc := kc6 HBu; have vc := kc6 HBv; have u2c := kc6 HBu2; have v2c := kc6 HBv2; have u3c := kc6 HBu3; have v3c := kc6 HBv3
   have hI := i012_01_01_01_012_0 w w2 w7 w10 w13 w16
   have hZ := i012_01_01_01_0123 w w2 w7 w10 w13
   refine takeA 6 (v := ?_) rfl ?_ ?_
   rotate_left
   · (intro w hSw; (try dsimp only at hSw); go_simp; try with_reducible rfl)
   try simp only [Act.put, pu1, pu2, pu3]
   refine callA 7 rfl fun K hK => ?_
   go_simp
   refine hK.out _ _ ?_ (fun hS42 => ?_)
   · exact (by (iterate 6 (refine Far.setCell (p := ⟨(w.heap.size + 1), _, none⟩) ?_ (.inl rfl) _)); exact hS41)
   clear hK K

   clear rc sc xc pc ec uc vc u2c v2c u3c v3c
   generalize ee : ((((((w16.setCell ⟨(w.heap.size + 1), 0, none⟩ (.slice aL n cap)).setCell ⟨(w.heap.size + 1), 1, none⟩ (.int .i64 (ib : Int))).setCell ⟨(w.heap.size + 1), 2, none⟩ (.int .i64 (deep : Int))).setCell ⟨(w.heap.size + 1), 3, none⟩ (.bool true)).setCell ⟨(w.heap.size + 1), 4, none⟩ (.int .i64 (nowT ts i).l)).setCell ⟨(w.heap.size + 1), 5, none⟩ (.int .i64 (nowT ts i).c)) = w17 at *
   have hsz17 := sizeS6 ee
   replace HF := fN6 HF ee
   replace HBr := bF6 HBr ee
   replace HBs := bS6 HBs ee
   replace HBx := bF6 HBx ee
   replace HBp := bF6 HBp ee
   replace HBe := bF6 HBe ee
   replace HBu := bF6 HBu ee
   replace HBv := bF6 HBv ee
   replace HBu2 := bF6 HBu2 ee
   replace HBv2 := bF6 HBv2 ee
   replace HBu3 := bF6 HBu3 ee
   replace HBv3 := bF6 HBv3 ee
   replace HBrow := bF6 HBrow ee
   clear ee
   clear hI hZ
   have rc := kc6 HBr; have sc := kc6 HBs; have xc := kc6 HBx; have pc := kc2 HBp; have ec := kc6 HBe; have uc := kc6 HBu; have vc := kc6 HBv; have u2c := kc6 HBu2; have v2c := kc6 HBv2; have u3c := kc6 HBu3; have v3c := kc6 HBv3
   have hI := i012_01_01_01_012_0 w w2 w7 w10 w13 w17
   have hZ := i012_01_01_01_0123 w w2 w7 w10 w13
   refine callA 8 rfl fun K hK => ?_
   go_simp
   refine hK.out _ _ ?_ (fun hS43 => ?_)
   · exact (by (iterate 6 (refine Far.setCell (p := ⟨(w.heap.size + 2), _, none⟩) ?_ (.inr rfl) _)); exact hS42)
   clear hK K
   refine wpAnyH_done (by kernel_rfl) ?_ _

   clear rc sc xc pc ec uc vc u2c v2c u3c v3c
   generalize ee : World.setCell _ ⟨(w.heap.size + 2), 5, none⟩ _ = w18
   have hsz18 := sizeS6 ee
   replace HF := fN6 HF ee
   replace HBr := bF6 HBr ee
   replace HBs := bF6 HBs ee
   replace HBx := bS6 HBx ee
   replace HBp := bF6 HBp ee
   replace HBe := bF6 HBe ee
   replace HBu := bF6 HBu ee
   replace HBv := bF6 HBv ee
   replace HBu2 := bF6 HBu2 ee
   replace HBv2 := bF6 HBv2 ee
   replace HBu3 := bF6 HBu3 ee
   replace HBv3 := bF6 HBv3 ee
   replace HBrow := bF6 HBrow ee
   clear ee
   clear hI hZ
   go_wp2_with (fail)
   have z := kc6 HBs; have y := kc6 HBx
   refine bodyPost_ret (v := .tuple #[.agg #[.slice aL n cap, .int .i64 (ib : Int), .int .i64 (deep : Int), .bool true, .int .i64 (nowT ts i).l, .int .i64 (nowT ts i).c], .agg #[.int .i64 6, .string ⟨#[]⟩, .int .i64 0, .slice (some ⟨w13.heap.size + 2, 0, none⟩) 3 3, .int .i64 (nowT ts i).l, .int .i64 (nowT ts i).c]]) (by clear HF H HBr HBs HBx HBp HBe HBu HBv HBu2 HBv2 HBu3 HBv3 HBrow; simp [results, Try.results14, go_sem, z, y]) rfl ?_
   exact ⟨_, _, _, _, _, _, _, _, _, _, rfl, refBelow HF.out⟩
  ·
   go_simp
   refine hK.out _ _ ?_ (fun hS41 => ?_)
   · exact (by refine Far.trans ?_ (Far.of (below_drew _)); (iterate 6 (refine Far.setCell (p := ⟨(w.heap.size + 1), _, none⟩) ?_ (.inl rfl) _)); exact Far.refl _ _)
   clear hK K
   clear rc sc xc pc ec uc vc u2c v2c u3c v3c
   generalize ee : ((((((w15.setCell ⟨(w.heap.size + 1), 0, none⟩ (.slice aL n cap)).setCell ⟨(w.heap.size + 1), 1, none⟩ (.int .i64 (ib : Int))).setCell ⟨(w.heap.size + 1), 2, none⟩ (.int .i64 (deep : Int))).setCell ⟨(w.heap.size + 1), 3, none⟩ (.bool true)).setCell ⟨(w.heap.size + 1), 4, none⟩ (.int .i64 (nowT ts i).l)).setCell ⟨(w.heap.size + 1), 5, none⟩ (.int .i64 (nowT ts i).c)) = w16_1 at *
   have hq1 := sizeS6 ee
   replace HF := fN6 HF ee
   replace HBr := bF6 HBr ee
   replace HBs := bS6 HBs ee
   replace HBx := bF6 HBx ee
   replace HBp := bF6 HBp ee
   replace HBe := bF6 HBe ee
   replace HBu := bF6 HBu ee
   replace HBv := bF6 HBv ee
   replace HBu2 := bF6 HBu2 ee
   replace HBv2 := bF6 HBv2 ee
   replace HBu3 := bF6 HBu3 ee
   replace HBv3 := bF6 HBv3 ee
   clear ee
   generalize ee : (w16_1.drew) = w16 at *
   have hq2 := sizeD ee
   replace HF := fD HF ee
   replace HBr := bD HBr ee
   replace HBs := bD HBs ee
   replace HBx := bD HBx ee
   replace HBp := bD HBp ee
   replace HBe := bD HBe ee
   replace HBu := bD HBu ee
   replace HBv := bD HBv ee
   replace HBu2 := bD HBu2 ee
   replace HBv2 := bD HBv2 ee
   replace HBu3 := bD HBu3 ee
   replace HBv3 := bD HBv3 ee
   clear ee
   have hsa16 : w16.heap.size = w13.heap.size + 2 := by omega
   clear hq1 hq2
   clear hI hZ
   have rc := kc6 HBr; have sc := kc6 HBs; have xc := kc6 HBx; have pc := kc2 HBp; have ec := kc6 HBe; have uc := kc6 HBu; have vc := kc6 HBv; have u2c := kc6 HBu2; have v2c := kc6 HBv2; have u3c := kc6 HBu3; have v3c := kc6 HBv3
   have hI := i012_01_01_01_01_0 w w2 w7 w10 w13 w16
   have hZ := i012_01_01_01_012 w w2 w7 w10 w13
   refine callA 4 rfl fun K hK => ?_
   go_simp
   refine hK.out _ _ ?_ (fun hS42 => ?_)
   · exact Far.trans hS41 (Far.of (below_new _ _))
   clear hK K

   clear rc sc xc pc ec uc vc u2c v2c u3c v3c
   generalize ee : (w16.alloc (.cells #[.int .i64 kq, .string sq, .int .i64 nq, .slice aq mq cq, .int .i64 uq, .int .i64 vq, .int .i64 kh, .string sh, .int .i64 nh, .slice ah mh ch, .int .i64 uh, .int .i64 vh, .int .i64 kb, .string sb, .int .i64 nb, .slice ab mb cb, .int .i64 ub, .int .i64 vb] 27)) = w17 at *
   have hsa17 := sizeA ee
   replace HF := fA HF ee
   replace HBr := bA HBr ee
   replace HBs := bA HBs ee
   replace HBx := bA HBx ee
   replace HBp := bA HBp ee
   replace HBe := bA HBe ee
   replace HBu := bA HBu ee
   replace HBv := bA HBv ee
   replace HBu2 := bA HBu2 ee
   replace HBv2 := bA HBv2 ee
   replace HBu3 := bA HBu3 ee
   replace HBv3 := bA HBv3 ee
   have HBrow := nB ee (w13.heap.size + 2)
   clear ee
   clear hI hZ
   have rc := kc6 HBr; have sc := kc6 HBs; have xc := kc6 HBx; have pc := kc2 HBp; have ec := kc6 HBe; have uc := kc6 HBu; have vc := kc6 HBv; have u2c := kc6 HBu2; have v2c := kc6 HBv2; have u3c := kc6 HBu3; have v3c := kc6 HBv3
   have hI := i012_01_01_01_012_0 w w2 w7 w10 w13 w17
   have hZ := i012_01_01_01_0123 w w2 w7 w10 w13
   refine takeA 6 (v := ?_) rfl ?_ ?_
   rotate_left
   · (intro w hSw; (try dsimp only at hSw); go_simp; try with_reducible rfl)
   try simp only [Act.put, pu1, pu2, pu3]
   refine callA 8 rfl fun K hK => ?_
   go_simp
   refine hK.out _ _ ?_ (fun hS43 => ?_)
   · exact (by (iterate 6 (refine Far.setCell (p := ⟨(w.heap.size + 2), _, none⟩) ?_ (.inr rfl) _)); exact hS42)
   clear hK K
   refine wpAnyH_done (by kernel_rfl) ?_ _

   clear rc sc xc pc ec uc vc u2c v2c u3c v3c
   generalize ee : World.setCell _ ⟨(w.heap.size + 2), 5, none⟩ _ = w18
   have hsz18 := sizeS6 ee
   replace HF := fN6 HF ee
   replace HBr := bF6 HBr ee
   replace HBs := bF6 HBs ee
   replace HBx := bS6 HBx ee
   replace HBp := bF6 HBp ee
   replace HBe := bF6 HBe ee
   replace HBu := bF6 HBu ee
   replace HBv := bF6 HBv ee
   replace HBu2 := bF6 HBu2 ee
   replace HBv2 := bF6 HBv2 ee
   replace HBu3 := bF6 HBu3 ee
   replace HBv3 := bF6 HBv3 ee
   replace HBrow := bF6 HBrow ee
   clear ee
   clear hI hZ
   go_wp2_with (fail)
   have z := kc6 HBs; have y := kc6 HBx
   refine bodyPost_ret (v := .tuple #[.agg #[.slice aL n cap, .int .i64 (ib : Int), .int .i64 (deep : Int), .bool true, .int .i64 (nowT ts i).l, .int .i64 (nowT ts i).c], .agg #[.int .i64 6, .string ⟨#[]⟩, .int .i64 0, .slice (some ⟨w13.heap.size + 2, 0, none⟩) 3 3, .int .i64 (nowT ts i).l, .int .i64 (nowT ts i).c]]) (by clear HF H HBr HBs HBx HBp HBe HBu HBv HBu2 HBv2 HBu3 HBv3 HBrow; simp [results, Try.results14, go_sem, z, y]) rfl ?_
   exact ⟨_, _, _, _, _, _, _, _, _, _, rfl, refBelow HF.out⟩
 rw [if_neg h40] at hr
 have hil : i < ts.length := isT_lt hif (by decide)
 have hd1 : deep + 1 ≤ 40 := by omega
 clear rc sc xc pc ec
 refine (downR_ok2 _ (refTok HF.out H.out) (by omega) hil).mono ?_
 rintro _ w6 ⟨rfl, hb⟩
 replace HBr := kB HBr hb
 replace HBs := kB HBs hb
 replace HBx := kB HBx hb
 replace HBp := kB HBp hb
 replace HBe := kB HBe hb
 replace HF := kF HF hb
 have hs6 := hb.size
 clear hb
 simp only [rdV]
 clear hI
 have rc := kc6 HBr; have sc := kc6 HBs; have xc := kc6 HBx; have pc := kc2 HBp; have ec := kc6 HBe
 have hI := i012_01_0 w w2 w6
 go_wp2_with (fail)
 rcases hx : readE ts f .expr (i + 1) (deep + 1) with _ | ⟨x, j⟩ | ⟨l_, c_⟩
 · (rw [hx] at hr; cases hr)
 rotate_left
 ·
  rw [hx] at hr
  first | simp only at hr | simp only [andT] at hr
  cases hr
  clear rc sc xc pc ec
  refine (HE (i + 1) (deep + 1) _ _ _ _ hd1 (refTok HF.out H.out) hn hx).mono ?_
  rintro _ w7 ⟨iq, dq, kq, sq, nq, aq, mq, cq, uq, vq, rfl, hb⟩
  replace HBr := kB HBr hb
  replace HBs := kB HBs hb
  replace HBx := kB HBx hb
  replace HBp := kB HBp hb
  replace HBe := kB HBe hb
  replace HF := kF HF hb
  have hs7 := hb.size
  clear hb
  simp only [rdV]
  clear hI
  have rc := kc6 HBr; have sc := kc6 HBs; have xc := kc6 HBx; have pc := kc2 HBp; have ec := kc6 HBe
  have hI := i012_01_0 w w2 w7
  go_upto_region 22 with (fail)
  clear rc sc xc pc ec
  generalize ee : World.alloc w7 _ = w8_1
  have hq1 := sizeA ee
  replace HF := fA HF ee
  replace HBr := bA HBr ee
  replace HBs := bA HBs ee
  replace HBx := bA HBx ee
  replace HBp := bA HBp ee
  replace HBe := bA HBe ee
  have HBu := nB ee (w7.heap.size)
  clear ee
  generalize ee : World.alloc w8_1 _ = w8
  have hq2 := sizeA ee
  replace HF := fA HF ee
  replace HBr := bA HBr ee
  replace HBs := bA HBs ee
  replace HBx := bA HBx ee
  replace HBp := bA HBp ee
  replace HBe := bA HBe ee
  replace HBu := bA HBu ee
  have HBv := nB ee (w7.heap.size + 1)
  clear ee
  have hsa8 : w8.heap.size = w7.heap.size + 2 := by omega
  clear hq1 hq2
  clear hI
  have rc := kc6 HBr; have sc := kc6 HBs; have xc := kc6 HBx; have pc := kc2 HBp; have ec := kc6 HBe; have uc := kc6 HBu; have vc := kc6 HBv
  have hI := i012_01_01_0 w w2 w7 w8
  have hZ := i012_01_012 w w2 w7
  go_wp2_with (fail)
  clear rc sc xc pc ec uc vc
  refine (takeR_bad (i := iq) _ (refTok HF.out H.out)).mono ?_
  rintro _ w9 ⟨rfl, hb⟩
  replace HBr := kB HBr hb
  replace HBs := kB HBs hb
  replace HBx := kB HBx hb
  replace HBp := kB HBp hb
  replace HBe := kB HBe hb
  replace HBu := kB HBu hb
  replace HBv := kB HBv hb
  replace HF := kF HF hb
  have hs9 := hb.size
  clear hb
  simp only [rdV]
  clear hI hZ
  have rc := kc6 HBr; have sc := kc6 HBs; have xc := kc6 HBx; have pc := kc2 HBp; have ec := kc6 HBe; have uc := kc6 HBu; have vc := kc6 HBv
  have hI := i012_01_01_0 w w2 w7 w9
  go_wp2_with (fail)
  clear rc sc xc pc ec uc vc
  refine (exprR_bad (i := iq) _ (refTok HF.out H.out)).mono ?_
  rintro _ w10 ⟨ih, dh, kh, sh, nh, ah, mh, ch, uh, vh, rfl, hb⟩
  replace HBr := kB HBr hb
  replace HBs := kB HBs hb
  replace HBx := kB HBx hb
  replace HBp := kB HBp hb
  replace HBe := kB HBe hb
  replace HBu := kB HBu hb
  replace HBv := kB HBv hb
  replace HF := kF HF hb
  have hs10 := hb.size
  clear hb
  simp only [rdV]
  clear hI
  have rc := kc6 HBr; have sc := kc6 HBs; have xc := kc6 HBx; have pc := kc2 HBp; have ec := kc6 HBe; have uc := kc6 HBu; have vc := kc6 HBv
  have hI := i012_01_01_0 w w2 w7 w10
  go_upto_region 23 with (fail)
  clear rc sc xc pc ec uc vc
  generalize ee : World.alloc w10 _ = w11_1
  have hq1 := sizeA ee
  replace HF := fA HF ee
  replace HBr := bA HBr ee
  replace HBs := bA HBs ee
  replace HBx := bA HBx ee
  replace HBp := bA HBp ee
  replace HBe := bA HBe ee
  replace HBu := bA HBu ee
  replace HBv := bA HBv ee
  have HBu2 := nB ee (w10.heap.size)
  clear ee
  generalize ee : World.alloc w11_1 _ = w11
  have hq2 := sizeA ee
  replace HF := fA HF ee
  replace HBr := bA HBr ee
  replace HBs := bA HBs ee
  replace HBx := bA HBx ee
  replace HBp := bA HBp ee
  replace HBe := bA HBe ee
  replace HBu := bA HBu ee
  replace HBv := bA HBv ee
  replace HBu2 := bA HBu2 ee
  have HBv2 := nB ee (w10.heap.size + 1)
  clear ee
  have hsa11 : w11.heap.size = w10.heap.size + 2 := by omega
  clear hq1 hq2
  clear hI
  have rc := kc6 HBr; have sc := kc6 HBs; have xc := kc6 HBx; have pc := kc2 HBp; have ec := kc6 HBe; have uc := kc6 HBu; have vc := kc6 HBv; have u2c := kc6 HBu2; have v2c := kc6 HBv2
  have hI := i012_01_01_01_0 w w2 w7 w10 w11
  have hZ := i012_01_01_012 w w2 w7 w10
  go_wp2_with (fail)
  clear rc sc xc pc ec uc vc u2c v2c
  refine (takeR_bad (i := ih) _ (refTok HF.out H.out)).mono ?_
  rintro _ w12 ⟨rfl, hb⟩
  replace HBr := kB HBr hb
  replace HBs := kB HBs hb
  replace HBx := kB HBx hb
  replace HBp := kB HBp hb
  replace HBe := kB HBe hb
  replace HBu := kB HBu hb
  replace HBv := kB HBv hb
  replace HBu2 := kB HBu2 hb
  replace HBv2 := kB HBv2 hb
  replace HF := kF HF hb
  have hs12 := hb.size
  clear hb
  simp only [rdV]
  clear hI hZ
  have rc := kc6 HBr; have sc := kc6 HBs; have xc := kc6 HBx; have pc := kc2 HBp; have ec := kc6 HBe; have uc := kc6 HBu; have vc := kc6 HBv; have u2c := kc6 HBu2; have v2c := kc6 HBv2
  have hI := i012_01_01_01_0 w w2 w7 w10 w12
  go_wp2_with (fail)
  clear rc sc xc pc ec uc vc u2c v2c
  refine (exprR_bad (i := ih) _ (refTok HF.out H.out)).mono ?_
  rintro _ w13 ⟨ib, db, kb, sb, nb, ab, mb, cb, ub, vb, rfl, hb⟩
  replace HBr := kB HBr hb
  replace HBs := kB HBs hb
  replace HBx := kB HBx hb
  replace HBp := kB HBp hb
  replace HBe := kB HBe hb
  replace HBu := kB HBu hb
  replace HBv := kB HBv hb
  replace HBu2 := kB HBu2 hb
  replace HBv2 := kB HBv2 hb
  replace HF := kF HF hb
  have hs13 := hb.size
  clear hb
  simp only [rdV]
  clear hI
  have rc := kc6 HBr; have sc := kc6 HBs; have xc := kc6 HBx; have pc := kc2 HBp; have ec := kc6 HBe; have uc := kc6 HBu; have vc := kc6 HBv; have u2c := kc6 HBu2; have v2c := kc6 HBv2
  have hI := i012_01_01_01_0 w w2 w7 w10 w13
  go_upto_region 24 with (fail)
  clear rc sc xc pc ec uc vc u2c v2c
  generalize ee : World.alloc w13 _ = w14_1
  have hq1 := sizeA ee
  replace HF := fA HF ee
  replace HBr := bA HBr ee
  replace HBs := bA HBs ee
  replace HBx := bA HBx ee
  replace HBp := bA HBp ee
  replace HBe := bA HBe ee
  replace HBu := bA HBu ee
  replace HBv := bA HBv ee
  replace HBu2 := bA HBu2 ee
  replace HBv2 := bA HBv2 ee
  have HBu3 := nB ee (w13.heap.size)
  clear ee
  generalize ee : World.alloc w14_1 _ = w14
  have hq2 := sizeA ee
  replace HF := fA HF ee
  replace HBr := bA HBr ee
  replace HBs := bA HBs ee
  replace HBx := bA HBx ee
  replace HBp := bA HBp ee
  replace HBe := bA HBe ee
  replace HBu := bA HBu ee
  replace HBv := bA HBv ee
  replace HBu2 := bA HBu2 ee
  replace HBv2 := bA HBv2 ee
  replace HBu3 := bA HBu3 ee
  have HBv3 := nB ee (w13.heap.size + 1)
  clear ee
  have hsa14 : w14.heap.size = w13.heap.size + 2 := by omega
  clear hq1 hq2
  clear hI
  have rc := kc6 HBr; have sc := kc6 HBs; have xc := kc6 HBx; have pc := kc2 HBp; have ec := kc6 HBe; have uc := kc6 HBu; have vc := kc6 HBv; have u2c := kc6 HBu2; have v2c := kc6 HBv2; have u3c := kc6 HBu3; have v3c := kc6 HBv3
  have hI := i012_01_01_01_01_0 w w2 w7 w10 w13 w14
  have hZ := i012_01_01_01_012 w w2 w7 w10 w13
  go_wp2_with (fail)
  clear rc sc xc pc ec uc vc u2c v2c u3c v3c
  generalize ee : World.setCell w14 _ _ = w15
  have hsz15 := sizeS1 ee
  replace HF := fN1 HF ee
  replace HBr := bF1 HBr ee
  replace HBs := bF1 HBs ee
  replace HBx := bF1 HBx ee
  replace HBp := bF1 HBp ee
  replace HBe := bF1 HBe ee
  replace HBu := bF1 HBu ee
  replace HBv := bF1 HBv ee
  replace HBu2 := bF1 HBu2 ee
  replace HBv2 := bF1 HBv2 ee
  replace HBu3 : Hid (Bo w15 w13.heap.size 47 #[.slice aL n cap, .int .i64 (ib : Int), .int .i64 (deep : Int), .bool true, .int .i64 l_, .int .i64 c_]) := Lib.hid (by rw [← ee]; exact HBu3.out.set 2 (.int .i64 (deep : Int)))
  replace HBv3 := bF1 HBv3 ee
  clear ee
  clear hI hZ
  have rc := kc6 HBr; have sc := kc6 HBs; have xc := kc6 HBx; have pc := kc2 HBp; have ec := kc6 HBe; have uc := kc6 HBu; have vc := kc6 HBv; have u2c := kc6 HBu2; have v2c := kc6 HBv2; have u3c := kc6 HBu3; have v3c := kc6 HBv3
  have hI := i012_01_01_01_01_0 w w2 w7 w10 w13 w15
  have hZ := i012_01_01_01_012 w w2 w7 w10 w13
  refine wp_region_held_drew (S := fun w' => Far (fun b => b = (w.heap.size + 1) ∨ b = (w.heap.size + 2)) (w15) w') (by kernel_rfl) (Far.of (below_drew _)) (fun hS40 => ?_)
  refine takeA 0 (v := ?_) rfl ?_ ?_
  rotate_left
  · (intro w hSw; (try dsimp only at hSw); replace u3c := Far.c6z u3c hSw; replace vc := Far.c6z vc hSw; replace v2c := Far.c6z v2c hSw; replace v3c := Far.c6z v3c hSw; replace pc := Far.c2z pc hSw; go_simp; try with_reducible rfl)
  try simp only [Act.put, pu1, pu2, pu3]
  refine takeA 1 (v := ?_) rfl ?_ ?_
  rotate_left
  · (intro w hSw; (try dsimp only at hSw); replace u3c := Far.c6z u3c hSw; replace vc := Far.c6z vc hSw; replace v2c := Far.c6z v2c hSw; replace v3c := Far.c6z v3c hSw; replace pc := Far.c2z pc hSw; go_simp; try with_reducible rfl)
  try simp only [Act.put, pu1, pu2, pu3]
  refine takeA 2 (v := ?_) rfl ?_ ?_
  rotate_left
  · (intro w hSw; (try dsimp only at hSw); replace u3c := Far.c6z u3c hSw; replace vc := Far.c6z vc hSw; replace v2c := Far.c6z v2c hSw; replace v3c := Far.c6z v3c hSw; replace pc := Far.c2z pc hSw; go_simp; try with_reducible rfl)
  try simp only [Act.put, pu1, pu2, pu3]
  refine takeA 3 (v := ?_) rfl ?_ ?_
  rotate_left
  · (intro w hSw; (try dsimp only at hSw); replace u3c := Far.c6z u3c hSw; replace vc := Far.c6z vc hSw; replace v2c := Far.c6z v2c hSw; replace v3c := Far.c6z v3c hSw; replace pc := Far.c2z pc hSw; go_simp; try with_reducible rfl)
  try simp only [Act.put, pu1, pu2, pu3]
  refine takeA 5 (v := ?_) rfl ?_ ?_
  rotate_left
  · (intro w hSw; (try dsimp only at hSw); replace u3c := Far.c6z u3c hSw; replace vc := Far.c6z vc hSw; replace v2c := Far.c6z v2c hSw; replace v3c := Far.c6z v3c hSw; replace pc := Far.c2z pc hSw; go_simp; try with_reducible rfl)
  try simp only [Act.put, pu1, pu2, pu3]

  refine twoL 4 7 rfl rfl (by kernel_rfl) (by rfl) (by rfl) (fun K hK => ?_) (fun K hK => ?_)
  ·
   go_simp
   refine hK.out _ _ ?_ (fun hS41 => ?_)
   · exact Far.trans (Far.of (below_new _ _)) (Far.of (below_drew _))
   clear hK K
   clear rc sc xc pc ec uc vc u2c v2c u3c v3c
   generalize ee : (w15.alloc (.cells #[.int .i64 kq, .string sq, .int .i64 nq, .slice aq mq cq, .int .i64 uq, .int .i64 vq, .int .i64 kh, .string sh, .int .i64 nh, .slice ah mh ch, .int .i64 uh, .int .i64 vh, .int .i64 kb, .string sb, .int .i64 nb, .slice ab mb cb, .int .i64 ub, .int .i64 vb] 27)) = w16_1 at *
   have hq1 := sizeA ee
   replace HF := fA HF ee
   replace HBr := bA HBr ee
   replace HBs := bA HBs ee
   replace HBx := bA HBx ee
   replace HBp := bA HBp ee
   replace HBe := bA HBe ee
   replace HBu := bA HBu ee
   replace HBv := bA HBv ee
   replace HBu2 := bA HBu2 ee
   replace HBv2 := bA HBv2 ee
   replace HBu3 := bA HBu3 ee
   replace HBv3 := bA HBv3 ee
   have HBrow := nB ee (w13.heap.size + 2)
   clear ee
   generalize ee : (w16_1.drew) = w16 at *
   have hq2 := sizeD ee
   replace HF := fD HF ee
   replace HBr := bD HBr ee
   replace HBs := bD HBs ee
   replace HBx := bD HBx ee
   replace HBp := bD HBp ee
   replace HBe := bD HBe ee
   replace HBu := bD HBu ee
   replace HBv := bD HBv ee
   replace HBu2 := bD HBu2 ee
   replace HBv2 := bD HBv2 ee
   replace HBu3 := bD HBu3 ee
   replace HBv3 := bD HBv3 ee
   replace HBrow := bD HBrow ee
   clear ee
   have hsa16 : w16.heap.size = w13.heap.size + 3 := by omega
   clear hq1 hq2
   clear hI hZ
   have rc := kc6 HBr; have sc := kc6 HBs; have xc := kc6 HBx; have pc := kc2 HBp; have ec := kc6 HBe; have uc := kc6 HBu; have vc := kc6 HBv; have u2c := kc6 HBu2; have v2c := kc6 HBv2; have u3c := kc6 HBu3; have v3c := kc6 HBv3
   have hI := i012_01_01_01_012_0 w w2 w7 w10 w13 w16
   have hZ := i012_01_01_01_0123 w w2 w7 w10 w13
   refine takeA 6 (v := ?_) rfl ?_ ?_
   rotate_left
   · (intro w hSw; (try dsimp only at hSw); go_simp; try with_reducible rfl)
   try simp only [Act.put, pu1, pu2, pu3]
   refine callA 7 rfl fun K hK => ?_
   go_simp
   refine hK.out _ _ ?_ (fun hS42 => ?_)
   · exact (by (iterate 6 (refine Far.setCell (p := ⟨(w.heap.size + 1), _, none⟩) ?_ (.inl rfl) _)); exact hS41)
   clear hK K

   clear rc sc xc pc ec uc vc u2c v2c u3c v3c
   generalize ee : ((((((w16.setCell ⟨(w.heap.size + 1), 0, none⟩ (.slice aL n cap)).setCell ⟨(w.heap.size + 1), 1, none⟩ (.int .i64 (ib : Int))).setCell ⟨(w.heap.size + 1), 2, none⟩ (.int .i64 (deep : Int))).setCell ⟨(w.heap.size + 1), 3, none⟩ (.bool true)).setCell ⟨(w.heap.size + 1), 4, none⟩ (.int .i64 l_)).setCell ⟨(w.heap.size + 1), 5, none⟩ (.int .i64 c_)) = w17 at *
   have hsz17 := sizeS6 ee
   replace HF := fN6 HF ee
   replace HBr := bF6 HBr ee
   replace HBs := bS6 HBs ee
   replace HBx := bF6 HBx ee
   replace HBp := bF6 HBp ee
   replace HBe := bF6 HBe ee
   replace HBu := bF6 HBu ee
   replace HBv := bF6 HBv ee
   replace HBu2 := bF6 HBu2 ee
   replace HBv2 := bF6 HBv2 ee
   replace HBu3 := bF6 HBu3 ee
   replace HBv3 := bF6 HBv3 ee
   replace HBrow := bF6 HBrow ee
   clear ee
   clear hI hZ
   have rc := kc6 HBr; have sc := kc6 HBs; have xc := kc6 HBx; have pc := kc2 HBp; have ec := kc6 HBe; have uc := kc6 HBu; have vc := kc6 HBv; have u2c := kc6 HBu2; have v2c := kc6 HBv2; have u3c := kc6 HBu3; have v3c := kc6 HBv3
   have hI := i012_01_01_01_012_0 w w2 w7 w10 w13 w17
   have hZ := i012_01_01_01_0123 w w2 w7 w10 w13
   refine callA 8 rfl fun K hK => ?_
   go_simp
   refine hK.out _ _ ?_ (fun hS43 => ?_)
   · exact (by (iterate 6 (refine Far.setCell (p := ⟨(w.heap.size + 2), _, none⟩) ?_ (.inr rfl) _)); exact hS42)
   clear hK K
   refine wpAnyH_done (by kernel_rfl) ?_ _

   clear rc sc xc pc ec uc vc u2c v2c u3c v3c
   generalize ee : World.setCell _ ⟨(w.heap.size + 2), 5, none⟩ _ = w18
   have hsz18 := sizeS6 ee
   replace HF := fN6 HF ee
   replace HBr := bF6 HBr ee
   replace HBs := bF6 HBs ee
   replace HBx := bS6 HBx ee
   replace HBp := bF6 HBp ee
   replace HBe := bF6 HBe ee
   replace HBu := bF6 HBu ee
   replace HBv := bF6 HBv ee
   replace HBu2 := bF6 HBu2 ee
   replace HBv2 := bF6 HBv2 ee
   replace HBu3 := bF6 HBu3 ee
   replace HBv3 := bF6 HBv3 ee
   replace HBrow := bF6 HBrow ee
   clear ee
   clear hI hZ
   go_wp2_with (fail)
   have z := kc6 HBs; have y := kc6 HBx
   refine bodyPost_ret (v := .tuple #[.agg #[.slice aL n cap, .int .i64 (ib : Int), .int .i64 (deep : Int), .bool true, .int .i64 l_, .int .i64 c_], .agg #[.int .i64 6, .string ⟨#[]⟩, .int .i64 0, .slice (some ⟨w13.heap.size + 2, 0, none⟩) 3 3, .int .i64 (nowT ts i).l, .int .i64 (nowT ts i).c]]) (by clear HF H HBr HBs HBx HBp HBe HBu HBv HBu2 HBv2 HBu3 HBv3 HBrow; simp [results, Try.results14, go_sem, z, y]) rfl ?_
   exact ⟨_, _, _, _, _, _, _, _, _, _, rfl, refBelow HF.out⟩
  ·
   go_simp
   refine hK.out _ _ ?_ (fun hS41 => ?_)
   · exact (by refine Far.trans ?_ (Far.of (below_drew _)); (iterate 6 (refine Far.setCell (p := ⟨(w.heap.size + 1), _, none⟩) ?_ (.inl rfl) _)); exact Far.refl _ _)
   clear hK K
   clear rc sc xc pc ec uc vc u2c v2c u3c v3c
   generalize ee : ((((((w15.setCell ⟨(w.heap.size + 1), 0, none⟩ (.slice aL n cap)).setCell ⟨(w.heap.size + 1), 1, none⟩ (.int .i64 (ib : Int))).setCell ⟨(w.heap.size + 1), 2, none⟩ (.int .i64 (deep : Int))).setCell ⟨(w.heap.size + 1), 3, none⟩ (.bool true)).setCell ⟨(w.heap.size + 1), 4, none⟩ (.int .i64 l_)).setCell ⟨(w.heap.size + 1), 5, none⟩ (.int .i64 c_)) = w16_1 at *
   have hq1 := sizeS6 ee
   replace HF := fN6 HF ee
   replace HBr := bF6 HBr ee
   replace HBs := bS6 HBs ee
   replace HBx := bF6 HBx ee
   replace HBp := bF6 HBp ee
   replace HBe := bF6 HBe ee
   replace HBu := bF6 HBu ee
   replace HBv := bF6 HBv ee
   replace HBu2 := bF6 HBu2 ee
   replace HBv2 := bF6 HBv2 ee
   replace HBu3 := bF6 HBu3 ee
   replace HBv3 := bF6 HBv3 ee
   clear ee
   generalize ee : (w16_1.drew) = w16 at *
   have hq2 := sizeD ee
   replace HF := fD HF ee
   replace HBr := bD HBr ee
   replace HBs := bD HBs ee
   replace HBx := bD HBx ee
   replace HBp := bD HBp ee
   replace HBe := bD HBe ee
   replace HBu := bD HBu ee
   replace HBv := bD HBv ee
   replace HBu2 := bD HBu2 ee
   replace HBv2 := bD HBv2 ee
   replace HBu3 := bD HBu3 ee
   replace HBv3 := bD HBv3 ee
   clear ee
   have hsa16 : w16.heap.size = w13.heap.size + 2 := by omega
   clear hq1 hq2
   clear hI hZ
   have rc := kc6 HBr; have sc := kc6 HBs; have xc := kc6 HBx; have pc := kc2 HBp; have ec := kc6 HBe; have uc := kc6 HBu; have vc := kc6 HBv; have u2c := kc6 HBu2; have v2c := kc6 HBv2; have u3c := kc6 HBu3; have v3c := kc6 HBv3
   have hI := i012_01_01_01_01_0 w w2 w7 w10 w13 w16
   have hZ := i012_01_01_01_012 w w2 w7 w10 w13
   refine callA 4 rfl fun K hK => ?_
   go_simp
   refine hK.out _ _ ?_ (fun hS42 => ?_)
   · exact Far.trans hS41 (Far.of (below_new _ _))
   clear hK K

   clear rc sc xc pc ec uc vc u2c v2c u3c v3c
   generalize ee : (w16.alloc (.cells #[.int .i64 kq, .string sq, .int .i64 nq, .slice aq mq cq, .int .i64 uq, .int .i64 vq, .int .i64 kh, .string sh, .int .i64 nh, .slice ah mh ch, .int .i64 uh, .int .i64 vh, .int .i64 kb, .string sb, .int .i64 nb, .slice ab mb cb, .int .i64 ub, .int .i64 vb] 27)) = w17 at *
   have hsa17 := sizeA ee
   replace HF := fA HF ee
   replace HBr := bA HBr ee
   replace HBs := bA HBs ee
   replace HBx := bA HBx ee
   replace HBp := bA HBp ee
   replace HBe := bA HBe ee
   replace HBu := bA HBu ee
   replace HBv := bA HBv ee
   replace HBu2 := bA HBu2 ee
   replace HBv2 := bA HBv2 ee
   replace HBu3 := bA HBu3 ee
   replace HBv3 := bA HBv3 ee
   have HBrow := nB ee (w13.heap.size + 2)
   clear ee
   clear hI hZ
   have rc := kc6 HBr; have sc := kc6 HBs; have xc := kc6 HBx; have pc := kc2 HBp; have ec := kc6 HBe; have uc := kc6 HBu; have vc := kc6 HBv; have u2c := kc6 HBu2; have v2c := kc6 HBv2; have u3c := kc6 HBu3; have v3c := kc6 HBv3
   have hI := i012_01_01_01_012_0 w w2 w7 w10 w13 w17
   have hZ := i012_01_01_01_0123 w w2 w7 w10 w13
   refine takeA 6 (v := ?_) rfl ?_ ?_
   rotate_left
   · (intro w hSw; (try dsimp only at hSw); go_simp; try with_reducible rfl)
   try simp only [Act.put, pu1, pu2, pu3]
   refine callA 8 rfl fun K hK => ?_
   go_simp
   refine hK.out _ _ ?_ (fun hS43 => ?_)
   · exact (by (iterate 6 (refine Far.setCell (p := ⟨(w.heap.size + 2), _, none⟩) ?_ (.inr rfl) _)); exact hS42)
   clear hK K
   refine wpAnyH_done (by kernel_rfl) ?_ _

   clear rc sc xc pc ec uc vc u2c v2c u3c v3c
   generalize ee : World.setCell _ ⟨(w.heap.size + 2), 5, none⟩ _ = w18
   have hsz18 := sizeS6 ee
   replace HF := fN6 HF ee
   replace HBr := bF6 HBr ee
   replace HBs := bF6 HBs ee
   replace HBx := bS6 HBx ee
   replace HBp := bF6 HBp ee
   replace HBe := bF6 HBe ee
   replace HBu := bF6 HBu ee
   replace HBv := bF6 HBv ee
   replace HBu2 := bF6 HBu2 ee
   replace HBv2 := bF6 HBv2 ee
   replace HBu3 := bF6 HBu3 ee
   replace HBv3 := bF6 HBv3 ee
   replace HBrow := bF6 HBrow ee
   clear ee
   clear hI hZ
   go_wp2_with (fail)
   have z := kc6 HBs; have y := kc6 HBx
   refine bodyPost_ret (v := .tuple #[.agg #[.slice aL n cap, .int .i64 (ib : Int), .int .i64 (deep : Int), .bool true, .int .i64 l_, .int .i64 c_], .agg #[.int .i64 6, .string ⟨#[]⟩, .int .i64 0, .slice (some ⟨w13.heap.size + 2, 0, none⟩) 3 3, .int .i64 (nowT ts i).l, .int .i64 (nowT ts i).c]]) (by clear HF H HBr HBs HBx HBp HBe HBu HBv HBu2 HBv2 HBu3 HBv3 HBrow; simp [results, Try.results14, go_sem, z, y]) rfl ?_
   exact ⟨_, _, _, _, _, _, _, _, _, _, rfl, refBelow HF.out⟩
 rw [hx] at hr
 first | simp only at hr | simp only [andT] at hr
 clear rc sc xc pc ec
 refine (HE (i + 1) (deep + 1) _ _ _ _ hd1 (refTok HF.out H.out) hn hx).mono ?_
 rintro _ w7 ⟨ax, mx, cx, rfl, hb, hm⟩
 replace HBr := kB HBr hb
 replace HBs := kB HBs hb
 replace HBx := kB HBx hb
 replace HBp := kB HBp hb
 replace HBe := kB HBe hb
 replace HF := kF HF hb
 have hs7 := hb.size
 clear hb
 have HMx := Lib.hid hm
 clear hm
 simp only [rdV, exV]
 clear hI
 have rc := kc6 HBr; have sc := kc6 HBs; have xc := kc6 HBx; have pc := kc2 HBp; have ec := kc6 HBe
 have hI := i012_01_0 w w2 w7
 go_upto_region 22 with (fail)
 clear rc sc xc pc ec
 generalize ee : World.alloc w7 _ = w8_1
 have hq1 := sizeA ee
 replace HF := fA HF ee
 replace HBr := bA HBr ee
 replace HBs := bA HBs ee
 replace HBx := bA HBx ee
 replace HBp := bA HBp ee
 replace HBe := bA HBe ee
 replace HMx := mA HMx ee
 have HBu := nB ee (w7.heap.size)
 clear ee
 generalize ee : World.alloc w8_1 _ = w8
 have hq2 := sizeA ee
 replace HF := fA HF ee
 replace HBr := bA HBr ee
 replace HBs := bA HBs ee
 replace HBx := bA HBx ee
 replace HBp := bA HBp ee
 replace HBe := bA HBe ee
 replace HBu := bA HBu ee
 replace HMx := mA HMx ee
 have HBv := nB ee (w7.heap.size + 1)
 clear ee
 have hsa8 : w8.heap.size = w7.heap.size + 2 := by omega
 clear hq1 hq2
 clear hI
 have rc := kc6 HBr; have sc := kc6 HBs; have xc := kc6 HBx; have pc := kc2 HBp; have ec := kc6 HBe; have uc := kc6 HBu; have vc := kc6 HBv
 have hI := i012_01_01_0 w w2 w7 w8
 have hZ := i012_01_012 w w2 w7
 go_wp2_with (fail)
 rcases hth : isT ts j 5 wThen
 ·
  first | simp only [hth, Bool.false_eq_true, if_false] at hr | simp only [takeT, hth, Bool.false_eq_true, if_false] at hr
  cases hr
  clear rc sc xc pc ec uc vc
  refine (takeR_no _ (refTok HF.out H.out) hth).mono ?_
  rintro _ w9 ⟨rfl, hb⟩
  replace HBr := kB HBr hb
  replace HBs := kB HBs hb
  replace HBx := kB HBx hb
  replace HBp := kB HBp hb
  replace HBe := kB HBe hb
  replace HBu := kB HBu hb
  replace HBv := kB HBv hb
  replace HMx := kM HMx hb
  replace HF := kF HF hb
  have hs9 := hb.size
  clear hb
  simp only [rdV]
  clear hI hZ
  have rc := kc6 HBr; have sc := kc6 HBs; have xc := kc6 HBx; have pc := kc2 HBp; have ec := kc6 HBe; have uc := kc6 HBu; have vc := kc6 HBv
  have hI := i012_01_01_0 w w2 w7 w9
  go_wp2_with (fail)
  clear HMx
  clear rc sc xc pc ec uc vc
  refine (exprR_bad (i := j) _ (refTok HF.out H.out)).mono ?_
  rintro _ w10 ⟨ih, dh, kh, sh, nh, ah, mh, ch, uh, vh, rfl, hb⟩
  replace HBr := kB HBr hb
  replace HBs := kB HBs hb
  replace HBx := kB HBx hb
  replace HBp := kB HBp hb
  replace HBe := kB HBe hb
  replace HBu := kB HBu hb
  replace HBv := kB HBv hb
  replace HF := kF HF hb
  have hs10 := hb.size
  clear hb
  simp only [rdV]
  clear hI
  have rc := kc6 HBr; have sc := kc6 HBs; have xc := kc6 HBx; have pc := kc2 HBp; have ec := kc6 HBe; have uc := kc6 HBu; have vc := kc6 HBv
  have hI := i012_01_01_0 w w2 w7 w10
  go_upto_region 23 with (fail)
  clear rc sc xc pc ec uc vc
  generalize ee : World.alloc w10 _ = w11_1
  have hq1 := sizeA ee
  replace HF := fA HF ee
  replace HBr := bA HBr ee
  replace HBs := bA HBs ee
  replace HBx := bA HBx ee
  replace HBp := bA HBp ee
  replace HBe := bA HBe ee
  replace HBu := bA HBu ee
  replace HBv := bA HBv ee
  have HBu2 := nB ee (w10.heap.size)
  clear ee
  generalize ee : World.alloc w11_1 _ = w11
  have hq2 := sizeA ee
  replace HF := fA HF ee
  replace HBr := bA HBr ee
  replace HBs := bA HBs ee
  replace HBx := bA HBx ee
  replace HBp := bA HBp ee
  replace HBe := bA HBe ee
  replace HBu := bA HBu ee
  replace HBv := bA HBv ee
  replace HBu2 := bA HBu2 ee
  have HBv2 := nB ee (w10.heap.size + 1)
  clear ee
  have hsa11 : w11.heap.size = w10.heap.size + 2 := by omega
  clear hq1 hq2
  clear hI
  have rc := kc6 HBr; have sc := kc6 HBs; have xc := kc6 HBx; have pc := kc2 HBp; have ec := kc6 HBe; have uc := kc6 HBu; have vc := kc6 HBv; have u2c := kc6 HBu2; have v2c := kc6 HBv2
  have hI := i012_01_01_01_0 w w2 w7 w10 w11
  have hZ := i012_01_01_012 w w2 w7 w10
  go_wp2_with (fail)
  clear rc sc xc pc ec uc vc u2c v2c
  refine (takeR_bad (i := ih) _ (refTok HF.out H.out)).mono ?_
  rintro _ w12 ⟨rfl, hb⟩
  replace HBr := kB HBr hb
  replace HBs := kB HBs hb
  replace HBx := kB HBx hb
  replace HBp := kB HBp hb
  replace HBe := kB HBe hb
  replace HBu := kB HBu hb
  replace HBv := kB HBv hb
  replace HBu2 := kB HBu2 hb
  replace HBv2 := kB HBv2 hb
  replace HF := kF HF hb
  have hs12 := hb.size
  clear hb
  simp only [rdV]
  clear hI hZ
  have rc := kc6 HBr; have sc := kc6 HBs; have xc := kc6 HBx; have pc := kc2 HBp; have ec := kc6 HBe; have uc := kc6 HBu; have vc := kc6 HBv; have u2c := kc6 HBu2; have v2c := kc6 HBv2
  have hI := i012_01_01_01_0 w w2 w7 w10 w12
  go_wp2_with (fail)
  clear rc sc xc pc ec uc vc u2c v2c
  refine (exprR_bad (i := ih) _ (refTok HF.out H.out)).mono ?_
  rintro _ w13 ⟨ib, db, kb, sb, nb, ab, mb, cb, ub, vb, rfl, hb⟩
  replace HBr := kB HBr hb
  replace HBs := kB HBs hb
  replace HBx := kB HBx hb
  replace HBp := kB HBp hb
  replace HBe := kB HBe hb
  replace HBu := kB HBu hb
  replace HBv := kB HBv hb
  replace HBu2 := kB HBu2 hb
  replace HBv2 := kB HBv2 hb
  replace HF := kF HF hb
  have hs13 := hb.size
  clear hb
  simp only [rdV]
  clear hI
  have rc := kc6 HBr; have sc := kc6 HBs; have xc := kc6 HBx; have pc := kc2 HBp; have ec := kc6 HBe; have uc := kc6 HBu; have vc := kc6 HBv; have u2c := kc6 HBu2; have v2c := kc6 HBv2
  have hI := i012_01_01_01_0 w w2 w7 w10 w13
  go_upto_region 24 with (fail)
  clear rc sc xc pc ec uc vc u2c v2c
  generalize ee : World.alloc w13 _ = w14_1
  have hq1 := sizeA ee
  replace HF := fA HF ee
  replace HBr := bA HBr ee
  replace HBs := bA HBs ee
  replace HBx := bA HBx ee
  replace HBp := bA HBp ee
  replace HBe := bA HBe ee
  replace HBu := bA HBu ee
  replace HBv := bA HBv ee
  replace HBu2 := bA HBu2 ee
  replace HBv2 := bA HBv2 ee
  have HBu3 := nB ee (w13.heap.size)
  clear ee
  generalize ee : World.alloc w14_1 _ = w14
  have hq2 := sizeA ee
  replace HF := fA HF ee
  replace HBr := bA HBr ee
  replace HBs := bA HBs ee
  replace HBx := bA HBx ee
  replace HBp := bA HBp ee
  replace HBe := bA HBe ee
  replace HBu := bA HBu ee
  replace HBv := bA HBv ee
  replace HBu2 := bA HBu2 ee
  replace HBv2 := bA HBv2 ee
  replace HBu3 := bA HBu3 ee
  have HBv3 := nB ee (w13.heap.size + 1)
  clear ee
  have hsa14 : w14.heap.size = w13.heap.size + 2 := by omega
  clear hq1 hq2
  clear hI
  have rc := kc6 HBr; have sc := kc6 HBs; have xc := kc6 HBx; have pc := kc2 HBp; have ec := kc6 HBe; have uc := kc6 HBu; have vc := kc6 HBv; have u2c := kc6 HBu2; have v2c := kc6 HBv2; have u3c := kc6 HBu3; have v3c := kc6 HBv3
  have hI := i012_01_01_01_01_0 w w2 w7 w10 w13 w14
  have hZ := i012_01_01_01_012 w w2 w7 w10 w13
  go_wp2_with (fail)
  clear rc sc xc pc ec uc vc u2c v2c u3c v3c
  generalize ee : World.setCell w14 _ _ = w15
  have hsz15 := sizeS1 ee
  replace HF := fN1 HF ee
  replace HBr := bF1 HBr ee
  replace HBs := bF1 HBs ee
  replace HBx := bF1 HBx ee
  replace HBp := bF1 HBp ee
  replace HBe := bF1 HBe ee
  replace HBu := bF1 HBu ee
  replace HBv := bF1 HBv ee
  replace HBu2 := bF1 HBu2 ee
  replace HBv2 := bF1 HBv2 ee
  replace HBu3 : Hid (Bo w15 w13.heap.size 47 #[.slice aL n cap, .int .i64 (ib : Int), .int .i64 (deep : Int), .bool true, .int .i64 (nowT ts j).l, .int .i64 (nowT ts j).c]) := Lib.hid (by rw [← ee]; exact HBu3.out.set 2 (.int .i64 (deep : Int)))
  replace HBv3 := bF1 HBv3 ee
  clear ee
  clear hI hZ
  have rc := kc6 HBr; have sc := kc6 HBs; have xc := kc6 HBx; have pc := kc2 HBp; have ec := kc6 HBe; have uc := kc6 HBu; have vc := kc6 HBv; have u2c := kc6 HBu2; have v2c := kc6 HBv2; have u3c := kc6 HBu3; have v3c := kc6 HBv3
  have hI := i012_01_01_01_01_0 w w2 w7 w10 w13 w15
  have hZ := i012_01_01_01_012 w w2 w7 w10 w13
  refine wp_region_held_drew (S := fun w' => Far (fun b => b = (w.heap.size + 1) ∨ b = (w.heap.size + 2)) (w15) w') (by kernel_rfl) (Far.of (below_drew _)) (fun hS40 => ?_)
  refine takeA 0 (v := ?_) rfl ?_ ?_
  rotate_left
  · (intro w hSw; (try dsimp only at hSw); replace u3c := Far.c6z u3c hSw; replace vc := Far.c6z vc hSw; replace v2c := Far.c6z v2c hSw; replace v3c := Far.c6z v3c hSw; replace pc := Far.c2z pc hSw; go_simp; try with_reducible rfl)
  try simp only [Act.put, pu1, pu2, pu3]
  refine takeA 1 (v := ?_) rfl ?_ ?_
  rotate_left
  · (intro w hSw; (try dsimp only at hSw); replace u3c := Far.c6z u3c hSw; replace vc := Far.c6z vc hSw; replace v2c := Far.c6z v2c hSw; replace v3c := Far.c6z v3c hSw; replace pc := Far.c2z pc hSw; go_simp; try with_reducible rfl)
  try simp only [Act.put, pu1, pu2, pu3]
  refine takeA 2 (v := ?_) rfl ?_ ?_
  rotate_left
  · (intro w hSw; (try dsimp only at hSw); replace u3c := Far.c6z u3c hSw; replace vc := Far.c6z vc hSw; replace v2c := Far.c6z v2c hSw; replace v3c := Far.c6z v3c hSw; replace pc := Far.c2z pc hSw; go_simp; try with_reducible rfl)
  try simp only [Act.put, pu1, pu2, pu3]
  refine takeA 3 (v := ?_) rfl ?_ ?_
  rotate_left
  · (intro w hSw; (try dsimp only at hSw); replace u3c := Far.c6z u3c hSw; replace vc := Far.c6z vc hSw; replace v2c := Far.c6z v2c hSw; replace v3c := Far.c6z v3c hSw; replace pc := Far.c2z pc hSw; go_simp; try with_reducible rfl)
  try simp only [Act.put, pu1, pu2, pu3]
  refine takeA 5 (v := ?_) rfl ?_ ?_
  rotate_left
  · (intro w hSw; (try dsimp only at hSw); replace u3c := Far.c6z u3c hSw; replace vc := Far.c6z vc hSw; replace v2c := Far.c6z v2c hSw; replace v3c := Far.c6z v3c hSw; replace pc := Far.c2z pc hSw; go_simp; try with_reducible rfl)
  try simp only [Act.put, pu1, pu2, pu3]

  refine twoL 4 7 rfl rfl (by kernel_rfl) (by rfl) (by rfl) (fun K hK => ?_) (fun K hK => ?_)
  ·
   go_simp
   refine hK.out _ _ ?_ (fun hS41 => ?_)
   · exact Far.trans (Far.of (below_new _ _)) (Far.of (below_drew _))
   clear hK K
   clear rc sc xc pc ec uc vc u2c v2c u3c v3c
   generalize ee : (w15.alloc (.cells #[.int .i64 x.kind, .string x.name, .int .i64 x.n, .slice ax mx cx, .int .i64 x.line, .int .i64 x.col, .int .i64 kh, .string sh, .int .i64 nh, .slice ah mh ch, .int .i64 uh, .int .i64 vh, .int .i64 kb, .string sb, .int .i64 nb, .slice ab mb cb, .int .i64 ub, .int .i64 vb] 27)) = w16_1 at *
   have hq1 := sizeA ee
   replace HF := fA HF ee
   replace HBr := bA HBr ee
   replace HBs := bA HBs ee
   replace HBx := bA HBx ee
   replace HBp := bA HBp ee
   replace HBe := bA HBe ee
   replace HBu := bA HBu ee
   replace HBv := bA HBv ee
   replace HBu2 := bA HBu2 ee
   replace HBv2 := bA HBv2 ee
   replace HBu3 := bA HBu3 ee
   replace HBv3 := bA HBv3 ee
   have HBrow := nB ee (w13.heap.size + 2)
   clear ee
   generalize ee : (w16_1.drew) = w16 at *
   have hq2 := sizeD ee
   replace HF := fD HF ee
   replace HBr := bD HBr ee
   replace HBs := bD HBs ee
   replace HBx := bD HBx ee
   replace HBp := bD HBp ee
   replace HBe := bD HBe ee
   replace HBu := bD HBu ee
   replace HBv := bD HBv ee
   replace HBu2 := bD HBu2 ee
   replace HBv2 := bD HBv2 ee
   replace HBu3 := bD HBu3 ee
   replace HBv3 := bD HBv3 ee
   replace HBrow := bD HBrow ee
   clear ee
   have hsa16 : w16.heap.size = w13.heap.size + 3 := by omega
   clear hq1 hq2
   clear hI hZ
   have rc := kc6 HBr; have sc := kc6 HBs; have xc := kc6 HBx; have pc := kc2 HBp; have ec := kc6 HBe; have uc := kc6 HBu; have vc := kc6 HBv; have u2c := kc6 HBu2; have v2c := kc6 HBv2; have u3c := kc6 HBu3; have v3c := kc6 HBv3
   have hI := i012_01_01_01_012_0 w w2 w7 w10 w13 w16
   have hZ := i012_01_01_01_0123 w w2 w7 w10 w13
   refine takeA 6 (v := ?_) rfl ?_ ?_
   rotate_left
   · (intro w hSw; (try dsimp only at hSw); go_simp; try with_reducible rfl)
   try simp only [Act.put, pu1, pu2, pu3]
   refine callA 7 rfl fun K hK => ?_
   go_simp
   refine hK.out _ _ ?_ (fun hS42 => ?_)
   · exact (by (iterate 6 (refine Far.setCell (p := ⟨(w.heap.size + 1), _, none⟩) ?_ (.inl rfl) _)); exact hS41)
   clear hK K

   clear rc sc xc pc ec uc vc u2c v2c u3c v3c
   generalize ee : ((((((w16.setCell ⟨(w.heap.size + 1), 0, none⟩ (.slice aL n cap)).setCell ⟨(w.heap.size + 1), 1, none⟩ (.int .i64 (ib : Int))).setCell ⟨(w.heap.size + 1), 2, none⟩ (.int .i64 (deep : Int))).setCell ⟨(w.heap.size + 1), 3, none⟩ (.bool true)).setCell ⟨(w.heap.size + 1), 4, none⟩ (.int .i64 (nowT ts j).l)).setCell ⟨(w.heap.size + 1), 5, none⟩ (.int .i64 (nowT ts j).c)) = w17 at *
   have hsz17 := sizeS6 ee
   replace HF := fN6 HF ee
   replace HBr := bF6 HBr ee
   replace HBs := bS6 HBs ee
   replace HBx := bF6 HBx ee
   replace HBp := bF6 HBp ee
   replace HBe := bF6 HBe ee
   replace HBu := bF6 HBu ee
   replace HBv := bF6 HBv ee
   replace HBu2 := bF6 HBu2 ee
   replace HBv2 := bF6 HBv2 ee
   replace HBu3 := bF6 HBu3 ee
   replace HBv3 := bF6 HBv3 ee
   replace HBrow := bF6 HBrow ee
   clear ee
   clear hI hZ
   have rc := kc6 HBr; have sc := kc6 HBs; have xc := kc6 HBx; have pc := kc2 HBp; have ec := kc6 HBe; have uc := kc6 HBu; have vc := kc6 HBv; have u2c := kc6 HBu2; have v2c := kc6 HBv2; have u3c := kc6 HBu3; have v3c := kc6 HBv3
   have hI := i012_01_01_01_012_0 w w2 w7 w10 w13 w17
   have hZ := i012_01_01_01_0123 w w2 w7 w10 w13
   refine callA 8 rfl fun K hK => ?_
   go_simp
   refine hK.out _ _ ?_ (fun hS43 => ?_)
   · exact (by (iterate 6 (refine Far.setCell (p := ⟨(w.heap.size + 2), _, none⟩) ?_ (.inr rfl) _)); exact hS42)
   clear hK K
   refine wpAnyH_done (by kernel_rfl) ?_ _

   clear rc sc xc pc ec uc vc u2c v2c u3c v3c
   generalize ee : World.setCell _ ⟨(w.heap.size + 2), 5, none⟩ _ = w18
   have hsz18 := sizeS6 ee
   replace HF := fN6 HF ee
   replace HBr := bF6 HBr ee
   replace HBs := bF6 HBs ee
   replace HBx := bS6 HBx ee
   replace HBp := bF6 HBp ee
   replace HBe := bF6 HBe ee
   replace HBu := bF6 HBu ee
   replace HBv := bF6 HBv ee
   replace HBu2 := bF6 HBu2 ee
   replace HBv2 := bF6 HBv2 ee
   replace HBu3 := bF6 HBu3 ee
   replace HBv3 := bF6 HBv3 ee
   replace HBrow := bF6 HBrow ee
   clear ee
   clear hI hZ
   go_wp2_with (fail)
   have z := kc6 HBs; have y := kc6 HBx
   refine bodyPost_ret (v := .tuple #[.agg #[.slice aL n cap, .int .i64 (ib : Int), .int .i64 (deep : Int), .bool true, .int .i64 (nowT ts j).l, .int .i64 (nowT ts j).c], .agg #[.int .i64 6, .string ⟨#[]⟩, .int .i64 0, .slice (some ⟨w13.heap.size + 2, 0, none⟩) 3 3, .int .i64 (nowT ts i).l, .int .i64 (nowT ts i).c]]) (by clear HF H HBr HBs HBx HBp HBe HBu HBv HBu2 HBv2 HBu3 HBv3 HBrow; simp [results, Try.results14, go_sem, z, y]) rfl ?_
   exact ⟨_, _, _, _, _, _, _, _, _, _, rfl, refBelow HF.out⟩
  ·
   go_simp
   refine hK.out _ _ ?_ (fun hS41 => ?_)
   · exact (by refine Far.trans ?_ (Far.of (below_drew _)); (iterate 6 (refine Far.setCell (p := ⟨(w.heap.size + 1), _, none⟩) ?_ (.inl rfl) _)); exact Far.refl _ _)
   clear hK K
   clear rc sc xc pc ec uc vc u2c v2c u3c v3c
   generalize ee : ((((((w15.setCell ⟨(w.heap.size + 1), 0, none⟩ (.slice aL n cap)).setCell ⟨(w.heap.size + 1), 1, none⟩ (.int .i64 (ib : Int))).setCell ⟨(w.heap.size + 1), 2, none⟩ (.int .i64 (deep : Int))).setCell ⟨(w.heap.size + 1), 3, none⟩ (.bool true)).setCell ⟨(w.heap.size + 1), 4, none⟩ (.int .i64 (nowT ts j).l)).setCell ⟨(w.heap.size + 1), 5, none⟩ (.int .i64 (nowT ts j).c)) = w16_1 at *
   have hq1 := sizeS6 ee
   replace HF := fN6 HF ee
   replace HBr := bF6 HBr ee
   replace HBs := bS6 HBs ee
   replace HBx := bF6 HBx ee
   replace HBp := bF6 HBp ee
   replace HBe := bF6 HBe ee
   replace HBu := bF6 HBu ee
   replace HBv := bF6 HBv ee
   replace HBu2 := bF6 HBu2 ee
   replace HBv2 := bF6 HBv2 ee
   replace HBu3 := bF6 HBu3 ee
   replace HBv3 := bF6 HBv3 ee
   clear ee
   generalize ee : (w16_1.drew) = w16 at *
   have hq2 := sizeD ee
   replace HF := fD HF ee
   replace HBr := bD HBr ee
   replace HBs := bD HBs ee
   replace HBx := bD HBx ee
   replace HBp := bD HBp ee
   replace HBe := bD HBe ee
   replace HBu := bD HBu ee
   replace HBv := bD HBv ee
   replace HBu2 := bD HBu2 ee
   replace HBv2 := bD HBv2 ee
   replace HBu3 := bD HBu3 ee
   replace HBv3 := bD HBv3 ee
   clear ee
   have hsa16 : w16.heap.size = w13.heap.size + 2 := by omega
   clear hq1 hq2
   clear hI hZ
   have rc := kc6 HBr; have sc := kc6 HBs; have xc := kc6 HBx; have pc := kc2 HBp; have ec := kc6 HBe; have uc := kc6 HBu; have vc := kc6 HBv; have u2c := kc6 HBu2; have v2c := kc6 HBv2; have u3c := kc6 HBu3; have v3c := kc6 HBv3
   have hI := i012_01_01_01_01_0 w w2 w7 w10 w13 w16
   have hZ := i012_01_01_01_012 w w2 w7 w10 w13
   refine callA 4 rfl fun K hK => ?_
   go_simp
   refine hK.out _ _ ?_ (fun hS42 => ?_)
   · exact Far.trans hS41 (Far.of (below_new _ _))
   clear hK K

   clear rc sc xc pc ec uc vc u2c v2c u3c v3c
   generalize ee : (w16.alloc (.cells #[.int .i64 x.kind, .string x.name, .int .i64 x.n, .slice ax mx cx, .int .i64 x.line, .int .i64 x.col, .int .i64 kh, .string sh, .int .i64 nh, .slice ah mh ch, .int .i64 uh, .int .i64 vh, .int .i64 kb, .string sb, .int .i64 nb, .slice ab mb cb, .int .i64 ub, .int .i64 vb] 27)) = w17 at *
   have hsa17 := sizeA ee
   replace HF := fA HF ee
   replace HBr := bA HBr ee
   replace HBs := bA HBs ee
   replace HBx := bA HBx ee
   replace HBp := bA HBp ee
   replace HBe := bA HBe ee
   replace HBu := bA HBu ee
   replace HBv := bA HBv ee
   replace HBu2 := bA HBu2 ee
   replace HBv2 := bA HBv2 ee
   replace HBu3 := bA HBu3 ee
   replace HBv3 := bA HBv3 ee
   have HBrow := nB ee (w13.heap.size + 2)
   clear ee
   clear hI hZ
   have rc := kc6 HBr; have sc := kc6 HBs; have xc := kc6 HBx; have pc := kc2 HBp; have ec := kc6 HBe; have uc := kc6 HBu; have vc := kc6 HBv; have u2c := kc6 HBu2; have v2c := kc6 HBv2; have u3c := kc6 HBu3; have v3c := kc6 HBv3
   have hI := i012_01_01_01_012_0 w w2 w7 w10 w13 w17
   have hZ := i012_01_01_01_0123 w w2 w7 w10 w13
   refine takeA 6 (v := ?_) rfl ?_ ?_
   rotate_left
   · (intro w hSw; (try dsimp only at hSw); go_simp; try with_reducible rfl)
   try simp only [Act.put, pu1, pu2, pu3]
   refine callA 8 rfl fun K hK => ?_
   go_simp
   refine hK.out _ _ ?_ (fun hS43 => ?_)
   · exact (by (iterate 6 (refine Far.setCell (p := ⟨(w.heap.size + 2), _, none⟩) ?_ (.inr rfl) _)); exact hS42)
   clear hK K
   refine wpAnyH_done (by kernel_rfl) ?_ _

   clear rc sc xc pc ec uc vc u2c v2c u3c v3c
   generalize ee : World.setCell _ ⟨(w.heap.size + 2), 5, none⟩ _ = w18
   have hsz18 := sizeS6 ee
   replace HF := fN6 HF ee
   replace HBr := bF6 HBr ee
   replace HBs := bF6 HBs ee
   replace HBx := bS6 HBx ee
   replace HBp := bF6 HBp ee
   replace HBe := bF6 HBe ee
   replace HBu := bF6 HBu ee
   replace HBv := bF6 HBv ee
   replace HBu2 := bF6 HBu2 ee
   replace HBv2 := bF6 HBv2 ee
   replace HBu3 := bF6 HBu3 ee
   replace HBv3 := bF6 HBv3 ee
   replace HBrow := bF6 HBrow ee
   clear ee
   clear hI hZ
   go_wp2_with (fail)
   have z := kc6 HBs; have y := kc6 HBx
   refine bodyPost_ret (v := .tuple #[.agg #[.slice aL n cap, .int .i64 (ib : Int), .int .i64 (deep : Int), .bool true, .int .i64 (nowT ts j).l, .int .i64 (nowT ts j).c], .agg #[.int .i64 6, .string ⟨#[]⟩, .int .i64 0, .slice (some ⟨w13.heap.size + 2, 0, none⟩) 3 3, .int .i64 (nowT ts i).l, .int .i64 (nowT ts i).c]]) (by clear HF H HBr HBs HBx HBp HBe HBu HBv HBu2 HBv2 HBu3 HBv3 HBrow; simp [results, Try.results14, go_sem, z, y]) rfl ?_
   exact ⟨_, _, _, _, _, _, _, _, _, _, rfl, refBelow HF.out⟩
 first | simp only [hth, if_true] at hr | simp only [takeT, hth, if_true] at hr
 clear rc sc xc pc ec uc vc
 refine (takeR_ok _ (refTok HF.out H.out) hth (by decide)).mono ?_
 rintro _ w9 ⟨rfl, hb⟩
 replace HBr := kB HBr hb
 replace HBs := kB HBs hb
 replace HBx := kB HBx hb
 replace HBp := kB HBp hb
 replace HBe := kB HBe hb
 replace HBu := kB HBu hb
 replace HBv := kB HBv hb
 replace HMx := kM HMx hb
 replace HF := kF HF hb
 have hs9 := hb.size
 clear hb
 simp only [rdV]
 clear hI hZ
 have rc := kc6 HBr; have sc := kc6 HBs; have xc := kc6 HBx; have pc := kc2 HBp; have ec := kc6 HBe; have uc := kc6 HBu; have vc := kc6 HBv
 have hI := i012_01_01_0 w w2 w7 w9
 go_wp2_with (fail)
 rcases hy : readE ts f .expr (j + 1) (deep + 1) with _ | ⟨y, k⟩ | ⟨l_, c_⟩
 · (rw [hy] at hr; cases hr)
 rotate_left
 ·
  rw [hy] at hr
  first | simp only at hr | simp only [andT] at hr
  cases hr
  clear HMx
  clear rc sc xc pc ec uc vc
  refine (HE (j + 1) (deep + 1) _ _ _ _ hd1 (refTok HF.out H.out) hn hy).mono ?_
  rintro _ w10 ⟨ih, dh, kh, sh, nh, ah, mh, ch, uh, vh, rfl, hb⟩
  replace HBr := kB HBr hb
  replace HBs := kB HBs hb
  replace HBx := kB HBx hb
  replace HBp := kB HBp hb
  replace HBe := kB HBe hb
  replace HBu := kB HBu hb
  replace HBv := kB HBv hb
  replace HF := kF HF hb
  have hs10 := hb.size
  clear hb
  simp only [rdV]
  clear hI
  have rc := kc6 HBr; have sc := kc6 HBs; have xc := kc6 HBx; have pc := kc2 HBp; have ec := kc6 HBe; have uc := kc6 HBu; have vc := kc6 HBv
  have hI := i012_01_01_0 w w2 w7 w10
  go_upto_region 23 with (fail)
  clear rc sc xc pc ec uc vc
  generalize ee : World.alloc w10 _ = w11_1
  have hq1 := sizeA ee
  replace HF := fA HF ee
  replace HBr := bA HBr ee
  replace HBs := bA HBs ee
  replace HBx := bA HBx ee
  replace HBp := bA HBp ee
  replace HBe := bA HBe ee
  replace HBu := bA HBu ee
  replace HBv := bA HBv ee
  have HBu2 := nB ee (w10.heap.size)
  clear ee
  generalize ee : World.alloc w11_1 _ = w11
  have hq2 := sizeA ee
  replace HF := fA HF ee
  replace HBr := bA HBr ee
  replace HBs := bA HBs ee
  replace HBx := bA HBx ee
  replace HBp := bA HBp ee
  replace HBe := bA HBe ee
  replace HBu := bA HBu ee
  replace HBv := bA HBv ee
  replace HBu2 := bA HBu2 ee
  have HBv2 := nB ee (w10.heap.size + 1)
  clear ee
  have hsa11 : w11.heap.size = w10.heap.size + 2 := by omega
  clear hq1 hq2
  clear hI
  have rc := kc6 HBr; have sc := kc6 HBs; have xc := kc6 HBx; have pc := kc2 HBp; have ec := kc6 HBe; have uc := kc6 HBu; have vc := kc6 HBv; have u2c := kc6 HBu2; have v2c := kc6 HBv2
  have hI := i012_01_01_01_0 w w2 w7 w10 w11
  have hZ := i012_01_01_012 w w2 w7 w10
  go_wp2_with (fail)
  clear rc sc xc pc ec uc vc u2c v2c
  refine (takeR_bad (i := ih) _ (refTok HF.out H.out)).mono ?_
  rintro _ w12 ⟨rfl, hb⟩
  replace HBr := kB HBr hb
  replace HBs := kB HBs hb
  replace HBx := kB HBx hb
  replace HBp := kB HBp hb
  replace HBe := kB HBe hb
  replace HBu := kB HBu hb
  replace HBv := kB HBv hb
  replace HBu2 := kB HBu2 hb
  replace HBv2 := kB HBv2 hb
  replace HF := kF HF hb
  have hs12 := hb.size
  clear hb
  simp only [rdV]
  clear hI hZ
  have rc := kc6 HBr; have sc := kc6 HBs; have xc := kc6 HBx; have pc := kc2 HBp; have ec := kc6 HBe; have uc := kc6 HBu; have vc := kc6 HBv; have u2c := kc6 HBu2; have v2c := kc6 HBv2
  have hI := i012_01_01_01_0 w w2 w7 w10 w12
  go_wp2_with (fail)
  clear rc sc xc pc ec uc vc u2c v2c
  refine (exprR_bad (i := ih) _ (refTok HF.out H.out)).mono ?_
  rintro _ w13 ⟨ib, db, kb, sb, nb, ab, mb, cb, ub, vb, rfl, hb⟩
  replace HBr := kB HBr hb
  replace HBs := kB HBs hb
  replace HBx := kB HBx hb
  replace HBp := kB HBp hb
  replace HBe := kB HBe hb
  replace HBu := kB HBu hb
  replace HBv := kB HBv hb
  replace HBu2 := kB HBu2 hb
  replace HBv2 := kB HBv2 hb
  replace HF := kF HF hb
  have hs13 := hb.size
  clear hb
  simp only [rdV]
  clear hI
  have rc := kc6 HBr; have sc := kc6 HBs; have xc := kc6 HBx; have pc := kc2 HBp; have ec := kc6 HBe; have uc := kc6 HBu; have vc := kc6 HBv; have u2c := kc6 HBu2; have v2c := kc6 HBv2
  have hI := i012_01_01_01_0 w w2 w7 w10 w13
  go_upto_region 24 with (fail)
  clear rc sc xc pc ec uc vc u2c v2c
  generalize ee : World.alloc w13 _ = w14_1
  have hq1 := sizeA ee
  replace HF := fA HF ee
  replace HBr := bA HBr ee
  replace HBs := bA HBs ee
  replace HBx := bA HBx ee
  replace HBp := bA HBp ee
  replace HBe := bA HBe ee
  replace HBu := bA HBu ee
  replace HBv := bA HBv ee
  replace HBu2 := bA HBu2 ee
  replace HBv2 := bA HBv2 ee
  have HBu3 := nB ee (w13.heap.size)
  clear ee
  generalize ee : World.alloc w14_1 _ = w14
  have hq2 := sizeA ee
  replace HF := fA HF ee
  replace HBr := bA HBr ee
  replace HBs := bA HBs ee
  replace HBx := bA HBx ee
  replace HBp := bA HBp ee
  replace HBe := bA HBe ee
  replace HBu := bA HBu ee
  replace HBv := bA HBv ee
  replace HBu2 := bA HBu2 ee
  replace HBv2 := bA HBv2 ee
  replace HBu3 := bA HBu3 ee
  have HBv3 := nB ee (w13.heap.size + 1)
  clear ee
  have hsa14 : w14.heap.size = w13.heap.size + 2 := by omega
  clear hq1 hq2
  clear hI
  have rc := kc6 HBr; have sc := kc6 HBs; have xc := kc6 HBx; have pc := kc2 HBp; have ec := kc6 HBe; have uc := kc6 HBu; have vc := kc6 HBv; have u2c := kc6 HBu2; have v2c := kc6 HBv2; have u3c := kc6 HBu3; have v3c := kc6 HBv3
  have hI := i012_01_01_01_01_0 w w2 w7 w10 w13 w14
  have hZ := i012_01_01_01_012 w w2 w7 w10 w13
  go_wp2_with (fail)
  clear rc sc xc pc ec uc vc u2c v2c u3c v3c
  generalize ee : World.setCell w14 _ _ = w15
  have hsz15 := sizeS1 ee
  replace HF := fN1 HF ee
  replace HBr := bF1 HBr ee
  replace HBs := bF1 HBs ee
  replace HBx := bF1 HBx ee
  replace HBp := bF1 HBp ee
  replace HBe := bF1 HBe ee
  replace HBu := bF1 HBu ee
  replace HBv := bF1 HBv ee
  replace HBu2 := bF1 HBu2 ee
  replace HBv2 := bF1 HBv2 ee
  replace HBu3 : Hid (Bo w15 w13.heap.size 47 #[.slice aL n cap, .int .i64 (ib : Int), .int .i64 (deep : Int), .bool true, .int .i64 l_, .int .i64 c_]) := Lib.hid (by rw [← ee]; exact HBu3.out.set 2 (.int .i64 (deep : Int)))
  replace HBv3 := bF1 HBv3 ee
  clear ee
  clear hI hZ
  have rc := kc6 HBr; have sc := kc6 HBs; have xc := kc6 HBx; have pc := kc2 HBp; have ec := kc6 HBe; have uc := kc6 HBu; have vc := kc6 HBv; have u2c := kc6 HBu2; have v2c := kc6 HBv2; have u3c := kc6 HBu3; have v3c := kc6 HBv3
  have hI := i012_01_01_01_01_0 w w2 w7 w10 w13 w15
  have hZ := i012_01_01_01_012 w w2 w7 w10 w13
  refine wp_region_held_drew (S := fun w' => Far (fun b => b = (w.heap.size + 1) ∨ b = (w.heap.size + 2)) (w15) w') (by kernel_rfl) (Far.of (below_drew _)) (fun hS40 => ?_)
  refine takeA 0 (v := ?_) rfl ?_ ?_
  rotate_left
  · (intro w hSw; (try dsimp only at hSw); replace u3c := Far.c6z u3c hSw; replace vc := Far.c6z vc hSw; replace v2c := Far.c6z v2c hSw; replace v3c := Far.c6z v3c hSw; replace pc := Far.c2z pc hSw; go_simp; try with_reducible rfl)
  try simp only [Act.put, pu1, pu2, pu3]
  refine takeA 1 (v := ?_) rfl ?_ ?_
  rotate_left
  · (intro w hSw; (try dsimp only at hSw); replace u3c := Far.c6z u3c hSw; replace vc := Far.c6z vc hSw; replace v2c := Far.c6z v2c hSw; replace v3c := Far.c6z v3c hSw; replace pc := Far.c2z pc hSw; go_simp; try with_reducible rfl)
  try simp only [Act.put, pu1, pu2, pu3]
  refine takeA 2 (v := ?_) rfl ?_ ?_
  rotate_left
  · (intro w hSw; (try dsimp only at hSw); replace u3c := Far.c6z u3c hSw; replace vc := Far.c6z vc hSw; replace v2c := Far.c6z v2c hSw; replace v3c := Far.c6z v3c hSw; replace pc := Far.c2z pc hSw; go_simp; try with_reducible rfl)
  try simp only [Act.put, pu1, pu2, pu3]
  refine takeA 3 (v := ?_) rfl ?_ ?_
  rotate_left
  · (intro w hSw; (try dsimp only at hSw); replace u3c := Far.c6z u3c hSw; replace vc := Far.c6z vc hSw; replace v2c := Far.c6z v2c hSw; replace v3c := Far.c6z v3c hSw; replace pc := Far.c2z pc hSw; go_simp; try with_reducible rfl)
  try simp only [Act.put, pu1, pu2, pu3]
  refine takeA 5 (v := ?_) rfl ?_ ?_
  rotate_left
  · (intro w hSw; (try dsimp only at hSw); replace u3c := Far.c6z u3c hSw; replace vc := Far.c6z vc hSw; replace v2c := Far.c6z v2c hSw; replace v3c := Far.c6z v3c hSw; replace pc := Far.c2z pc hSw; go_simp; try with_reducible rfl)
  try simp only [Act.put, pu1, pu2, pu3]

  refine twoL 4 7 rfl rfl (by kernel_rfl) (by rfl) (by rfl) (fun K hK => ?_) (fun K hK => ?_)
  ·
   go_simp
   refine hK.out _ _ ?_ (fun hS41 => ?_)
   · exact Far.trans (Far.of (below_new _ _)) (Far.of (below_drew _))
   clear hK K
   clear rc sc xc pc ec uc vc u2c v2c u3c v3c
   generalize ee : (w15.alloc (.cells #[.int .i64 x.kind, .string x.name, .int .i64 x.n, .slice ax mx cx, .int .i64 x.line, .int .i64 x.col, .int .i64 kh, .string sh, .int .i64 nh, .slice ah mh ch, .int .i64 uh, .int .i64 vh, .int .i64 kb, .string sb, .int .i64 nb, .slice ab mb cb, .int .i64 ub, .int .i64 vb] 27)) = w16_1 at *
   have hq1 := sizeA ee
   replace HF := fA HF ee
   replace HBr := bA HBr ee
   replace HBs := bA HBs ee
   replace HBx := bA HBx ee
   replace HBp := bA HBp ee
   replace HBe := bA HBe ee
   replace HBu := bA HBu ee
   replace HBv := bA HBv ee
   replace HBu2 := bA HBu2 ee
   replace HBv2 := bA HBv2 ee
   replace HBu3 := bA HBu3 ee
   replace HBv3 := bA HBv3 ee
   have HBrow := nB ee (w13.heap.size + 2)
   clear ee
   generalize ee : (w16_1.drew) = w16 at *
   have hq2 := sizeD ee
   replace HF := fD HF ee
   replace HBr := bD HBr ee
   replace HBs := bD HBs ee
   replace HBx := bD HBx ee
   replace HBp := bD HBp ee
   replace HBe := bD HBe ee
   replace HBu := bD HBu ee
   replace HBv := bD HBv ee
   replace HBu2 := bD HBu2 ee
   replace HBv2 := bD HBv2 ee
   replace HBu3 := bD HBu3 ee
   replace HBv3 := bD HBv3 ee
   replace HBrow := bD HBrow ee
   clear ee
   have hsa16 : w16.heap.size = w13.heap.size + 3 := by omega
   clear hq1 hq2
   clear hI hZ
   have rc := kc6 HBr; have sc := kc6 HBs; have xc := kc6 HBx; have pc := kc2 HBp; have ec := kc6 HBe; have uc := kc6 HBu; have vc := kc6 HBv; have u2c := kc6 HBu2; have v2c := kc6 HBv2; have u3c := kc6 HBu3; have v3c := kc6 HBv3
   have hI := i012_01_01_01_012_0 w w2 w7 w10 w13 w16
   have hZ := i012_01_01_01_0123 w w2 w7 w10 w13
   refine takeA 6 (v := ?_) rfl ?_ ?_
   rotate_left
   · (intro w hSw; (try dsimp only at hSw); go_simp; try with_reducible rfl)
   try simp only [Act.put, pu1, pu2, pu3]
   refine callA 7 rfl fun K hK => ?_
   go_simp
   refine hK.out _ _ ?_ (fun hS42 => ?_)
   · exact (by (iterate 6 (refine Far.setCell (p := ⟨(w.heap.size + 1), _, none⟩) ?_ (.inl rfl) _)); exact hS41)
   clear hK K

   clear rc sc xc pc ec uc vc u2c v2c u3c v3c
   generalize ee : ((((((w16.setCell ⟨(w.heap.size + 1), 0, none⟩ (.slice aL n cap)).setCell ⟨(w.heap.size + 1), 1, none⟩ (.int .i64 (ib : Int))).setCell ⟨(w.heap.size + 1), 2, none⟩ (.int .i64 (deep : Int))).setCell ⟨(w.heap.size + 1), 3, none⟩ (.bool true)).setCell ⟨(w.heap.size + 1), 4, none⟩ (.int .i64 l_)).setCell ⟨(w.heap.size + 1), 5, none⟩ (.int .i64 c_)) = w17 at *
   have hsz17 := sizeS6 ee
   replace HF := fN6 HF ee
   replace HBr := bF6 HBr ee
   replace HBs := bS6 HBs ee
   replace HBx := bF6 HBx ee
   replace HBp := bF6 HBp ee
   replace HBe := bF6 HBe ee
   replace HBu := bF6 HBu ee
   replace HBv := bF6 HBv ee
   replace HBu2 := bF6 HBu2 ee
   replace HBv2 := bF6 HBv2 ee
   replace HBu3 := bF6 HBu3 ee
   replace HBv3 := bF6 HBv3 ee
   replace HBrow := bF6 HBrow ee
   clear ee
   clear hI hZ
   have rc := kc6 HBr; have sc := kc6 HBs; have xc := kc6 HBx; have pc := kc2 HBp; have ec := kc6 HBe; have uc := kc6 HBu; have vc := kc6 HBv; have u2c := kc6 HBu2; have v2c := kc6 HBv2; have u3c := kc6 HBu3; have v3c := kc6 HBv3
   have hI := i012_01_01_01_012_0 w w2 w7 w10 w13 w17
   have hZ := i012_01_01_01_0123 w w2 w7 w10 w13
   refine callA 8 rfl fun K hK => ?_
   go_simp
   refine hK.out _ _ ?_ (fun hS43 => ?_)
   · exact (by (iterate 6 (refine Far.setCell (p := ⟨(w.heap.size + 2), _, none⟩) ?_ (.inr rfl) _)); exact hS42)
   clear hK K
   refine wpAnyH_done (by kernel_rfl) ?_ _

   clear rc sc xc pc ec uc vc u2c v2c u3c v3c
   generalize ee : World.setCell _ ⟨(w.heap.size + 2), 5, none⟩ _ = w18
   have hsz18 := sizeS6 ee
   replace HF := fN6 HF ee
   replace HBr := bF6 HBr ee
   replace HBs := bF6 HBs ee
   replace HBx := bS6 HBx ee
   replace HBp := bF6 HBp ee
   replace HBe := bF6 HBe ee
   replace HBu := bF6 HBu ee
   replace HBv := bF6 HBv ee
   replace HBu2 := bF6 HBu2 ee
   replace HBv2 := bF6 HBv2 ee
   replace HBu3 := bF6 HBu3 ee
   replace HBv3 := bF6 HBv3 ee
   replace HBrow := bF6 HBrow ee
   clear ee
   clear hI hZ
   go_wp2_with (fail)
   have z := kc6 HBs; have y := kc6 HBx
   refine bodyPost_ret (v := .tuple #[.agg #[.slice aL n cap, .int .i64 (ib : Int), .int .i64 (deep : Int), .bool true, .int .i64 l_, .int .i64 c_], .agg #[.int .i64 6, .string ⟨#[]⟩, .int .i64 0, .slice (some ⟨w13.heap.size + 2, 0, none⟩) 3 3, .int .i64 (nowT ts i).l, .int .i64 (nowT ts i).c]]) (by clear HF H HBr HBs HBx HBp HBe HBu HBv HBu2 HBv2 HBu3 HBv3 HBrow; simp [results, Try.results14, go_sem, z, y]) rfl ?_
   exact ⟨_, _, _, _, _, _, _, _, _, _, rfl, refBelow HF.out⟩
  ·
   go_simp
   refine hK.out _ _ ?_ (fun hS41 => ?_)
   · exact (by refine Far.trans ?_ (Far.of (below_drew _)); (iterate 6 (refine Far.setCell (p := ⟨(w.heap.size + 1), _, none⟩) ?_ (.inl rfl) _)); exact Far.refl _ _)
   clear hK K
   clear rc sc xc pc ec uc vc u2c v2c u3c v3c
   generalize ee : ((((((w15.setCell ⟨(w.heap.size + 1), 0, none⟩ (.slice aL n cap)).setCell ⟨(w.heap.size + 1), 1, none⟩ (.int .i64 (ib : Int))).setCell ⟨(w.heap.size + 1), 2, none⟩ (.int .i64 (deep : Int))).setCell ⟨(w.heap.size + 1), 3, none⟩ (.bool true)).setCell ⟨(w.heap.size + 1), 4, none⟩ (.int .i64 l_)).setCell ⟨(w.heap.size + 1), 5, none⟩ (.int .i64 c_)) = w16_1 at *
   have hq1 := sizeS6 ee
   replace HF := fN6 HF ee
   replace HBr := bF6 HBr ee
   replace HBs := bS6 HBs ee
   replace HBx := bF6 HBx ee
   replace HBp := bF6 HBp ee
   replace HBe := bF6 HBe ee
   replace HBu := bF6 HBu ee
   replace HBv := bF6 HBv ee
   replace HBu2 := bF6 HBu2 ee
   replace HBv2 := bF6 HBv2 ee
   replace HBu3 := bF6 HBu3 ee
   replace HBv3 := bF6 HBv3 ee
   clear ee
   generalize ee : (w16_1.drew) = w16 at *
   have hq2 := sizeD ee
   replace HF := fD HF ee
   replace HBr := bD HBr ee
   replace HBs := bD HBs ee
   replace HBx := bD HBx ee
   replace HBp := bD HBp ee
   replace HBe := bD HBe ee
   replace HBu := bD HBu ee
   replace HBv := bD HBv ee
   replace HBu2 := bD HBu2 ee
   replace HBv2 := bD HBv2 ee
   replace HBu3 := bD HBu3 ee
   replace HBv3 := bD HBv3 ee
   clear ee
   have hsa16 : w16.heap.size = w13.heap.size + 2 := by omega
   clear hq1 hq2
   clear hI hZ
   have rc := kc6 HBr; have sc := kc6 HBs; have xc := kc6 HBx; have pc := kc2 HBp; have ec := kc6 HBe; have uc := kc6 HBu; have vc := kc6 HBv; have u2c := kc6 HBu2; have v2c := kc6 HBv2; have u3c := kc6 HBu3; have v3c := kc6 HBv3
   have hI := i012_01_01_01_01_0 w w2 w7 w10 w13 w16
   have hZ := i012_01_01_01_012 w w2 w7 w10 w13
   refine callA 4 rfl fun K hK => ?_
   go_simp
   refine hK.out _ _ ?_ (fun hS42 => ?_)
   · exact Far.trans hS41 (Far.of (below_new _ _))
   clear hK K

   clear rc sc xc pc ec uc vc u2c v2c u3c v3c
   generalize ee : (w16.alloc (.cells #[.int .i64 x.kind, .string x.name, .int .i64 x.n, .slice ax mx cx, .int .i64 x.line, .int .i64 x.col, .int .i64 kh, .string sh, .int .i64 nh, .slice ah mh ch, .int .i64 uh, .int .i64 vh, .int .i64 kb, .string sb, .int .i64 nb, .slice ab mb cb, .int .i64 ub, .int .i64 vb] 27)) = w17 at *
   have hsa17 := sizeA ee
   replace HF := fA HF ee
   replace HBr := bA HBr ee
   replace HBs := bA HBs ee
   replace HBx := bA HBx ee
   replace HBp := bA HBp ee
   replace HBe := bA HBe ee
   replace HBu := bA HBu ee
   replace HBv := bA HBv ee
   replace HBu2 := bA HBu2 ee
   replace HBv2 := bA HBv2 ee
   replace HBu3 := bA HBu3 ee
   replace HBv3 := bA HBv3 ee
   have HBrow := nB ee (w13.heap.size + 2)
   clear ee
   clear hI hZ
   have rc := kc6 HBr; have sc := kc6 HBs; have xc := kc6 HBx; have pc := kc2 HBp; have ec := kc6 HBe; have uc := kc6 HBu; have vc := kc6 HBv; have u2c := kc6 HBu2; have v2c := kc6 HBv2; have u3c := kc6 HBu3; have v3c := kc6 HBv3
   have hI := i012_01_01_01_012_0 w w2 w7 w10 w13 w17
   have hZ := i012_01_01_01_0123 w w2 w7 w10 w13
   refine takeA 6 (v := ?_) rfl ?_ ?_
   rotate_left
   · (intro w hSw; (try dsimp only at hSw); go_simp; try with_reducible rfl)
   try simp only [Act.put, pu1, pu2, pu3]
   refine callA 8 rfl fun K hK => ?_
   go_simp
   refine hK.out _ _ ?_ (fun hS43 => ?_)
   · exact (by (iterate 6 (refine Far.setCell (p := ⟨(w.heap.size + 2), _, none⟩) ?_ (.inr rfl) _)); exact hS42)
   clear hK K
   refine wpAnyH_done (by kernel_rfl) ?_ _

   clear rc sc xc pc ec uc vc u2c v2c u3c v3c
   generalize ee : World.setCell _ ⟨(w.heap.size + 2), 5, none⟩ _ = w18
   have hsz18 := sizeS6 ee
   replace HF := fN6 HF ee
   replace HBr := bF6 HBr ee
   replace HBs := bF6 HBs ee
   replace HBx := bS6 HBx ee
   replace HBp := bF6 HBp ee
   replace HBe := bF6 HBe ee
   replace HBu := bF6 HBu ee
   replace HBv := bF6 HBv ee
   replace HBu2 := bF6 HBu2 ee
   replace HBv2 := bF6 HBv2 ee
   replace HBu3 := bF6 HBu3 ee
   replace HBv3 := bF6 HBv3 ee
   replace HBrow := bF6 HBrow ee
   clear ee
   clear hI hZ
   go_wp2_with (fail)
   have z := kc6 HBs; have y := kc6 HBx
   refine bodyPost_ret (v := .tuple #[.agg #[.slice aL n cap, .int .i64 (ib : Int), .int .i64 (deep : Int), .bool true, .int .i64 l_, .int .i64 c_], .agg #[.int .i64 6, .string ⟨#[]⟩, .int .i64 0, .slice (some ⟨w13.heap.size + 2, 0, none⟩) 3 3, .int .i64 (nowT ts i).l, .int .i64 (nowT ts i).c]]) (by clear HF H HBr HBs HBx HBp HBe HBu HBv HBu2 HBv2 HBu3 HBv3 HBrow; simp [results, Try.results14, go_sem, z, y]) rfl ?_
   exact ⟨_, _, _, _, _, _, _, _, _, _, rfl, refBelow HF.out⟩
 rw [hy] at hr
 first | simp only at hr | simp only [andT] at hr
 exact (HDD.out hif h40 x j y k hx hth hy).elim
end
end Go.Proofs.Ytnmlobakiclgiaa
