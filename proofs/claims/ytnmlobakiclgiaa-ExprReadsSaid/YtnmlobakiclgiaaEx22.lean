/-
 The document's reader's Expr: an Expr. Under what itself and rank do with less fuel.
-/
import Derived.Test.YtnmlobakiclgiaaEx18
import Derived.Test.YtnmlobakiclgiaaEx17
import Derived.Test.YtnmlobakiclgiaaEx19
namespace Go.Proofs.Ytnmlobakiclgiaa
open Go.RowKit
section
variable {ts : List Tk} {aL : Option Addr} {n cap : Nat}
attribute [local go_sem] tk_pos tk_text tk_kind0
set_option maxRecDepth 100000 in
set_option maxHeartbeats 20000000 in
theorem exprR_C {f i deep : Nat} {r : Rd1} {a0 b0 : Int} (hr : readE ts (f + 1) .expr i deep = some r) (hlt : isT ts i 5 wLet = true) (hC40 : ¬ deep = 40) (hCnm : ¬ (nowT ts (i + 1)).k ≠ 2) (hCfr : isT ts (i + 2) 5 wFree = false) (w : World) (hd : deep ≤ 40) (h : MemW w (.s 5 (tkRows ts)) (.slice aL n cap)) (hn : n ≤ 1048576) (HE : ReadsR ts aL n cap 14 .expr f) (_HO : ReadsK ts aL n cap f) :
  Calls Try.prog 14 #[rdV aL n cap (i : Int) (deep : Int) false a0 b0] w (AnsR aL n cap r deep a0 b0 w) := by
 have H := Lib.hid h
 clear h
 rw [readE] at hr
 try simp only at hr
 have HLT := Lib.hid hlt
 have HC40 := Lib.hid hC40
 have HCNM := Lib.hid hCnm
 have HCFR := Lib.hid hCfr
 clear hlt hC40 hCnm hCfr
 have HF : Hid (FarB w.heap.size w.heap.size w w) := Lib.hid (FarB.refl _ _ _)
 simp only [rdV]
 go_enter Try.func14, Try.ntmps14
 go_wp2_with (fail)
 generalize ee : World.alloc w _ = w1_1
 have hq1 := sizeA ee
 replace HF := fA HF ee
 have HBr := nB ee (w.heap.size)
 clear ee
 generalize ee : World.alloc w1_1 _ = w1_2
 have hq2 := sizeA ee
 replace HF := fA HF ee
 replace HBr := bA HBr ee
 have HBs := nB ee (w.heap.size + 1)
 clear ee
 generalize ee : World.alloc w1_2 _ = w1
 have hq3 := sizeA ee
 replace HF := fA HF ee
 replace HBr := bA HBr ee
 replace HBs := bA HBs ee
 have HBx := nB ee (w.heap.size + 2)
 clear ee
 have hsa1 : w1.heap.size = w.heap.size + 3 := by omega
 clear hq1 hq2 hq3
 have rc := kc6 HBr; have sc := kc6 HBs; have xc := kc6 HBx
 have hI := i012_0 w w1
 have hZ := i0123 w
 clear rc sc xc
 refine (nowR_any _ (refTok HF.out H.out)).mono ?_
 rintro _ w2 ⟨rfl, hb⟩
 replace HBr := kB HBr hb
 replace HBs := kB HBs hb
 replace HBx := kB HBx hb
 replace HF := kF HF hb
 have hs2 := hb.size
 clear hb
 simp only [tkV]
 clear hI hZ
 have rc := kc6 HBr; have sc := kc6 HBs; have xc := kc6 HBx
 have hI := i012_0 w w2
 go_wp2_with (fail)
 clear rc sc xc
 generalize ee : World.alloc w2 _ = w3_1
 have hq1 := sizeA ee
 replace HF := fA HF ee
 replace HBr := bA HBr ee
 replace HBs := bA HBs ee
 replace HBx := bA HBx ee
 have HBp := nB ee (w2.heap.size)
 clear ee
 generalize ee : World.alloc w3_1 _ = w3
 have hq2 := sizeA ee
 replace HF := fA HF ee
 replace HBr := bA HBr ee
 replace HBs := bA HBs ee
 replace HBx := bA HBx ee
 replace HBp := bA HBp ee
 have HBe := nB ee (w2.heap.size + 1)
 clear ee
 have hsa3 : w3.heap.size = w2.heap.size + 2 := by omega
 clear hq1 hq2
 clear hI
 have rc := kc6 HBr; have sc := kc6 HBs; have xc := kc6 HBx; have pc := kc2 HBp; have ec := kc6 HBe
 have hI := i012_01_0 w w2 w3
 have hZ := i012_012 w w2
 rcases hlet : isT ts i 5 wLet
 ·
  simp only [hlet, Bool.false_eq_true, if_false] at hr
  have hlt := HLT.out
  rw [hlet] at hlt
  cases hlt
 simp only [hlet, if_true] at hr
 clear rc sc xc pc ec
 refine (isR_ok (s := wLet) _ (refTok HF.out H.out)).mono ?_
 rintro _ w4 ⟨rfl, hb⟩
 replace HBr := kB HBr hb
 replace HBs := kB HBs hb
 replace HBx := kB HBx hb
 replace HBp := kB HBp hb
 replace HBe := kB HBe hb
 replace HF := kF HF hb
 have hs4 := hb.size
 clear hb
 rw [hlet]
 clear hI hZ
 have rc := kc6 HBr; have sc := kc6 HBs; have xc := kc6 HBx; have pc := kc2 HBp; have ec := kc6 HBe
 have hI := i012_01_0 w w2 w4
 go_wp2_with (fail)
 by_cases h40 : deep = 40
 ·
  rw [if_pos h40] at hr
  cases hr
  exact absurd h40 HC40.out
 rw [if_neg h40] at hr
 have hil : i < ts.length := isT_lt hlet (by decide)
 have hd1 : deep + 1 ≤ 40 := by omega
 clear rc sc xc pc ec
 refine (downR_ok2 _ (refTok HF.out H.out) (by omega) hil).mono ?_
 rintro _ w5 ⟨rfl, hb⟩
 replace HBr := kB HBr hb
 replace HBs := kB HBs hb
 replace HBx := kB HBx hb
 replace HBp := kB HBp hb
 replace HBe := kB HBe hb
 replace HF := kF HF hb
 have hs5 := hb.size
 clear hb
 simp only [rdV]
 clear hI
 have rc := kc6 HBr; have sc := kc6 HBs; have xc := kc6 HBx; have pc := kc2 HBp; have ec := kc6 HBe
 have hI := i012_01_0 w w2 w5
 go_wp2_with (fail)
 by_cases hnm : (nowT ts (i + 1)).k ≠ 2
 ·
  rw [if_pos hnm] at hr
  exact absurd hnm HCNM.out
 rw [if_neg hnm] at hr
 have hnk : (nowT ts (i + 1)).k = 2 := Decidable.not_not.1 hnm
 clear hnm
 have HNK := Lib.hid hnk
 clear hnk
 clear rc sc xc pc ec
 refine (nameR_ok (i := i + 1) _ (refTok HF.out H.out) HNK.out (by decide)).mono ?_
 rintro _ w6 ⟨rfl, hb⟩
 replace HBr := kB HBr hb
 replace HBs := kB HBs hb
 replace HBx := kB HBx hb
 replace HBp := kB HBp hb
 replace HBe := kB HBe hb
 replace HF := kF HF hb
 have hs6 := hb.size
 clear hb
 simp only [rdV]
 clear hI
 have rc := kc6 HBr; have sc := kc6 HBs; have xc := kc6 HBx; have pc := kc2 HBp; have ec := kc6 HBe
 have hI := i012_01_0 w w2 w6
 go_wp2_with (fail)
 clear rc sc xc pc ec
 generalize ee : World.setCell _ ⟨(w2.heap.size + 1), 5, none⟩ _ = w7_1
 have hq1 := sizeS6 ee
 replace HF := fN6 HF ee
 replace HBr := bF6 HBr ee
 replace HBs := bF6 HBs ee
 replace HBx := bF6 HBx ee
 replace HBp := bF6 HBp ee
 replace HBe := bS6 HBe ee
 clear ee
 generalize ee : World.alloc w7_1 _ = w7
 have hq2 := sizeA ee
 replace HF := fA HF ee
 replace HBr := bA HBr ee
 replace HBs := bA HBs ee
 replace HBx := bA HBx ee
 replace HBp := bA HBp ee
 replace HBe := bA HBe ee
 have HBu := nB ee (w6.heap.size)
 clear ee
 have hsa7 : w7.heap.size = w6.heap.size + 1 := by omega
 clear hq1 hq2
 clear hI
 have rc := kc6 HBr; have sc := kc6 HBs; have xc := kc6 HBx; have pc := kc2 HBp; have ec := kc6 HBe; have uc := kc6 HBu
 have hI := i012_01_0_0 w w2 w6 w7
 have hZ := i012_01_01 w w2 w6
 cases hfr : isT ts (i + 2) 5 wFree with
 | true =>
  simp only [hfr, if_true] at hr
  have h9 := HCFR.out
  rw [hfr] at h9
  cases h9
 | false =>
  simp only [hfr, Bool.false_eq_true, if_false] at hr
  clear rc sc xc pc ec uc
  refine (isR_ok (i := i + 2) (s := wFree) _ (refTok HF.out H.out)).mono ?_
  rintro _ w8 ⟨rfl, hb⟩
  replace HBr := kB HBr hb
  replace HBs := kB HBs hb
  replace HBx := kB HBx hb
  replace HBp := kB HBp hb
  replace HBe := kB HBe hb
  replace HBu := kB HBu hb
  replace HF := kF HF hb
  have hs8 := hb.size
  clear hb
  rw [hfr]
  clear hI hZ
  have rc := kc6 HBr; have sc := kc6 HBs; have xc := kc6 HBx; have pc := kc2 HBp; have ec := kc6 HBe; have uc := kc6 HBu
  have hI := i012_01_0_0 w w2 w6 w8
  go_wp2_with (fail)
  clear rc sc xc pc ec uc
  generalize ee : World.alloc w8 _ = w9
  have hsa9 := sizeA ee
  replace HF := fA HF ee
  replace HBr := bA HBr ee
  replace HBs := bA HBs ee
  replace HBx := bA HBx ee
  replace HBp := bA HBp ee
  replace HBe := bA HBe ee
  replace HBu := bA HBu ee
  have HBv := nB ee (w8.heap.size)
  clear ee
  clear hI
  have rc := kc6 HBr; have sc := kc6 HBs; have xc := kc6 HBx; have pc := kc2 HBp; have ec := kc6 HBe; have uc := kc6 HBu; have vc := kc6 HBv
  have hI := i012_01_0_0_0 w w2 w6 w8 w9
  have hZ := i012_01_0_01 w w2 w6 w8
  rcases heq : isT ts (i + 2) 6 wEq
  ·
   first | simp only [heq, Bool.false_eq_true, if_false] at hr | simp only [takeT, heq, Bool.false_eq_true, if_false] at hr
   cases hr
   clear rc sc xc pc ec uc vc
   refine (takeR_no (i := i + 2) _ (refTok HF.out H.out) heq).mono ?_
   rintro _ w10 ⟨rfl, hb⟩
   replace HBr := kB HBr hb
   replace HBs := kB HBs hb
   replace HBx := kB HBx hb
   replace HBp := kB HBp hb
   replace HBe := kB HBe hb
   replace HBu := kB HBu hb
   replace HBv := kB HBv hb
   replace HF := kF HF hb
   have hs10 := hb.size
   clear hb
   simp only [rdV]
   clear hI hZ
   have rc := kc6 HBr; have sc := kc6 HBs; have xc := kc6 HBx; have pc := kc2 HBp; have ec := kc6 HBe; have uc := kc6 HBu; have vc := kc6 HBv
   have hI := i012_01_0_0_0 w w2 w6 w8 w10
   go_wp2_with (fail)
   clear rc sc xc pc ec uc vc
   refine (exprR_bad (i := i + 2) _ (refTok HF.out H.out)).mono ?_
   rintro _ w11 ⟨iq, dq, kq, sq, nq, aq, mq, cq, uq, vq, rfl, hb⟩
   replace HBr := kB HBr hb
   replace HBs := kB HBs hb
   replace HBx := kB HBx hb
   replace HBp := kB HBp hb
   replace HBe := kB HBe hb
   replace HBu := kB HBu hb
   replace HBv := kB HBv hb
   replace HF := kF HF hb
   have hs11 := hb.size
   clear hb
   simp only [rdV]
   clear hI
   have rc := kc6 HBr; have sc := kc6 HBs; have xc := kc6 HBx; have pc := kc2 HBp; have ec := kc6 HBe; have uc := kc6 HBu; have vc := kc6 HBv
   have hI := i012_01_0_0_0 w w2 w6 w8 w11
   go_upto_region 14 with (fail)
   clear rc sc xc pc ec uc vc
   generalize ee : World.setCell _ ⟨w6.heap.size, 5, none⟩ _ = w12_1
   have hq1 := sizeS6 ee
   replace HF := fN6 HF ee
   replace HBr := bF6 HBr ee
   replace HBs := bF6 HBs ee
   replace HBx := bF6 HBx ee
   replace HBp := bF6 HBp ee
   replace HBe := bF6 HBe ee
   replace HBu := bS6 HBu ee
   replace HBv := bF6 HBv ee
   clear ee
   generalize ee : World.setCell _ ⟨w8.heap.size, 5, none⟩ _ = w12
   have hq2 := sizeS6 ee
   replace HF := fN6 HF ee
   replace HBr := bF6 HBr ee
   replace HBs := bF6 HBs ee
   replace HBx := bF6 HBx ee
   replace HBp := bF6 HBp ee
   replace HBe := bF6 HBe ee
   replace HBu := bF6 HBu ee
   replace HBv := bS6 HBv ee
   clear ee
   have hsz12 : w12.heap.size = w11.heap.size := by omega
   clear hq1 hq2
   clear hI
   have rc := kc6 HBr; have sc := kc6 HBs; have xc := kc6 HBx; have pc := kc2 HBp; have ec := kc6 HBe; have uc := kc6 HBu; have vc := kc6 HBv
   have hI := i012_01_0_0_0 w w2 w6 w8 w12
   have hZ := i012_01_0_0_0 w w2 w6 w8 w11
   go_upto_region 15 with (fail)
   clear rc sc xc pc ec uc vc
   generalize ee : World.setCell w12 _ _ = w13
   have hsz13 := sizeS1 ee
   replace HF := fN1 HF ee
   replace HBr := bF1 HBr ee
   replace HBs := bF1 HBs ee
   replace HBx := bF1 HBx ee
   replace HBp := bF1 HBp ee
   replace HBe : Hid (Bo w13 (w2.heap.size + 1) 27 #[.int .i64 7, .string (nowT ts (i + 1)).s, .int .i64 0, .slice none 0 0, .int .i64 (nowT ts i).l, .int .i64 (nowT ts i).c]) := Lib.hid (by rw [← ee]; exact HBe.out.set 0 (.int .i64 7))
   replace HBu := bF1 HBu ee
   replace HBv := bF1 HBv ee
   clear ee
   clear hI hZ
   have rc := kc6 HBr; have sc := kc6 HBs; have xc := kc6 HBx; have pc := kc2 HBp; have ec := kc6 HBe; have uc := kc6 HBu; have vc := kc6 HBv
   have hI := i012_01_0_0_0 w w2 w6 w8 w13
   have hZ := i012_01_0_0_0 w w2 w6 w8 w11
   go_upto_region 16 with (fail)
   clear rc sc xc pc ec uc vc
   generalize ee : World.setCell w13 _ _ = w14_1
   have hq1 := sizeS1 ee
   replace HF := fN1 HF ee
   replace HBr := bF1 HBr ee
   replace HBs := bF1 HBs ee
   replace HBx := bF1 HBx ee
   replace HBp := bF1 HBp ee
   replace HBe : Hid (Bo w14_1 (w2.heap.size + 1) 27 #[.int .i64 7, .string (nowT ts (i + 1)).s, .int .i64 0, .slice (some ⟨w11.heap.size, 0, none⟩) 1 1, .int .i64 (nowT ts i).l, .int .i64 (nowT ts i).c]) := Lib.hid (by rw [← ee]; exact HBe.out.set 3 (.slice (some ⟨w11.heap.size, 0, none⟩) 1 1))
   replace HBu := bF1 HBu ee
   replace HBv := bF1 HBv ee
   clear ee
   generalize ee : World.alloc w14_1 _ = w14
   have hq2 := sizeA ee
   replace HF := fA HF ee
   replace HBr := bA HBr ee
   replace HBs := bA HBs ee
   replace HBx := bA HBx ee
   replace HBp := bA HBp ee
   replace HBe := bA HBe ee
   replace HBu := bA HBu ee
   replace HBv := bA HBv ee
   have HBrow := nB ee (w11.heap.size)
   clear ee
   have hsa14 : w14.heap.size = w11.heap.size + 1 := by omega
   clear hq1 hq2
   clear hI hZ
   have rc := kc6 HBr; have sc := kc6 HBs; have xc := kc6 HBx; have pc := kc2 HBp; have ec := kc6 HBe; have uc := kc6 HBu; have vc := kc6 HBv; have rowc := kc6 HBrow
   have hI := i012_01_0_0_0_0 w w2 w6 w8 w11 w14
   have hZ := i012_01_0_0_01 w w2 w6 w8 w11
   clear rc sc xc pc ec uc vc rowc
   clear hI hZ
   have rc := kc6 HBr; have sc := kc6 HBs; have xc := kc6 HBx; have pc := kc2 HBp; have ec := kc6 HBe; have uc := kc6 HBu; have vc := kc6 HBv; have rowc := kc6 HBrow
   have hI := i012_01_0_0_0_0 w w2 w6 w8 w11 w14
   have hZ := i012_01_0_0_01 w w2 w6 w8 w11
   go_wp2_with (fail)
   clear rc sc xc pc ec uc vc rowc
   refine (takeR_bad (i := iq) _ (refTok HF.out H.out)).mono ?_
   rintro _ w15 ⟨rfl, hb⟩
   replace HBr := kB HBr hb
   replace HBs := kB HBs hb
   replace HBx := kB HBx hb
   replace HBp := kB HBp hb
   replace HBe := kB HBe hb
   replace HBu := kB HBu hb
   replace HBv := kB HBv hb
   replace HBrow := kB HBrow hb
   replace HF := kF HF hb
   have hs15 := hb.size
   clear hb
   simp only [rdV]
   clear hI hZ
   have rc := kc6 HBr; have sc := kc6 HBs; have xc := kc6 HBx; have pc := kc2 HBp; have ec := kc6 HBe; have uc := kc6 HBu; have vc := kc6 HBv; have rowc := kc6 HBrow
   have hI := i012_01_0_0_0_0 w w2 w6 w8 w11 w15
   go_wp2_with (fail)
   clear rc sc xc pc ec uc vc rowc
   refine (exprR_bad (i := iq) _ (refTok HF.out H.out)).mono ?_
   rintro _ w16 ⟨ih, dh, kh, sh, nh, ah, mh, ch, uh, vh, rfl, hb⟩
   replace HBr := kB HBr hb
   replace HBs := kB HBs hb
   replace HBx := kB HBx hb
   replace HBp := kB HBp hb
   replace HBe := kB HBe hb
   replace HBu := kB HBu hb
   replace HBv := kB HBv hb
   replace HBrow := kB HBrow hb
   replace HF := kF HF hb
   have hs16 := hb.size
   clear hb
   simp only [rdV]
   clear hI
   have rc := kc6 HBr; have sc := kc6 HBs; have xc := kc6 HBx; have pc := kc2 HBp; have ec := kc6 HBe; have uc := kc6 HBu; have vc := kc6 HBv; have rowc := kc6 HBrow
   have hI := i012_01_0_0_0_0 w w2 w6 w8 w11 w16
   go_upto_region 17 with (fail)
   clear rc sc xc pc ec uc vc rowc
   generalize ee : World.alloc w16 _ = w17_1
   have hq1 := sizeA ee
   replace HF := fA HF ee
   replace HBr := bA HBr ee
   replace HBs := bA HBs ee
   replace HBx := bA HBx ee
   replace HBp := bA HBp ee
   replace HBe := bA HBe ee
   replace HBu := bA HBu ee
   replace HBv := bA HBv ee
   replace HBrow := bA HBrow ee
   have HBu2 := nB ee (w16.heap.size)
   clear ee
   generalize ee : World.alloc w17_1 _ = w17
   have hq2 := sizeA ee
   replace HF := fA HF ee
   replace HBr := bA HBr ee
   replace HBs := bA HBs ee
   replace HBx := bA HBx ee
   replace HBp := bA HBp ee
   replace HBe := bA HBe ee
   replace HBu := bA HBu ee
   replace HBv := bA HBv ee
   replace HBrow := bA HBrow ee
   replace HBu2 := bA HBu2 ee
   have HBv2 := nB ee (w16.heap.size + 1)
   clear ee
   have hsa17 : w17.heap.size = w16.heap.size + 2 := by omega
   clear hq1 hq2
   clear hI
   have rc := kc6 HBr; have sc := kc6 HBs; have xc := kc6 HBx; have pc := kc2 HBp; have ec := kc6 HBe; have uc := kc6 HBu; have vc := kc6 HBv; have rowc := kc6 HBrow; have u2c := kc6 HBu2; have v2c := kc6 HBv2
   have hI := i012_01_0_0_0_01_0 w w2 w6 w8 w11 w16 w17
   have hZ := i012_01_0_0_0_012 w w2 w6 w8 w11 w16
   clear rc sc xc pc ec uc vc rowc u2c v2c
   have HSw : Hid (OwnS (fun _ => True) 0 27 6 w17 (.slice (some ⟨w11.heap.size, 0, none⟩) 1 1) _) := Lib.hid (OwnS.ofBo kq sq nq aq mq cq uq vq HBrow.out (Nat.zero_le _))
   clear hI hZ
   have rc := kc6 HBr; have sc := kc6 HBs; have xc := kc6 HBx; have pc := kc2 HBp; have ec := kc6 HBe; have uc := kc6 HBu; have vc := kc6 HBv; have rowc := kc6 HBrow; have u2c := kc6 HBu2; have v2c := kc6 HBv2
   have hI := i012_01_0_0_0_01_0 w w2 w6 w8 w11 w16 w17
   have hZ := i012_01_0_0_0_012 w w2 w6 w8 w11 w16
   go_wp2_with (first | (at_builtin; refine wpList_append_S2 (y := .slice (some ⟨w11.heap.size, 0, none⟩) 1 1) (new := [rawRow kh sh nh ah mh ch uh vh]) rfl _ _ rfl Try.underlying23 info_ex rfl (by decide) rfl rfl (HSw.out.alloc _) (by simp) (rawRowS (W := w17) HSw.out kh sh nh ah mh ch uh vh trivial (Nat.le_refl _) (by omega)) (by simp) (by simp) (Nat.zero_le _) ?_; intro v9 w18 ho hgr hwh; have HO9 := Lib.hid ho; clear ho; have HG9 := Lib.hid hgr; clear hgr; have HWH := Lib.hid hwh; clear hwh; refine Hid.out ?_))
   refine Lib.hid ?_
   clear rc sc xc pc ec uc vc rowc u2c v2c
   clear hI hZ
   clear HBrow
   have hs9 : w17.heap.size + 1 ≤ w18.heap.size := by have h := HG9.out.size; rw [World.size_alloc] at h; exact h
   replace HF := gF w11.heap.size HF HG9.out rfl
   replace HBr := gB w11.heap.size HBr HG9.out rfl
   replace HBs := gB w11.heap.size HBs HG9.out rfl
   replace HBx := gB w11.heap.size HBx HG9.out rfl
   replace HBp := gB w11.heap.size HBp HG9.out rfl
   replace HBe := gB w11.heap.size HBe HG9.out rfl
   replace HBu := gB w11.heap.size HBu HG9.out rfl
   replace HBv := gB w11.heap.size HBv HG9.out rfl
   replace HBu2 := gB w11.heap.size HBu2 HG9.out rfl
   replace HBv2 := gB w11.heap.size HBv2 HG9.out rfl
   obtain ⟨a2, m2, c2, rfl, hmm, hmc, hmx⟩ := HO9.out.form
   clear hmm hmc hmx
   have rc := kc6 HBr; have sc := kc6 HBs; have xc := kc6 HBx; have pc := kc2 HBp; have ec := kc6 HBe; have uc := kc6 HBu; have vc := kc6 HBv; have u2c := kc6 HBu2; have v2c := kc6 HBv2
   have hI := i012_01_0_0_01_0 w w2 w6 w8 w16 w18
   go_wp2_with (fail)
   clear rc sc xc pc ec uc vc u2c v2c
   generalize ee : World.setCell w18 _ _ = w19_1
   have hq1 := sizeS1 ee
   replace HF := fN1 HF ee
   replace HBr := bF1 HBr ee
   replace HBs := bF1 HBs ee
   replace HBx := bF1 HBx ee
   replace HBp := bF1 HBp ee
   replace HBe : Hid (Bo w19_1 (w2.heap.size + 1) 27 #[.int .i64 7, .string (nowT ts (i + 1)).s, .int .i64 0, .slice a2 m2 c2, .int .i64 (nowT ts i).l, .int .i64 (nowT ts i).c]) := Lib.hid (by rw [← ee]; exact HBe.out.set 3 (.slice a2 m2 c2))
   replace HBu := bF1 HBu ee
   replace HBv := bF1 HBv ee
   replace HBu2 := bF1 HBu2 ee
   replace HBv2 := bF1 HBv2 ee
   clear ee
   generalize ee : World.setCell w19_1 _ _ = w19
   have hq2 := sizeS1 ee
   replace HF := fN1 HF ee
   replace HBr := bF1 HBr ee
   replace HBs := bF1 HBs ee
   replace HBx := bF1 HBx ee
   replace HBp := bF1 HBp ee
   replace HBe := bF1 HBe ee
   replace HBu := bF1 HBu ee
   replace HBv := bF1 HBv ee
   replace HBu2 : Hid (Bo w19 w16.heap.size 47 #[.slice aL n cap, .int .i64 (ih : Int), .int .i64 (deep : Int), .bool true, .int .i64 (nowT ts (i + 2)).l, .int .i64 (nowT ts (i + 2)).c]) := Lib.hid (by rw [← ee]; exact HBu2.out.set 2 (.int .i64 (deep : Int)))
   replace HBv2 := bF1 HBv2 ee
   clear ee
   have hsz19 : w19.heap.size = w18.heap.size := by omega
   clear hq1 hq2
   clear hI
   have rc := kc6 HBr; have sc := kc6 HBs; have xc := kc6 HBx; have pc := kc2 HBp; have ec := kc6 HBe; have uc := kc6 HBu; have vc := kc6 HBv; have u2c := kc6 HBu2; have v2c := kc6 HBv2
   have hI := i012_01_0_0_01_0 w w2 w6 w8 w16 w19
   have hZ := i012_01_0_0_01_0 w w2 w6 w8 w16 w18
   clear rc sc xc pc ec uc vc u2c v2c
   clear hI hZ
   clear HBr HBp HBu HBv HBv2
   have sc := kc6 HBs; have xc := kc6 HBx; have ec := kc6 HBe; have u2c := kc6 HBu2
   have hI := i12_1_0_0 w w2 w16 w19
   have hZ := i12_1_0_0 w w2 w16 w18
   refine wp_region_held_drew (S := fun w' => Far (fun b => b = (w.heap.size + 1) ∨ b = (w.heap.size + 2)) (w19) w') (by kernel_rfl) (Far.of (below_drew _)) (fun hS40 => ?_)
   refine takeA 0 (v := ?_) rfl ?_ ?_
   rotate_left
   · (intro w hSw; (try dsimp only at hSw); replace u2c := Far.c6z u2c hSw; go_simp; try with_reducible rfl)
   try simp only [Act.put, pu1, pu2, pu3]
   refine takeA 1 (v := ?_) rfl ?_ ?_
   rotate_left
   · (intro w hSw; (try dsimp only at hSw); replace ec := Far.c6z ec hSw; go_simp; try with_reducible rfl)
   try simp only [Act.put, pu1, pu2, pu3]

   refine callA 2 rfl fun K hK => ?_
   go_simp
   refine hK.out _ _ ?_ (fun hS41 => ?_)
   · exact (by refine Far.trans ?_ (Far.of (below_drew _)); (iterate 6 (refine Far.setCell (p := ⟨(w.heap.size + 1), _, none⟩) ?_ (.inl rfl) _)); exact Far.refl _ _)
   clear hK K

   clear sc xc ec u2c
   generalize ee : ((((((w19.setCell ⟨(w.heap.size + 1), 0, none⟩ (.slice aL n cap)).setCell ⟨(w.heap.size + 1), 1, none⟩ (.int .i64 (ih : Int))).setCell ⟨(w.heap.size + 1), 2, none⟩ (.int .i64 (deep : Int))).setCell ⟨(w.heap.size + 1), 3, none⟩ (.bool true)).setCell ⟨(w.heap.size + 1), 4, none⟩ (.int .i64 (nowT ts (i + 2)).l)).setCell ⟨(w.heap.size + 1), 5, none⟩ (.int .i64 (nowT ts (i + 2)).c)) = w20_1 at *
   have hq1 := sizeS6 ee
   replace HF := fN6 HF ee
   replace HBs := bS6 HBs ee
   replace HBx := bF6 HBx ee
   replace HBe := bF6 HBe ee
   replace HBu2 := bF6 HBu2 ee
   clear ee
   generalize ee : (w20_1.drew) = w20 at *
   have hq2 := sizeD ee
   replace HF := fD HF ee
   replace HBs := bD HBs ee
   replace HBx := bD HBx ee
   replace HBe := bD HBe ee
   replace HBu2 := bD HBu2 ee
   clear ee
   have hsa20 : w20.heap.size = w18.heap.size + 0 := by omega
   clear hq1 hq2
   clear hI hZ
   have sc := kc6 HBs; have xc := kc6 HBx; have ec := kc6 HBe; have u2c := kc6 HBu2
   have hI := i12_1_0_0 w w2 w16 w20
   have hZ := i12_1_0_0 w w2 w16 w18
   refine callA 3 rfl fun K hK => ?_
   go_simp
   refine hK.out _ _ ?_ (fun hS42 => ?_)
   · exact (by (iterate 6 (refine Far.setCell (p := ⟨(w.heap.size + 2), _, none⟩) ?_ (.inr rfl) _)); exact hS41)
   clear hK K
   refine wpAnyH_done (by kernel_rfl) ?_ _

   clear sc xc ec u2c
   generalize ee : World.setCell _ ⟨(w.heap.size + 2), 5, none⟩ _ = w21
   have hsz21 := sizeS6 ee
   replace HF := fN6 HF ee
   replace HBs := bF6 HBs ee
   replace HBx := bS6 HBx ee
   replace HBe := bF6 HBe ee
   replace HBu2 := bF6 HBu2 ee
   clear ee
   clear hI hZ
   go_wp2_with (fail)
   have z := kc6 HBs; have y := kc6 HBx
   refine bodyPost_ret (v := .tuple #[.agg #[.slice aL n cap, .int .i64 (ih : Int), .int .i64 (deep : Int), .bool true, .int .i64 (nowT ts (i + 2)).l, .int .i64 (nowT ts (i + 2)).c], .agg #[.int .i64 7, .string (nowT ts (i + 1)).s, .int .i64 0, .slice a2 m2 c2, .int .i64 (nowT ts i).l, .int .i64 (nowT ts i).c]]) (by clear HF H HBs HBx HBe HBu2; simp [results, Try.results14, go_sem, z, y]) rfl ?_
   exact ⟨_, _, _, _, _, _, _, _, _, _, rfl, refBelow HF.out⟩
  first | simp only [heq, if_true] at hr | simp only [takeT, heq, if_true] at hr
  clear rc sc xc pc ec uc vc
  refine (takeR_ok (i := i + 2) _ (refTok HF.out H.out) heq (by decide)).mono ?_
  rintro _ w10 ⟨rfl, hb⟩
  replace HBr := kB HBr hb
  replace HBs := kB HBs hb
  replace HBx := kB HBx hb
  replace HBp := kB HBp hb
  replace HBe := kB HBe hb
  replace HBu := kB HBu hb
  replace HBv := kB HBv hb
  replace HF := kF HF hb
  have hs10 := hb.size
  clear hb
  simp only [rdV]
  clear hI hZ
  have rc := kc6 HBr; have sc := kc6 HBs; have xc := kc6 HBx; have pc := kc2 HBp; have ec := kc6 HBe; have uc := kc6 HBu; have vc := kc6 HBv
  have hI := i012_01_0_0_0 w w2 w6 w8 w10
  go_wp2_with (fail)
  rcases hx : readE ts f .expr (i + 3) (deep + 1) with _ | ⟨x, j⟩ | ⟨l_, c_⟩
  · (rw [hx] at hr; cases hr)
  rotate_left
  ·
   rw [hx] at hr
   first | simp only at hr | simp only [andT] at hr
   cases hr
   clear rc sc xc pc ec uc vc
   refine (HE (i + 3) (deep + 1) _ _ _ _ hd1 (refTok HF.out H.out) hn hx).mono ?_
   rintro _ w11 ⟨iq, dq, kq, sq, nq, aq, mq, cq, uq, vq, rfl, hb⟩
   replace HBr := kB HBr hb
   replace HBs := kB HBs hb
   replace HBx := kB HBx hb
   replace HBp := kB HBp hb
   replace HBe := kB HBe hb
   replace HBu := kB HBu hb
   replace HBv := kB HBv hb
   replace HF := kF HF hb
   have hs11 := hb.size
   clear hb
   simp only [rdV]
   clear hI
   have rc := kc6 HBr; have sc := kc6 HBs; have xc := kc6 HBx; have pc := kc2 HBp; have ec := kc6 HBe; have uc := kc6 HBu; have vc := kc6 HBv
   have hI := i012_01_0_0_0 w w2 w6 w8 w11
   go_upto_region 14 with (fail)
   clear rc sc xc pc ec uc vc
   generalize ee : World.setCell _ ⟨w6.heap.size, 5, none⟩ _ = w12_1
   have hq1 := sizeS6 ee
   replace HF := fN6 HF ee
   replace HBr := bF6 HBr ee
   replace HBs := bF6 HBs ee
   replace HBx := bF6 HBx ee
   replace HBp := bF6 HBp ee
   replace HBe := bF6 HBe ee
   replace HBu := bS6 HBu ee
   replace HBv := bF6 HBv ee
   clear ee
   generalize ee : World.setCell _ ⟨w8.heap.size, 5, none⟩ _ = w12
   have hq2 := sizeS6 ee
   replace HF := fN6 HF ee
   replace HBr := bF6 HBr ee
   replace HBs := bF6 HBs ee
   replace HBx := bF6 HBx ee
   replace HBp := bF6 HBp ee
   replace HBe := bF6 HBe ee
   replace HBu := bF6 HBu ee
   replace HBv := bS6 HBv ee
   clear ee
   have hsz12 : w12.heap.size = w11.heap.size := by omega
   clear hq1 hq2
   clear hI
   have rc := kc6 HBr; have sc := kc6 HBs; have xc := kc6 HBx; have pc := kc2 HBp; have ec := kc6 HBe; have uc := kc6 HBu; have vc := kc6 HBv
   have hI := i012_01_0_0_0 w w2 w6 w8 w12
   have hZ := i012_01_0_0_0 w w2 w6 w8 w11
   go_upto_region 15 with (fail)
   clear rc sc xc pc ec uc vc
   generalize ee : World.setCell w12 _ _ = w13
   have hsz13 := sizeS1 ee
   replace HF := fN1 HF ee
   replace HBr := bF1 HBr ee
   replace HBs := bF1 HBs ee
   replace HBx := bF1 HBx ee
   replace HBp := bF1 HBp ee
   replace HBe : Hid (Bo w13 (w2.heap.size + 1) 27 #[.int .i64 7, .string (nowT ts (i + 1)).s, .int .i64 0, .slice none 0 0, .int .i64 (nowT ts i).l, .int .i64 (nowT ts i).c]) := Lib.hid (by rw [← ee]; exact HBe.out.set 0 (.int .i64 7))
   replace HBu := bF1 HBu ee
   replace HBv := bF1 HBv ee
   clear ee
   clear hI hZ
   have rc := kc6 HBr; have sc := kc6 HBs; have xc := kc6 HBx; have pc := kc2 HBp; have ec := kc6 HBe; have uc := kc6 HBu; have vc := kc6 HBv
   have hI := i012_01_0_0_0 w w2 w6 w8 w13
   have hZ := i012_01_0_0_0 w w2 w6 w8 w11
   go_upto_region 16 with (fail)
   clear rc sc xc pc ec uc vc
   generalize ee : World.setCell w13 _ _ = w14_1
   have hq1 := sizeS1 ee
   replace HF := fN1 HF ee
   replace HBr := bF1 HBr ee
   replace HBs := bF1 HBs ee
   replace HBx := bF1 HBx ee
   replace HBp := bF1 HBp ee
   replace HBe : Hid (Bo w14_1 (w2.heap.size + 1) 27 #[.int .i64 7, .string (nowT ts (i + 1)).s, .int .i64 0, .slice (some ⟨w11.heap.size, 0, none⟩) 1 1, .int .i64 (nowT ts i).l, .int .i64 (nowT ts i).c]) := Lib.hid (by rw [← ee]; exact HBe.out.set 3 (.slice (some ⟨w11.heap.size, 0, none⟩) 1 1))
   replace HBu := bF1 HBu ee
   replace HBv := bF1 HBv ee
   clear ee
   generalize ee : World.alloc w14_1 _ = w14
   have hq2 := sizeA ee
   replace HF := fA HF ee
   replace HBr := bA HBr ee
   replace HBs := bA HBs ee
   replace HBx := bA HBx ee
   replace HBp := bA HBp ee
   replace HBe := bA HBe ee
   replace HBu := bA HBu ee
   replace HBv := bA HBv ee
   have HBrow := nB ee (w11.heap.size)
   clear ee
   have hsa14 : w14.heap.size = w11.heap.size + 1 := by omega
   clear hq1 hq2
   clear hI hZ
   have rc := kc6 HBr; have sc := kc6 HBs; have xc := kc6 HBx; have pc := kc2 HBp; have ec := kc6 HBe; have uc := kc6 HBu; have vc := kc6 HBv; have rowc := kc6 HBrow
   have hI := i012_01_0_0_0_0 w w2 w6 w8 w11 w14
   have hZ := i012_01_0_0_01 w w2 w6 w8 w11
   clear rc sc xc pc ec uc vc rowc
   clear hI hZ
   have rc := kc6 HBr; have sc := kc6 HBs; have xc := kc6 HBx; have pc := kc2 HBp; have ec := kc6 HBe; have uc := kc6 HBu; have vc := kc6 HBv; have rowc := kc6 HBrow
   have hI := i012_01_0_0_0_0 w w2 w6 w8 w11 w14
   have hZ := i012_01_0_0_01 w w2 w6 w8 w11
   go_wp2_with (fail)
   clear rc sc xc pc ec uc vc rowc
   refine (takeR_bad (i := iq) _ (refTok HF.out H.out)).mono ?_
   rintro _ w15 ⟨rfl, hb⟩
   replace HBr := kB HBr hb
   replace HBs := kB HBs hb
   replace HBx := kB HBx hb
   replace HBp := kB HBp hb
   replace HBe := kB HBe hb
   replace HBu := kB HBu hb
   replace HBv := kB HBv hb
   replace HBrow := kB HBrow hb
   replace HF := kF HF hb
   have hs15 := hb.size
   clear hb
   simp only [rdV]
   clear hI hZ
   have rc := kc6 HBr; have sc := kc6 HBs; have xc := kc6 HBx; have pc := kc2 HBp; have ec := kc6 HBe; have uc := kc6 HBu; have vc := kc6 HBv; have rowc := kc6 HBrow
   have hI := i012_01_0_0_0_0 w w2 w6 w8 w11 w15
   go_wp2_with (fail)
   clear rc sc xc pc ec uc vc rowc
   refine (exprR_bad (i := iq) _ (refTok HF.out H.out)).mono ?_
   rintro _ w16 ⟨ih, dh, kh, sh, nh, ah, mh, ch, uh, vh, rfl, hb⟩
   replace HBr := kB HBr hb
   replace HBs := kB HBs hb
   replace HBx := kB HBx hb
   replace HBp := kB HBp hb
   replace HBe := kB HBe hb
   replace HBu := kB HBu hb
   replace HBv := kB HBv hb
   replace HBrow := kB HBrow hb
   replace HF := kF HF hb
   have hs16 := hb.size
   clear hb
   simp only [rdV]
   clear hI
   have rc := kc6 HBr; have sc := kc6 HBs; have xc := kc6 HBx; have pc := kc2 HBp; have ec := kc6 HBe; have uc := kc6 HBu; have vc := kc6 HBv; have rowc := kc6 HBrow
   have hI := i012_01_0_0_0_0 w w2 w6 w8 w11 w16
   go_upto_region 17 with (fail)
   clear rc sc xc pc ec uc vc rowc
   generalize ee : World.alloc w16 _ = w17_1
   have hq1 := sizeA ee
   replace HF := fA HF ee
   replace HBr := bA HBr ee
   replace HBs := bA HBs ee
   replace HBx := bA HBx ee
   replace HBp := bA HBp ee
   replace HBe := bA HBe ee
   replace HBu := bA HBu ee
   replace HBv := bA HBv ee
   replace HBrow := bA HBrow ee
   have HBu2 := nB ee (w16.heap.size)
   clear ee
   generalize ee : World.alloc w17_1 _ = w17
   have hq2 := sizeA ee
   replace HF := fA HF ee
   replace HBr := bA HBr ee
   replace HBs := bA HBs ee
   replace HBx := bA HBx ee
   replace HBp := bA HBp ee
   replace HBe := bA HBe ee
   replace HBu := bA HBu ee
   replace HBv := bA HBv ee
   replace HBrow := bA HBrow ee
   replace HBu2 := bA HBu2 ee
   have HBv2 := nB ee (w16.heap.size + 1)
   clear ee
   have hsa17 : w17.heap.size = w16.heap.size + 2 := by omega
   clear hq1 hq2
   clear hI
   have rc := kc6 HBr; have sc := kc6 HBs; have xc := kc6 HBx; have pc := kc2 HBp; have ec := kc6 HBe; have uc := kc6 HBu; have vc := kc6 HBv; have rowc := kc6 HBrow; have u2c := kc6 HBu2; have v2c := kc6 HBv2
   have hI := i012_01_0_0_0_01_0 w w2 w6 w8 w11 w16 w17
   have hZ := i012_01_0_0_0_012 w w2 w6 w8 w11 w16
   clear rc sc xc pc ec uc vc rowc u2c v2c
   have HSw : Hid (OwnS (fun _ => True) 0 27 6 w17 (.slice (some ⟨w11.heap.size, 0, none⟩) 1 1) _) := Lib.hid (OwnS.ofBo kq sq nq aq mq cq uq vq HBrow.out (Nat.zero_le _))
   clear hI hZ
   have rc := kc6 HBr; have sc := kc6 HBs; have xc := kc6 HBx; have pc := kc2 HBp; have ec := kc6 HBe; have uc := kc6 HBu; have vc := kc6 HBv; have rowc := kc6 HBrow; have u2c := kc6 HBu2; have v2c := kc6 HBv2
   have hI := i012_01_0_0_0_01_0 w w2 w6 w8 w11 w16 w17
   have hZ := i012_01_0_0_0_012 w w2 w6 w8 w11 w16
   go_wp2_with (first | (at_builtin; refine wpList_append_S2 (y := .slice (some ⟨w11.heap.size, 0, none⟩) 1 1) (new := [rawRow kh sh nh ah mh ch uh vh]) rfl _ _ rfl Try.underlying23 info_ex rfl (by decide) rfl rfl (HSw.out.alloc _) (by simp) (rawRowS (W := w17) HSw.out kh sh nh ah mh ch uh vh trivial (Nat.le_refl _) (by omega)) (by simp) (by simp) (Nat.zero_le _) ?_; intro v9 w18 ho hgr hwh; have HO9 := Lib.hid ho; clear ho; have HG9 := Lib.hid hgr; clear hgr; have HWH := Lib.hid hwh; clear hwh; refine Hid.out ?_))
   refine Lib.hid ?_
   clear rc sc xc pc ec uc vc rowc u2c v2c
   clear hI hZ
   clear HBrow
   have hs9 : w17.heap.size + 1 ≤ w18.heap.size := by have h := HG9.out.size; rw [World.size_alloc] at h; exact h
   replace HF := gF w11.heap.size HF HG9.out rfl
   replace HBr := gB w11.heap.size HBr HG9.out rfl
   replace HBs := gB w11.heap.size HBs HG9.out rfl
   replace HBx := gB w11.heap.size HBx HG9.out rfl
   replace HBp := gB w11.heap.size HBp HG9.out rfl
   replace HBe := gB w11.heap.size HBe HG9.out rfl
   replace HBu := gB w11.heap.size HBu HG9.out rfl
   replace HBv := gB w11.heap.size HBv HG9.out rfl
   replace HBu2 := gB w11.heap.size HBu2 HG9.out rfl
   replace HBv2 := gB w11.heap.size HBv2 HG9.out rfl
   obtain ⟨a2, m2, c2, rfl, hmm, hmc, hmx⟩ := HO9.out.form
   clear hmm hmc hmx
   have rc := kc6 HBr; have sc := kc6 HBs; have xc := kc6 HBx; have pc := kc2 HBp; have ec := kc6 HBe; have uc := kc6 HBu; have vc := kc6 HBv; have u2c := kc6 HBu2; have v2c := kc6 HBv2
   have hI := i012_01_0_0_01_0 w w2 w6 w8 w16 w18
   go_wp2_with (fail)
   clear rc sc xc pc ec uc vc u2c v2c
   generalize ee : World.setCell w18 _ _ = w19_1
   have hq1 := sizeS1 ee
   replace HF := fN1 HF ee
   replace HBr := bF1 HBr ee
   replace HBs := bF1 HBs ee
   replace HBx := bF1 HBx ee
   replace HBp := bF1 HBp ee
   replace HBe : Hid (Bo w19_1 (w2.heap.size + 1) 27 #[.int .i64 7, .string (nowT ts (i + 1)).s, .int .i64 0, .slice a2 m2 c2, .int .i64 (nowT ts i).l, .int .i64 (nowT ts i).c]) := Lib.hid (by rw [← ee]; exact HBe.out.set 3 (.slice a2 m2 c2))
   replace HBu := bF1 HBu ee
   replace HBv := bF1 HBv ee
   replace HBu2 := bF1 HBu2 ee
   replace HBv2 := bF1 HBv2 ee
   clear ee
   generalize ee : World.setCell w19_1 _ _ = w19
   have hq2 := sizeS1 ee
   replace HF := fN1 HF ee
   replace HBr := bF1 HBr ee
   replace HBs := bF1 HBs ee
   replace HBx := bF1 HBx ee
   replace HBp := bF1 HBp ee
   replace HBe := bF1 HBe ee
   replace HBu := bF1 HBu ee
   replace HBv := bF1 HBv ee
   replace HBu2 : Hid (Bo w19 w16.heap.size 47 #[.slice aL n cap, .int .i64 (ih : Int), .int .i64 (deep : Int), .bool true, .int .i64 l_, .int .i64 c_]) := Lib.hid (by rw [← ee]; exact HBu2.out.set 2 (.int .i64 (deep : Int)))
   replace HBv2 := bF1 HBv2 ee
   clear ee
   have hsz19 : w19.heap.size = w18.heap.size := by omega
   clear hq1 hq2
   clear hI
   have rc := kc6 HBr; have sc := kc6 HBs; have xc := kc6 HBx; have pc := kc2 HBp; have ec := kc6 HBe; have uc := kc6 HBu; have vc := kc6 HBv; have u2c := kc6 HBu2; have v2c := kc6 HBv2
   have hI := i012_01_0_0_01_0 w w2 w6 w8 w16 w19
   have hZ := i012_01_0_0_01_0 w w2 w6 w8 w16 w18
   clear rc sc xc pc ec uc vc u2c v2c
   clear hI hZ
   clear HBr HBp HBu HBv HBv2
   have sc := kc6 HBs; have xc := kc6 HBx; have ec := kc6 HBe; have u2c := kc6 HBu2
   have hI := i12_1_0_0 w w2 w16 w19
   have hZ := i12_1_0_0 w w2 w16 w18
   refine wp_region_held_drew (S := fun w' => Far (fun b => b = (w.heap.size + 1) ∨ b = (w.heap.size + 2)) (w19) w') (by kernel_rfl) (Far.of (below_drew _)) (fun hS40 => ?_)
   refine takeA 0 (v := ?_) rfl ?_ ?_
   rotate_left
   · (intro w hSw; (try dsimp only at hSw); replace u2c := Far.c6z u2c hSw; go_simp; try with_reducible rfl)
   try simp only [Act.put, pu1, pu2, pu3]
   refine takeA 1 (v := ?_) rfl ?_ ?_
   rotate_left
   · (intro w hSw; (try dsimp only at hSw); replace ec := Far.c6z ec hSw; go_simp; try with_reducible rfl)
   try simp only [Act.put, pu1, pu2, pu3]

   refine callA 2 rfl fun K hK => ?_
   go_simp
   refine hK.out _ _ ?_ (fun hS41 => ?_)
   · exact (by refine Far.trans ?_ (Far.of (below_drew _)); (iterate 6 (refine Far.setCell (p := ⟨(w.heap.size + 1), _, none⟩) ?_ (.inl rfl) _)); exact Far.refl _ _)
   clear hK K

   clear sc xc ec u2c
   generalize ee : ((((((w19.setCell ⟨(w.heap.size + 1), 0, none⟩ (.slice aL n cap)).setCell ⟨(w.heap.size + 1), 1, none⟩ (.int .i64 (ih : Int))).setCell ⟨(w.heap.size + 1), 2, none⟩ (.int .i64 (deep : Int))).setCell ⟨(w.heap.size + 1), 3, none⟩ (.bool true)).setCell ⟨(w.heap.size + 1), 4, none⟩ (.int .i64 l_)).setCell ⟨(w.heap.size + 1), 5, none⟩ (.int .i64 c_)) = w20_1 at *
   have hq1 := sizeS6 ee
   replace HF := fN6 HF ee
   replace HBs := bS6 HBs ee
   replace HBx := bF6 HBx ee
   replace HBe := bF6 HBe ee
   replace HBu2 := bF6 HBu2 ee
   clear ee
   generalize ee : (w20_1.drew) = w20 at *
   have hq2 := sizeD ee
   replace HF := fD HF ee
   replace HBs := bD HBs ee
   replace HBx := bD HBx ee
   replace HBe := bD HBe ee
   replace HBu2 := bD HBu2 ee
   clear ee
   have hsa20 : w20.heap.size = w18.heap.size + 0 := by omega
   clear hq1 hq2
   clear hI hZ
   have sc := kc6 HBs; have xc := kc6 HBx; have ec := kc6 HBe; have u2c := kc6 HBu2
   have hI := i12_1_0_0 w w2 w16 w20
   have hZ := i12_1_0_0 w w2 w16 w18
   refine callA 3 rfl fun K hK => ?_
   go_simp
   refine hK.out _ _ ?_ (fun hS42 => ?_)
   · exact (by (iterate 6 (refine Far.setCell (p := ⟨(w.heap.size + 2), _, none⟩) ?_ (.inr rfl) _)); exact hS41)
   clear hK K
   refine wpAnyH_done (by kernel_rfl) ?_ _

   clear sc xc ec u2c
   generalize ee : World.setCell _ ⟨(w.heap.size + 2), 5, none⟩ _ = w21
   have hsz21 := sizeS6 ee
   replace HF := fN6 HF ee
   replace HBs := bF6 HBs ee
   replace HBx := bS6 HBx ee
   replace HBe := bF6 HBe ee
   replace HBu2 := bF6 HBu2 ee
   clear ee
   clear hI hZ
   go_wp2_with (fail)
   have z := kc6 HBs; have y := kc6 HBx
   refine bodyPost_ret (v := .tuple #[.agg #[.slice aL n cap, .int .i64 (ih : Int), .int .i64 (deep : Int), .bool true, .int .i64 l_, .int .i64 c_], .agg #[.int .i64 7, .string (nowT ts (i + 1)).s, .int .i64 0, .slice a2 m2 c2, .int .i64 (nowT ts i).l, .int .i64 (nowT ts i).c]]) (by clear HF H HBs HBx HBe HBu2; simp [results, Try.results14, go_sem, z, y]) rfl ?_
   exact ⟨_, _, _, _, _, _, _, _, _, _, rfl, refBelow HF.out⟩
  rw [hx] at hr
  first | simp only at hr | simp only [andT] at hr
  clear rc sc xc pc ec uc vc
  refine (HE (i + 3) (deep + 1) _ _ _ _ hd1 (refTok HF.out H.out) hn hx).mono ?_
  rintro _ w11 ⟨ax, mx, cx, rfl, hb, hm⟩
  replace HBr := kB HBr hb
  replace HBs := kB HBs hb
  replace HBx := kB HBx hb
  replace HBp := kB HBp hb
  replace HBe := kB HBe hb
  replace HBu := kB HBu hb
  replace HBv := kB HBv hb
  replace HF := kF HF hb
  have hs11 := hb.size
  clear hb
  have HMx := Lib.hid hm
  clear hm
  simp only [rdV, exV]
  clear hI
  have rc := kc6 HBr; have sc := kc6 HBs; have xc := kc6 HBx; have pc := kc2 HBp; have ec := kc6 HBe; have uc := kc6 HBu; have vc := kc6 HBv
  have hI := i012_01_0_0_0 w w2 w6 w8 w11
  go_upto_region 14 with (fail)
  clear rc sc xc pc ec uc vc
  generalize ee : World.setCell _ ⟨w6.heap.size, 5, none⟩ _ = w12_1
  have hq1 := sizeS6 ee
  replace HF := fN6 HF ee
  replace HBr := bF6 HBr ee
  replace HBs := bF6 HBs ee
  replace HBx := bF6 HBx ee
  replace HBp := bF6 HBp ee
  replace HBe := bF6 HBe ee
  replace HBu := bS6 HBu ee
  replace HBv := bF6 HBv ee
  replace HMx := mS6 HMx ee
  clear ee
  generalize ee : World.setCell _ ⟨w8.heap.size, 5, none⟩ _ = w12
  have hq2 := sizeS6 ee
  replace HF := fN6 HF ee
  replace HBr := bF6 HBr ee
  replace HBs := bF6 HBs ee
  replace HBx := bF6 HBx ee
  replace HBp := bF6 HBp ee
  replace HBe := bF6 HBe ee
  replace HBu := bF6 HBu ee
  replace HBv := bS6 HBv ee
  replace HMx := mS6 HMx ee
  clear ee
  have hsz12 : w12.heap.size = w11.heap.size := by omega
  clear hq1 hq2
  clear hI
  have HYx : Hid (Mem (NwS (Av w10.heap.size w.heap.size w.heap.size) w12.heap.size) w12 _ _) := Lib.hid (memS_av (g := w.heap.size) (k := w.heap.size) HMx.out (by omega) (by omega) (by omega))
  clear HMx
  have rc := kc6 HBr; have sc := kc6 HBs; have xc := kc6 HBx; have pc := kc2 HBp; have ec := kc6 HBe; have uc := kc6 HBu; have vc := kc6 HBv
  have hI := i012_01_0_0_0 w w2 w6 w8 w12
  have hZ := i012_01_0_0_0 w w2 w6 w8 w11
  go_upto_region 15 with (fail)
  clear rc sc xc pc ec uc vc
  generalize ee : World.setCell w12 _ _ = w13
  have hsz13 := sizeS1 ee
  replace HF := fN1 HF ee
  replace HBr := bF1 HBr ee
  replace HBs := bF1 HBs ee
  replace HBx := bF1 HBx ee
  replace HBp := bF1 HBp ee
  replace HBe : Hid (Bo w13 (w2.heap.size + 1) 27 #[.int .i64 7, .string (nowT ts (i + 1)).s, .int .i64 0, .slice none 0 0, .int .i64 (nowT ts i).l, .int .i64 (nowT ts i).c]) := Lib.hid (by rw [← ee]; exact HBe.out.set 0 (.int .i64 7))
  replace HBu := bF1 HBu ee
  replace HBv := bF1 HBv ee
  replace HYx := yS1 HYx ee
  clear ee
  clear hI hZ
  have rc := kc6 HBr; have sc := kc6 HBs; have xc := kc6 HBx; have pc := kc2 HBp; have ec := kc6 HBe; have uc := kc6 HBu; have vc := kc6 HBv
  have hI := i012_01_0_0_0 w w2 w6 w8 w13
  have hZ := i012_01_0_0_0 w w2 w6 w8 w11
  go_upto_region 16 with (fail)
  clear rc sc xc pc ec uc vc
  generalize ee : World.setCell w13 _ _ = w14_1
  have hq1 := sizeS1 ee
  replace HF := fN1 HF ee
  replace HBr := bF1 HBr ee
  replace HBs := bF1 HBs ee
  replace HBx := bF1 HBx ee
  replace HBp := bF1 HBp ee
  replace HBe : Hid (Bo w14_1 (w2.heap.size + 1) 27 #[.int .i64 7, .string (nowT ts (i + 1)).s, .int .i64 0, .slice (some ⟨w11.heap.size, 0, none⟩) 1 1, .int .i64 (nowT ts i).l, .int .i64 (nowT ts i).c]) := Lib.hid (by rw [← ee]; exact HBe.out.set 3 (.slice (some ⟨w11.heap.size, 0, none⟩) 1 1))
  replace HBu := bF1 HBu ee
  replace HBv := bF1 HBv ee
  replace HYx := yS1 HYx ee
  clear ee
  generalize ee : World.alloc w14_1 _ = w14
  have hq2 := sizeA ee
  have HNEW := Lib.hid (builtS1E (A := Av w10.heap.size w.heap.size w.heap.size) (base := 0) HYx.out ee (b := w11.heap.size) (by omega) (by omega))
  replace HF := fA HF ee
  replace HBr := bA HBr ee
  replace HBs := bA HBs ee
  replace HBx := bA HBx ee
  replace HBp := bA HBp ee
  replace HBe := bA HBe ee
  replace HBu := bA HBu ee
  replace HBv := bA HBv ee
  replace HYx := yA HYx ee
  have HSl := HNEW
  clear HNEW
  clear ee
  have hsa14 : w14.heap.size = w11.heap.size + 1 := by omega
  clear hq1 hq2
  clear hI hZ
  clear HYx
  have rc := kc6 HBr; have sc := kc6 HBs; have xc := kc6 HBx; have pc := kc2 HBp; have ec := kc6 HBe; have uc := kc6 HBu; have vc := kc6 HBv
  have hI := i012_01_0_0_0 w w2 w6 w8 w14
  have hZ := i012_01_0_0_1 w w2 w6 w8 w11
  go_wp2_with (fail)
  rcases hin : isT ts j 5 wIn
  ·
   first | simp only [hin, Bool.false_eq_true, if_false] at hr | simp only [takeT, hin, Bool.false_eq_true, if_false] at hr
   cases hr
   clear rc sc xc pc ec uc vc
   refine (takeR_no _ (refTok HF.out H.out) hin).mono ?_
   rintro _ w15 ⟨rfl, hb⟩
   replace HBr := kB HBr hb
   replace HBs := kB HBs hb
   replace HBx := kB HBx hb
   replace HBp := kB HBp hb
   replace HBe := kB HBe hb
   replace HBu := kB HBu hb
   replace HBv := kB HBv hb
   replace HSl := kS HSl hb
   replace HF := kF HF hb
   have hs15 := hb.size
   clear hb
   simp only [rdV]
   clear hI hZ
   have rc := kc6 HBr; have sc := kc6 HBs; have xc := kc6 HBx; have pc := kc2 HBp; have ec := kc6 HBe; have uc := kc6 HBu; have vc := kc6 HBv
   have hI := i012_01_0_0_0 w w2 w6 w8 w15
   go_wp2_with (fail)
   clear rc sc xc pc ec uc vc
   refine (exprR_bad _ (refTok HF.out H.out)).mono ?_
   rintro _ w16 ⟨ih, dh, kh, sh, nh, ah, mh, ch, uh, vh, rfl, hb⟩
   replace HBr := kB HBr hb
   replace HBs := kB HBs hb
   replace HBx := kB HBx hb
   replace HBp := kB HBp hb
   replace HBe := kB HBe hb
   replace HBu := kB HBu hb
   replace HBv := kB HBv hb
   replace HSl := kS HSl hb
   replace HF := kF HF hb
   have hs16 := hb.size
   clear hb
   simp only [rdV]
   clear hI
   have rc := kc6 HBr; have sc := kc6 HBs; have xc := kc6 HBx; have pc := kc2 HBp; have ec := kc6 HBe; have uc := kc6 HBu; have vc := kc6 HBv
   have hI := i012_01_0_0_0 w w2 w6 w8 w16
   go_upto_region 17 with (fail)
   clear rc sc xc pc ec uc vc
   generalize ee : World.alloc w16 _ = w17_1
   have hq1 := sizeA ee
   replace HF := fA HF ee
   replace HBr := bA HBr ee
   replace HBs := bA HBs ee
   replace HBx := bA HBx ee
   replace HBp := bA HBp ee
   replace HBe := bA HBe ee
   replace HBu := bA HBu ee
   replace HBv := bA HBv ee
   replace HSl := sA HSl ee
   have HBu2 := nB ee (w16.heap.size)
   clear ee
   generalize ee : World.alloc w17_1 _ = w17
   have hq2 := sizeA ee
   replace HF := fA HF ee
   replace HBr := bA HBr ee
   replace HBs := bA HBs ee
   replace HBx := bA HBx ee
   replace HBp := bA HBp ee
   replace HBe := bA HBe ee
   replace HBu := bA HBu ee
   replace HBv := bA HBv ee
   replace HBu2 := bA HBu2 ee
   replace HSl := sA HSl ee
   have HBv2 := nB ee (w16.heap.size + 1)
   clear ee
   have hsa17 : w17.heap.size = w16.heap.size + 2 := by omega
   clear hq1 hq2
   clear hI
   have rc := kc6 HBr; have sc := kc6 HBs; have xc := kc6 HBx; have pc := kc2 HBp; have ec := kc6 HBe; have uc := kc6 HBu; have vc := kc6 HBv; have u2c := kc6 HBu2; have v2c := kc6 HBv2
   have hI := i012_01_0_0_01_0 w w2 w6 w8 w16 w17
   have hZ := i012_01_0_0_012 w w2 w6 w8 w16
   clear rc sc xc pc ec uc vc u2c v2c
   have HSw : Hid (OwnS (fun _ => True) 0 27 6 w17 (.slice (some ⟨w11.heap.size, 0, none⟩) 1 1) _) := Lib.hid (OwnS.conv HSl.out fun _ _ _ => trivial)
   clear hI hZ
   have rc := kc6 HBr; have sc := kc6 HBs; have xc := kc6 HBx; have pc := kc2 HBp; have ec := kc6 HBe; have uc := kc6 HBu; have vc := kc6 HBv; have u2c := kc6 HBu2; have v2c := kc6 HBv2
   have hI := i012_01_0_0_01_0 w w2 w6 w8 w16 w17
   have hZ := i012_01_0_0_012 w w2 w6 w8 w16
   go_wp2_with (first | (at_builtin; refine wpList_append_S2 (y := .slice (some ⟨w11.heap.size, 0, none⟩) 1 1) (new := [rawRow kh sh nh ah mh ch uh vh]) rfl _ _ rfl Try.underlying23 info_ex rfl (by decide) rfl rfl (HSw.out.alloc _) (by simp) (rawRowS (W := w17) HSw.out kh sh nh ah mh ch uh vh trivial (Nat.le_refl _) (by omega)) (by simp [Ex.rows_eq]) (by simp [Ex.rows_eq]) (Nat.zero_le _) ?_; intro v9 w18 ho hgr hwh; have HO9 := Lib.hid ho; clear ho; have HG9 := Lib.hid hgr; clear hgr; have HWH := Lib.hid hwh; clear hwh; refine Hid.out ?_))
   refine Lib.hid ?_
   clear rc sc xc pc ec uc vc u2c v2c
   clear hI hZ
   have hs9 : w17.heap.size + 1 ≤ w18.heap.size := by have h := HG9.out.size; rw [World.size_alloc] at h; exact h
   replace HF := gF w11.heap.size HF HG9.out rfl
   replace HBr := gB w11.heap.size HBr HG9.out rfl
   replace HBs := gB w11.heap.size HBs HG9.out rfl
   replace HBx := gB w11.heap.size HBx HG9.out rfl
   replace HBp := gB w11.heap.size HBp HG9.out rfl
   replace HBe := gB w11.heap.size HBe HG9.out rfl
   replace HBu := gB w11.heap.size HBu HG9.out rfl
   replace HBv := gB w11.heap.size HBv HG9.out rfl
   replace HBu2 := gB w11.heap.size HBu2 HG9.out rfl
   replace HBv2 := gB w11.heap.size HBv2 HG9.out rfl
   obtain ⟨a2, m2, c2, rfl, hmm, hmc, hmx⟩ := HO9.out.form
   clear hmm hmc hmx
   have rc := kc6 HBr; have sc := kc6 HBs; have xc := kc6 HBx; have pc := kc2 HBp; have ec := kc6 HBe; have uc := kc6 HBu; have vc := kc6 HBv; have u2c := kc6 HBu2; have v2c := kc6 HBv2
   have hI := i012_01_0_0_01_0 w w2 w6 w8 w16 w18
   go_wp2_with (fail)
   clear rc sc xc pc ec uc vc u2c v2c
   generalize ee : World.setCell w18 _ _ = w19_1
   have hq1 := sizeS1 ee
   replace HF := fN1 HF ee
   replace HBr := bF1 HBr ee
   replace HBs := bF1 HBs ee
   replace HBx := bF1 HBx ee
   replace HBp := bF1 HBp ee
   replace HBe : Hid (Bo w19_1 (w2.heap.size + 1) 27 #[.int .i64 7, .string (nowT ts (i + 1)).s, .int .i64 0, .slice a2 m2 c2, .int .i64 (nowT ts i).l, .int .i64 (nowT ts i).c]) := Lib.hid (by rw [← ee]; exact HBe.out.set 3 (.slice a2 m2 c2))
   replace HBu := bF1 HBu ee
   replace HBv := bF1 HBv ee
   replace HBu2 := bF1 HBu2 ee
   replace HBv2 := bF1 HBv2 ee
   clear ee
   generalize ee : World.setCell w19_1 _ _ = w19
   have hq2 := sizeS1 ee
   replace HF := fN1 HF ee
   replace HBr := bF1 HBr ee
   replace HBs := bF1 HBs ee
   replace HBx := bF1 HBx ee
   replace HBp := bF1 HBp ee
   replace HBe := bF1 HBe ee
   replace HBu := bF1 HBu ee
   replace HBv := bF1 HBv ee
   replace HBu2 : Hid (Bo w19 w16.heap.size 47 #[.slice aL n cap, .int .i64 (ih : Int), .int .i64 (deep : Int), .bool true, .int .i64 (nowT ts j).l, .int .i64 (nowT ts j).c]) := Lib.hid (by rw [← ee]; exact HBu2.out.set 2 (.int .i64 (deep : Int)))
   replace HBv2 := bF1 HBv2 ee
   clear ee
   have hsz19 : w19.heap.size = w18.heap.size := by omega
   clear hq1 hq2
   clear hI
   have rc := kc6 HBr; have sc := kc6 HBs; have xc := kc6 HBx; have pc := kc2 HBp; have ec := kc6 HBe; have uc := kc6 HBu; have vc := kc6 HBv; have u2c := kc6 HBu2; have v2c := kc6 HBv2
   have hI := i012_01_0_0_01_0 w w2 w6 w8 w16 w19
   have hZ := i012_01_0_0_01_0 w w2 w6 w8 w16 w18
   clear rc sc xc pc ec uc vc u2c v2c
   clear hI hZ
   clear HBr HBp HBu HBv HBv2
   have sc := kc6 HBs; have xc := kc6 HBx; have ec := kc6 HBe; have u2c := kc6 HBu2
   have hI := i12_1_0_0 w w2 w16 w19
   have hZ := i12_1_0_0 w w2 w16 w18
   refine wp_region_held_drew (S := fun w' => Far (fun b => b = (w.heap.size + 1) ∨ b = (w.heap.size + 2)) (w19) w') (by kernel_rfl) (Far.of (below_drew _)) (fun hS40 => ?_)
   refine takeA 0 (v := ?_) rfl ?_ ?_
   rotate_left
   · (intro w hSw; (try dsimp only at hSw); replace u2c := Far.c6z u2c hSw; go_simp; try with_reducible rfl)
   try simp only [Act.put, pu1, pu2, pu3]
   refine takeA 1 (v := ?_) rfl ?_ ?_
   rotate_left
   · (intro w hSw; (try dsimp only at hSw); replace ec := Far.c6z ec hSw; go_simp; try with_reducible rfl)
   try simp only [Act.put, pu1, pu2, pu3]

   refine callA 2 rfl fun K hK => ?_
   go_simp
   refine hK.out _ _ ?_ (fun hS41 => ?_)
   · exact (by refine Far.trans ?_ (Far.of (below_drew _)); (iterate 6 (refine Far.setCell (p := ⟨(w.heap.size + 1), _, none⟩) ?_ (.inl rfl) _)); exact Far.refl _ _)
   clear hK K

   clear sc xc ec u2c
   generalize ee : ((((((w19.setCell ⟨(w.heap.size + 1), 0, none⟩ (.slice aL n cap)).setCell ⟨(w.heap.size + 1), 1, none⟩ (.int .i64 (ih : Int))).setCell ⟨(w.heap.size + 1), 2, none⟩ (.int .i64 (deep : Int))).setCell ⟨(w.heap.size + 1), 3, none⟩ (.bool true)).setCell ⟨(w.heap.size + 1), 4, none⟩ (.int .i64 (nowT ts j).l)).setCell ⟨(w.heap.size + 1), 5, none⟩ (.int .i64 (nowT ts j).c)) = w20_1 at *
   have hq1 := sizeS6 ee
   replace HF := fN6 HF ee
   replace HBs := bS6 HBs ee
   replace HBx := bF6 HBx ee
   replace HBe := bF6 HBe ee
   replace HBu2 := bF6 HBu2 ee
   clear ee
   generalize ee : (w20_1.drew) = w20 at *
   have hq2 := sizeD ee
   replace HF := fD HF ee
   replace HBs := bD HBs ee
   replace HBx := bD HBx ee
   replace HBe := bD HBe ee
   replace HBu2 := bD HBu2 ee
   clear ee
   have hsa20 : w20.heap.size = w18.heap.size + 0 := by omega
   clear hq1 hq2
   clear hI hZ
   have sc := kc6 HBs; have xc := kc6 HBx; have ec := kc6 HBe; have u2c := kc6 HBu2
   have hI := i12_1_0_0 w w2 w16 w20
   have hZ := i12_1_0_0 w w2 w16 w18
   refine callA 3 rfl fun K hK => ?_
   go_simp
   refine hK.out _ _ ?_ (fun hS42 => ?_)
   · exact (by (iterate 6 (refine Far.setCell (p := ⟨(w.heap.size + 2), _, none⟩) ?_ (.inr rfl) _)); exact hS41)
   clear hK K
   refine wpAnyH_done (by kernel_rfl) ?_ _

   clear sc xc ec u2c
   generalize ee : World.setCell _ ⟨(w.heap.size + 2), 5, none⟩ _ = w21
   have hsz21 := sizeS6 ee
   replace HF := fN6 HF ee
   replace HBs := bF6 HBs ee
   replace HBx := bS6 HBx ee
   replace HBe := bF6 HBe ee
   replace HBu2 := bF6 HBu2 ee
   clear ee
   clear hI hZ
   go_wp2_with (fail)
   have z := kc6 HBs; have y := kc6 HBx
   refine bodyPost_ret (v := .tuple #[.agg #[.slice aL n cap, .int .i64 (ih : Int), .int .i64 (deep : Int), .bool true, .int .i64 (nowT ts j).l, .int .i64 (nowT ts j).c], .agg #[.int .i64 7, .string (nowT ts (i + 1)).s, .int .i64 0, .slice a2 m2 c2, .int .i64 (nowT ts i).l, .int .i64 (nowT ts i).c]]) (by clear HF H HBs HBx HBe HBu2; simp [results, Try.results14, go_sem, z, y]) rfl ?_
   exact ⟨_, _, _, _, _, _, _, _, _, _, rfl, refBelow HF.out⟩
  first | simp only [hin, if_true] at hr | simp only [takeT, hin, if_true] at hr
  clear rc sc xc pc ec uc vc
  refine (takeR_ok _ (refTok HF.out H.out) hin (by decide)).mono ?_
  rintro _ w15 ⟨rfl, hb⟩
  replace HBr := kB HBr hb
  replace HBs := kB HBs hb
  replace HBx := kB HBx hb
  replace HBp := kB HBp hb
  replace HBe := kB HBe hb
  replace HBu := kB HBu hb
  replace HBv := kB HBv hb
  replace HSl := kS HSl hb
  replace HF := kF HF hb
  have hs15 := hb.size
  clear hb
  simp only [rdV]
  clear hI hZ
  have rc := kc6 HBr; have sc := kc6 HBs; have xc := kc6 HBx; have pc := kc2 HBp; have ec := kc6 HBe; have uc := kc6 HBu; have vc := kc6 HBv
  have hI := i012_01_0_0_0 w w2 w6 w8 w15
  go_wp2_with (fail)
  rcases hy : readE ts f .expr (j + 1) (deep + 1) with _ | ⟨y, k⟩ | ⟨l_, c_⟩
  · (rw [hy] at hr; cases hr)
  rotate_left
  ·
   rw [hy] at hr
   first | simp only at hr | simp only [andT] at hr
   cases hr
   clear rc sc xc pc ec uc vc
   refine (HE (j + 1) (deep + 1) _ _ _ _ hd1 (refTok HF.out H.out) hn hy).mono ?_
   rintro _ w16 ⟨ih, dh, kh, sh, nh, ah, mh, ch, uh, vh, rfl, hb⟩
   replace HBr := kB HBr hb
   replace HBs := kB HBs hb
   replace HBx := kB HBx hb
   replace HBp := kB HBp hb
   replace HBe := kB HBe hb
   replace HBu := kB HBu hb
   replace HBv := kB HBv hb
   replace HSl := kS HSl hb
   replace HF := kF HF hb
   have hs16 := hb.size
   clear hb
   simp only [rdV]
   clear hI
   have rc := kc6 HBr; have sc := kc6 HBs; have xc := kc6 HBx; have pc := kc2 HBp; have ec := kc6 HBe; have uc := kc6 HBu; have vc := kc6 HBv
   have hI := i012_01_0_0_0 w w2 w6 w8 w16
   go_upto_region 17 with (fail)
   clear rc sc xc pc ec uc vc
   generalize ee : World.alloc w16 _ = w17_1
   have hq1 := sizeA ee
   replace HF := fA HF ee
   replace HBr := bA HBr ee
   replace HBs := bA HBs ee
   replace HBx := bA HBx ee
   replace HBp := bA HBp ee
   replace HBe := bA HBe ee
   replace HBu := bA HBu ee
   replace HBv := bA HBv ee
   replace HSl := sA HSl ee
   have HBu2 := nB ee (w16.heap.size)
   clear ee
   generalize ee : World.alloc w17_1 _ = w17
   have hq2 := sizeA ee
   replace HF := fA HF ee
   replace HBr := bA HBr ee
   replace HBs := bA HBs ee
   replace HBx := bA HBx ee
   replace HBp := bA HBp ee
   replace HBe := bA HBe ee
   replace HBu := bA HBu ee
   replace HBv := bA HBv ee
   replace HBu2 := bA HBu2 ee
   replace HSl := sA HSl ee
   have HBv2 := nB ee (w16.heap.size + 1)
   clear ee
   have hsa17 : w17.heap.size = w16.heap.size + 2 := by omega
   clear hq1 hq2
   clear hI
   have rc := kc6 HBr; have sc := kc6 HBs; have xc := kc6 HBx; have pc := kc2 HBp; have ec := kc6 HBe; have uc := kc6 HBu; have vc := kc6 HBv; have u2c := kc6 HBu2; have v2c := kc6 HBv2
   have hI := i012_01_0_0_01_0 w w2 w6 w8 w16 w17
   have hZ := i012_01_0_0_012 w w2 w6 w8 w16
   clear rc sc xc pc ec uc vc u2c v2c
   have HSw : Hid (OwnS (fun _ => True) 0 27 6 w17 (.slice (some ⟨w11.heap.size, 0, none⟩) 1 1) _) := Lib.hid (OwnS.conv HSl.out fun _ _ _ => trivial)
   clear hI hZ
   have rc := kc6 HBr; have sc := kc6 HBs; have xc := kc6 HBx; have pc := kc2 HBp; have ec := kc6 HBe; have uc := kc6 HBu; have vc := kc6 HBv; have u2c := kc6 HBu2; have v2c := kc6 HBv2
   have hI := i012_01_0_0_01_0 w w2 w6 w8 w16 w17
   have hZ := i012_01_0_0_012 w w2 w6 w8 w16
   go_wp2_with (first | (at_builtin; refine wpList_append_S2 (y := .slice (some ⟨w11.heap.size, 0, none⟩) 1 1) (new := [rawRow kh sh nh ah mh ch uh vh]) rfl _ _ rfl Try.underlying23 info_ex rfl (by decide) rfl rfl (HSw.out.alloc _) (by simp) (rawRowS (W := w17) HSw.out kh sh nh ah mh ch uh vh trivial (Nat.le_refl _) (by omega)) (by simp [Ex.rows_eq]) (by simp [Ex.rows_eq]) (Nat.zero_le _) ?_; intro v9 w18 ho hgr hwh; have HO9 := Lib.hid ho; clear ho; have HG9 := Lib.hid hgr; clear hgr; have HWH := Lib.hid hwh; clear hwh; refine Hid.out ?_))
   refine Lib.hid ?_
   clear rc sc xc pc ec uc vc u2c v2c
   clear hI hZ
   have hs9 : w17.heap.size + 1 ≤ w18.heap.size := by have h := HG9.out.size; rw [World.size_alloc] at h; exact h
   replace HF := gF w11.heap.size HF HG9.out rfl
   replace HBr := gB w11.heap.size HBr HG9.out rfl
   replace HBs := gB w11.heap.size HBs HG9.out rfl
   replace HBx := gB w11.heap.size HBx HG9.out rfl
   replace HBp := gB w11.heap.size HBp HG9.out rfl
   replace HBe := gB w11.heap.size HBe HG9.out rfl
   replace HBu := gB w11.heap.size HBu HG9.out rfl
   replace HBv := gB w11.heap.size HBv HG9.out rfl
   replace HBu2 := gB w11.heap.size HBu2 HG9.out rfl
   replace HBv2 := gB w11.heap.size HBv2 HG9.out rfl
   obtain ⟨a2, m2, c2, rfl, hmm, hmc, hmx⟩ := HO9.out.form
   clear hmm hmc hmx
   have rc := kc6 HBr; have sc := kc6 HBs; have xc := kc6 HBx; have pc := kc2 HBp; have ec := kc6 HBe; have uc := kc6 HBu; have vc := kc6 HBv; have u2c := kc6 HBu2; have v2c := kc6 HBv2
   have hI := i012_01_0_0_01_0 w w2 w6 w8 w16 w18
   go_wp2_with (fail)
   clear rc sc xc pc ec uc vc u2c v2c
   generalize ee : World.setCell w18 _ _ = w19_1
   have hq1 := sizeS1 ee
   replace HF := fN1 HF ee
   replace HBr := bF1 HBr ee
   replace HBs := bF1 HBs ee
   replace HBx := bF1 HBx ee
   replace HBp := bF1 HBp ee
   replace HBe : Hid (Bo w19_1 (w2.heap.size + 1) 27 #[.int .i64 7, .string (nowT ts (i + 1)).s, .int .i64 0, .slice a2 m2 c2, .int .i64 (nowT ts i).l, .int .i64 (nowT ts i).c]) := Lib.hid (by rw [← ee]; exact HBe.out.set 3 (.slice a2 m2 c2))
   replace HBu := bF1 HBu ee
   replace HBv := bF1 HBv ee
   replace HBu2 := bF1 HBu2 ee
   replace HBv2 := bF1 HBv2 ee
   clear ee
   generalize ee : World.setCell w19_1 _ _ = w19
   have hq2 := sizeS1 ee
   replace HF := fN1 HF ee
   replace HBr := bF1 HBr ee
   replace HBs := bF1 HBs ee
   replace HBx := bF1 HBx ee
   replace HBp := bF1 HBp ee
   replace HBe := bF1 HBe ee
   replace HBu := bF1 HBu ee
   replace HBv := bF1 HBv ee
   replace HBu2 : Hid (Bo w19 w16.heap.size 47 #[.slice aL n cap, .int .i64 (ih : Int), .int .i64 (deep : Int), .bool true, .int .i64 l_, .int .i64 c_]) := Lib.hid (by rw [← ee]; exact HBu2.out.set 2 (.int .i64 (deep : Int)))
   replace HBv2 := bF1 HBv2 ee
   clear ee
   have hsz19 : w19.heap.size = w18.heap.size := by omega
   clear hq1 hq2
   clear hI
   have rc := kc6 HBr; have sc := kc6 HBs; have xc := kc6 HBx; have pc := kc2 HBp; have ec := kc6 HBe; have uc := kc6 HBu; have vc := kc6 HBv; have u2c := kc6 HBu2; have v2c := kc6 HBv2
   have hI := i012_01_0_0_01_0 w w2 w6 w8 w16 w19
   have hZ := i012_01_0_0_01_0 w w2 w6 w8 w16 w18
   clear rc sc xc pc ec uc vc u2c v2c
   clear hI hZ
   clear HBr HBp HBu HBv HBv2
   have sc := kc6 HBs; have xc := kc6 HBx; have ec := kc6 HBe; have u2c := kc6 HBu2
   have hI := i12_1_0_0 w w2 w16 w19
   have hZ := i12_1_0_0 w w2 w16 w18
   refine wp_region_held_drew (S := fun w' => Far (fun b => b = (w.heap.size + 1) ∨ b = (w.heap.size + 2)) (w19) w') (by kernel_rfl) (Far.of (below_drew _)) (fun hS40 => ?_)
   refine takeA 0 (v := ?_) rfl ?_ ?_
   rotate_left
   · (intro w hSw; (try dsimp only at hSw); replace u2c := Far.c6z u2c hSw; go_simp; try with_reducible rfl)
   try simp only [Act.put, pu1, pu2, pu3]
   refine takeA 1 (v := ?_) rfl ?_ ?_
   rotate_left
   · (intro w hSw; (try dsimp only at hSw); replace ec := Far.c6z ec hSw; go_simp; try with_reducible rfl)
   try simp only [Act.put, pu1, pu2, pu3]

   refine callA 2 rfl fun K hK => ?_
   go_simp
   refine hK.out _ _ ?_ (fun hS41 => ?_)
   · exact (by refine Far.trans ?_ (Far.of (below_drew _)); (iterate 6 (refine Far.setCell (p := ⟨(w.heap.size + 1), _, none⟩) ?_ (.inl rfl) _)); exact Far.refl _ _)
   clear hK K

   clear sc xc ec u2c
   generalize ee : ((((((w19.setCell ⟨(w.heap.size + 1), 0, none⟩ (.slice aL n cap)).setCell ⟨(w.heap.size + 1), 1, none⟩ (.int .i64 (ih : Int))).setCell ⟨(w.heap.size + 1), 2, none⟩ (.int .i64 (deep : Int))).setCell ⟨(w.heap.size + 1), 3, none⟩ (.bool true)).setCell ⟨(w.heap.size + 1), 4, none⟩ (.int .i64 l_)).setCell ⟨(w.heap.size + 1), 5, none⟩ (.int .i64 c_)) = w20_1 at *
   have hq1 := sizeS6 ee
   replace HF := fN6 HF ee
   replace HBs := bS6 HBs ee
   replace HBx := bF6 HBx ee
   replace HBe := bF6 HBe ee
   replace HBu2 := bF6 HBu2 ee
   clear ee
   generalize ee : (w20_1.drew) = w20 at *
   have hq2 := sizeD ee
   replace HF := fD HF ee
   replace HBs := bD HBs ee
   replace HBx := bD HBx ee
   replace HBe := bD HBe ee
   replace HBu2 := bD HBu2 ee
   clear ee
   have hsa20 : w20.heap.size = w18.heap.size + 0 := by omega
   clear hq1 hq2
   clear hI hZ
   have sc := kc6 HBs; have xc := kc6 HBx; have ec := kc6 HBe; have u2c := kc6 HBu2
   have hI := i12_1_0_0 w w2 w16 w20
   have hZ := i12_1_0_0 w w2 w16 w18
   refine callA 3 rfl fun K hK => ?_
   go_simp
   refine hK.out _ _ ?_ (fun hS42 => ?_)
   · exact (by (iterate 6 (refine Far.setCell (p := ⟨(w.heap.size + 2), _, none⟩) ?_ (.inr rfl) _)); exact hS41)
   clear hK K
   refine wpAnyH_done (by kernel_rfl) ?_ _

   clear sc xc ec u2c
   generalize ee : World.setCell _ ⟨(w.heap.size + 2), 5, none⟩ _ = w21
   have hsz21 := sizeS6 ee
   replace HF := fN6 HF ee
   replace HBs := bF6 HBs ee
   replace HBx := bS6 HBx ee
   replace HBe := bF6 HBe ee
   replace HBu2 := bF6 HBu2 ee
   clear ee
   clear hI hZ
   go_wp2_with (fail)
   have z := kc6 HBs; have y := kc6 HBx
   refine bodyPost_ret (v := .tuple #[.agg #[.slice aL n cap, .int .i64 (ih : Int), .int .i64 (deep : Int), .bool true, .int .i64 l_, .int .i64 c_], .agg #[.int .i64 7, .string (nowT ts (i + 1)).s, .int .i64 0, .slice a2 m2 c2, .int .i64 (nowT ts i).l, .int .i64 (nowT ts i).c]]) (by clear HF H HBs HBx HBe HBu2; simp [results, Try.results14, go_sem, z, y]) rfl ?_
   exact ⟨_, _, _, _, _, _, _, _, _, _, rfl, refBelow HF.out⟩
  rw [hy] at hr
  first | simp only at hr | simp only [andT] at hr
  clear rc sc xc pc ec uc vc
  refine (HE (j + 1) (deep + 1) _ _ _ _ hd1 (refTok HF.out H.out) hn hy).mono ?_
  rintro _ w16 ⟨ay, my, cy, rfl, hb, hm⟩
  replace HBr := kB HBr hb
  replace HBs := kB HBs hb
  replace HBx := kB HBx hb
  replace HBp := kB HBp hb
  replace HBe := kB HBe hb
  replace HBu := kB HBu hb
  replace HBv := kB HBv hb
  replace HSl := kS HSl hb
  replace HF := kF HF hb
  have hs16 := hb.size
  clear hb
  have HMy := Lib.hid hm
  clear hm
  simp only [rdV, exV]
  clear hI
  have rc := kc6 HBr; have sc := kc6 HBs; have xc := kc6 HBx; have pc := kc2 HBp; have ec := kc6 HBe; have uc := kc6 HBu; have vc := kc6 HBv
  have hI := i012_01_0_0_0 w w2 w6 w8 w16
  replace HSl := Lib.hid (OwnS.conv (A' := Av w10.heap.size w16.heap.size w16.heap.size) HSl.out fun b h1 h2 => ⟨h1.1, by omega, by omega⟩)
  have HYy : Hid (Mem (NwS (Av w15.heap.size w16.heap.size w16.heap.size) w16.heap.size) w16 _ _) := Lib.hid (memS_av (g := w16.heap.size) (k := w16.heap.size) HMy.out (by omega) (by omega) (by omega))
  clear HMy
  clear rc sc xc pc ec uc vc
  clear hI
  have rc := kc6 HBr; have sc := kc6 HBs; have xc := kc6 HBx; have pc := kc2 HBp; have ec := kc6 HBe; have uc := kc6 HBu; have vc := kc6 HBv
  have hI := i012_01_0_0_0 w w2 w6 w8 w16
  go_upto_region 17 with (fail)
  clear rc sc xc pc ec uc vc
  generalize ee : World.alloc w16 _ = w17_1
  have hq1 := sizeA ee
  replace HF := fA HF ee
  replace HBr := bA HBr ee
  replace HBs := bA HBs ee
  replace HBx := bA HBx ee
  replace HBp := bA HBp ee
  replace HBe := bA HBe ee
  replace HBu := bA HBu ee
  replace HBv := bA HBv ee
  replace HYy := yA HYy ee
  replace HSl := sA HSl ee
  have HBu2 := nB ee (w16.heap.size)
  clear ee
  generalize ee : World.alloc w17_1 _ = w17
  have hq2 := sizeA ee
  replace HF := fA HF ee
  replace HBr := bA HBr ee
  replace HBs := bA HBs ee
  replace HBx := bA HBx ee
  replace HBp := bA HBp ee
  replace HBe := bA HBe ee
  replace HBu := bA HBu ee
  replace HBv := bA HBv ee
  replace HBu2 := bA HBu2 ee
  replace HYy := yA HYy ee
  replace HSl := sA HSl ee
  have HBv2 := nB ee (w16.heap.size + 1)
  clear ee
  have hsa17 : w17.heap.size = w16.heap.size + 2 := by omega
  clear hq1 hq2
  clear hI
  have rc := kc6 HBr; have sc := kc6 HBs; have xc := kc6 HBx; have pc := kc2 HBp; have ec := kc6 HBe; have uc := kc6 HBu; have vc := kc6 HBv; have u2c := kc6 HBu2; have v2c := kc6 HBv2
  have hI := i012_01_0_0_01_0 w w2 w6 w8 w16 w17
  have hZ := i012_01_0_0_012 w w2 w6 w8 w16
  clear rc sc xc pc ec uc vc u2c v2c
  have HSw : Hid (OwnS (Av w10.heap.size w16.heap.size w16.heap.size) 0 27 6 w17 (.slice (some ⟨w11.heap.size, 0, none⟩) 1 1) _) := Lib.hid (HSl.out)
  clear hI hZ
  have rc := kc6 HBr; have sc := kc6 HBs; have xc := kc6 HBx; have pc := kc2 HBp; have ec := kc6 HBe; have uc := kc6 HBu; have vc := kc6 HBv; have u2c := kc6 HBu2; have v2c := kc6 HBv2
  have hI := i012_01_0_0_01_0 w w2 w6 w8 w16 w17
  have hZ := i012_01_0_0_012 w w2 w6 w8 w16
  go_wp2_with (first | (at_builtin; refine wpList_append_S2 (y := .slice (some ⟨w11.heap.size, 0, none⟩) 1 1) (new := Ex.rows [y]) rfl _ _ rfl Try.underlying23 info_ex rfl (by decide) rfl rfl (HSw.out.alloc _) (by simp [Ex.rows_eq]) (newRowS2 (fun b h1 => ⟨by have := h1.1; omega, h1.2.1, h1.2.2⟩) ⟨by omega, by omega, by omega⟩ (fun k hk => by have hk2 : w11.heap.size = k := Option.some.inj hk; exact ⟨fun h => by have := h.1; omega, by omega⟩) HYy.out (by omega)) (by simp [Ex.rows_eq]) (by simp [Ex.rows_eq]) (Nat.zero_le _) ?_; intro v9 w18 ho hgr hwh; have HO9 := Lib.hid ho; clear ho; have HG9 := Lib.hid hgr; clear hgr; have HWH := Lib.hid hwh; clear hwh; refine Hid.out ?_))
  refine Lib.hid ?_
  clear rc sc xc pc ec uc vc u2c v2c
  clear hI hZ
  have hs9 : w17.heap.size + 1 ≤ w18.heap.size := by have h := HG9.out.size; rw [World.size_alloc] at h; exact h
  replace HF := gF w11.heap.size HF HG9.out rfl
  replace HBr := gB w11.heap.size HBr HG9.out rfl
  replace HBs := gB w11.heap.size HBs HG9.out rfl
  replace HBx := gB w11.heap.size HBx HG9.out rfl
  replace HBp := gB w11.heap.size HBp HG9.out rfl
  replace HBe := gB w11.heap.size HBe HG9.out rfl
  replace HBu := gB w11.heap.size HBu HG9.out rfl
  replace HBv := gB w11.heap.size HBv HG9.out rfl
  replace HBu2 := gB w11.heap.size HBu2 HG9.out rfl
  replace HBv2 := gB w11.heap.size HBv2 HG9.out rfl
  have HO8 : Hid (OwnS (Av w10.heap.size w16.heap.size w16.heap.size) 0 27 6 w18 v9 (Ex.rows [x, y])) := Lib.hid (by have h := HO9.out; simpa [Ex.rows_eq] using h)
  have HYl : Hid (Mem (NwS (Av w10.heap.size w16.heap.size w16.heap.size) w18.heap.size) w18 (.s 6 (Ex.rows [x, y])) v9) := Lib.hid (OwnS.sameO HO8.out fun k hk => by rcases HWH.out with h | h; (rw [h] at hk; have hk2 : w11.heap.size = k := Option.some.inj hk; exact ⟨by omega, by omega, by omega⟩); (have h2 := h k hk; rw [World.size_alloc] at h2; exact ⟨by omega, by omega, by omega⟩))
  obtain ⟨a2, m2, c2, rfl, hmm, hmc, hmx⟩ := HO8.out.form
  clear hmm hmc hmx
  have rc := kc6 HBr; have sc := kc6 HBs; have xc := kc6 HBx; have pc := kc2 HBp; have ec := kc6 HBe; have uc := kc6 HBu; have vc := kc6 HBv; have u2c := kc6 HBu2; have v2c := kc6 HBv2
  have hI := i012_01_0_0_01_0 w w2 w6 w8 w16 w18
  go_wp2_with (fail)
  clear rc sc xc pc ec uc vc u2c v2c
  generalize ee : World.setCell w18 _ _ = w19_1
  have hq1 := sizeS1 ee
  replace HF := fN1 HF ee
  replace HBr := bF1 HBr ee
  replace HBs := bF1 HBs ee
  replace HBx := bF1 HBx ee
  replace HBp := bF1 HBp ee
  replace HBe : Hid (Bo w19_1 (w2.heap.size + 1) 27 #[.int .i64 7, .string (nowT ts (i + 1)).s, .int .i64 0, .slice a2 m2 c2, .int .i64 (nowT ts i).l, .int .i64 (nowT ts i).c]) := Lib.hid (by rw [← ee]; exact HBe.out.set 3 (.slice a2 m2 c2))
  replace HBu := bF1 HBu ee
  replace HBv := bF1 HBv ee
  replace HBu2 := bF1 HBu2 ee
  replace HBv2 := bF1 HBv2 ee
  replace HYl := yS1 HYl ee
  clear ee
  generalize ee : World.setCell w19_1 _ _ = w19
  have hq2 := sizeS1 ee
  replace HF := fN1 HF ee
  replace HBr := bF1 HBr ee
  replace HBs := bF1 HBs ee
  replace HBx := bF1 HBx ee
  replace HBp := bF1 HBp ee
  replace HBe := bF1 HBe ee
  replace HBu := bF1 HBu ee
  replace HBv := bF1 HBv ee
  replace HBu2 : Hid (Bo w19 w16.heap.size 47 #[.slice aL n cap, .int .i64 (k : Int), .int .i64 (deep : Int), .bool false, .int .i64 a0, .int .i64 b0]) := Lib.hid (by rw [← ee]; exact HBu2.out.set 2 (.int .i64 (deep : Int)))
  replace HBv2 := bF1 HBv2 ee
  replace HYl := yS1 HYl ee
  clear ee
  have hsz19 : w19.heap.size = w18.heap.size := by omega
  clear hq1 hq2
  clear hI
  have rc := kc6 HBr; have sc := kc6 HBs; have xc := kc6 HBx; have pc := kc2 HBp; have ec := kc6 HBe; have uc := kc6 HBu; have vc := kc6 HBv; have u2c := kc6 HBu2; have v2c := kc6 HBv2
  have hI := i012_01_0_0_01_0 w w2 w6 w8 w16 w19
  have hZ := i012_01_0_0_01_0 w w2 w6 w8 w16 w18
  clear rc sc xc pc ec uc vc u2c v2c
  clear hI hZ
  clear HBr HBp HBu HBv HBv2
  have sc := kc6 HBs; have xc := kc6 HBx; have ec := kc6 HBe; have u2c := kc6 HBu2
  have hI := i12_1_0_0 w w2 w16 w19
  have hZ := i12_1_0_0 w w2 w16 w18
  refine wp_region_held_drew (S := fun w' => Far (fun b => b = (w.heap.size + 1) ∨ b = (w.heap.size + 2)) (w19) w') (by kernel_rfl) (Far.of (below_drew _)) (fun hS40 => ?_)
  refine takeA 0 (v := ?_) rfl ?_ ?_
  rotate_left
  · (intro w hSw; (try dsimp only at hSw); replace u2c := Far.c6z u2c hSw; go_simp; try with_reducible rfl)
  try simp only [Act.put, pu1, pu2, pu3]
  refine takeA 1 (v := ?_) rfl ?_ ?_
  rotate_left
  · (intro w hSw; (try dsimp only at hSw); replace ec := Far.c6z ec hSw; go_simp; try with_reducible rfl)
  try simp only [Act.put, pu1, pu2, pu3]

  refine callA 2 rfl fun K hK => ?_
  go_simp
  refine hK.out _ _ ?_ (fun hS41 => ?_)
  · exact (by refine Far.trans ?_ (Far.of (below_drew _)); (iterate 6 (refine Far.setCell (p := ⟨(w.heap.size + 1), _, none⟩) ?_ (.inl rfl) _)); exact Far.refl _ _)
  clear hK K

  clear sc xc ec u2c
  generalize ee : ((((((w19.setCell ⟨(w.heap.size + 1), 0, none⟩ (.slice aL n cap)).setCell ⟨(w.heap.size + 1), 1, none⟩ (.int .i64 (k : Int))).setCell ⟨(w.heap.size + 1), 2, none⟩ (.int .i64 (deep : Int))).setCell ⟨(w.heap.size + 1), 3, none⟩ (.bool false)).setCell ⟨(w.heap.size + 1), 4, none⟩ (.int .i64 a0)).setCell ⟨(w.heap.size + 1), 5, none⟩ (.int .i64 b0)) = w20_1 at *
  have hq1 := sizeS6 ee
  replace HF := fN6 HF ee
  replace HBs := bS6 HBs ee
  replace HBx := bF6 HBx ee
  replace HBe := bF6 HBe ee
  replace HBu2 := bF6 HBu2 ee
  replace HYl := yS6 HYl ee
  clear ee
  generalize ee : (w20_1.drew) = w20 at *
  have hq2 := sizeD ee
  replace HF := fD HF ee
  replace HBs := bD HBs ee
  replace HBx := bD HBx ee
  replace HBe := bD HBe ee
  replace HBu2 := bD HBu2 ee
  replace HYl := yD HYl ee
  clear ee
  have hsa20 : w20.heap.size = w18.heap.size + 0 := by omega
  clear hq1 hq2
  clear hI hZ
  have sc := kc6 HBs; have xc := kc6 HBx; have ec := kc6 HBe; have u2c := kc6 HBu2
  have hI := i12_1_0_0 w w2 w16 w20
  have hZ := i12_1_0_0 w w2 w16 w18
  refine callA 3 rfl fun K hK => ?_
  go_simp
  refine hK.out _ _ ?_ (fun hS42 => ?_)
  · exact (by (iterate 6 (refine Far.setCell (p := ⟨(w.heap.size + 2), _, none⟩) ?_ (.inr rfl) _)); exact hS41)
  clear hK K
  refine wpAnyH_done (by kernel_rfl) ?_ _

  clear sc xc ec u2c
  generalize ee : World.setCell _ ⟨(w.heap.size + 2), 5, none⟩ _ = w21
  have hsz21 := sizeS6 ee
  replace HF := fN6 HF ee
  replace HBs := bF6 HBs ee
  replace HBx := bS6 HBx ee
  replace HBe := bF6 HBe ee
  replace HBu2 := bF6 HBu2 ee
  replace HYl := yS6 HYl ee
  clear ee
  clear hI hZ
  cases hr
  go_wp2_with (fail)
  have z := kc6 HBs; have y := kc6 HBx
  refine bodyPost_ret (v := .tuple #[.agg #[.slice aL n cap, .int .i64 (k : Int), .int .i64 (deep : Int), .bool false, .int .i64 a0, .int .i64 b0], .agg #[.int .i64 7, .string (nowT ts (i + 1)).s, .int .i64 0, .slice a2 m2 c2, .int .i64 (nowT ts i).l, .int .i64 (nowT ts i).c]]) (by clear HF H HBs HBx HBe HBu2 HYl; simp [results, Try.results14, go_sem, z, y]) rfl ?_
  exact ⟨_, _, _, rfl, refBelow HF.out, (av_nw HYl.out (by omega))⟩
end
end Go.Proofs.Ytnmlobakiclgiaa
