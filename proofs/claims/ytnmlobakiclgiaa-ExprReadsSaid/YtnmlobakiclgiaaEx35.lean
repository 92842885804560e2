/-
 ExprReads: it answers true. No condition but sizes.
-/
import Derived.Test.YtnmlobakiclgiaaEx25
import Derived.Test.YtnmlobakiclgiaaEx23
import Derived.Test.YtnmlobakiclgiaaEx33
import Derived.Test.YtnmlobakiclgiaaEx34
import Derived.Test.YtnmlobakiclgiaaEx29
import Derived.Deep.Cut
namespace Go.Proofs.Ytnmlobakiclgiaa
open Go.RowKit
theorem allRX_ex {ts : List Tk} {aL : Option Addr} {n cap F i : Nat} {r : Rd1} (w : World) (hm : MemW w (.s 5 (tkRows ts)) (.slice aL n cap)) (hn : n ≤ 1048576) (hr : readE ts F .expr i 0 = some r) :
  Calls Try.prog 14 #[.agg #[.slice aL n cap, .int .i64 (i : Int), .int .i64 0, .bool false, .int .i64 0, .int .i64 0]] w (AnsR aL n cap r 0 0 0 w) :=
 (allRR ts aL n cap F).ex i 0 r 0 0 w (Nat.zero_le _) hm hn hr
theorem allRX_pa {ts : List Tk} {aL : Option Addr} {n cap F i : Nat} {r : Rd1} (w : World) (hm : MemW w (.s 5 (tkRows ts)) (.slice aL n cap)) (hn : n ≤ 1048576) (hr : readE ts F .pat i 0 = some r) :
  Calls Try.prog 15 #[.agg #[.slice aL n cap, .int .i64 (i : Int), .int .i64 0, .bool false, .int .i64 0, .int .i64 0]] w (AnsR aL n cap r 0 0 0 w) :=
 allRP ts aL n cap F F (Nat.le_refl _) i 0 r 0 0 w (Nat.zero_le _) hm hn hr
set_option maxRecDepth 100000 in
set_option maxHeartbeats 20000000 in
theorem exprReads_any (ts : List Tk) (aL : Option Addr) (n cap : Nat) (i : Int) (t : Tk) (op : ByteArray) (w : World) (hm : MemW w (.s 5 (tkRows ts)) (.slice aL n cap)) (hi : -9223372036854775808 ≤ i ∧ i ≤ 9223372036854775807) : Calls Try.prog 5 #[.slice aL n cap, .int .i64 i, tkV t, .string op] w fun e w' => e = .returned (.bool true) ∧ Below w.heap.size w w' := by
 have H := Lib.hid hm
 clear hm
 simp only [tkV]
 have HF : Hid (FarB w.heap.size w.heap.size w w) := Lib.hid (FarB.refl _ _ _)
 go_enter Try.func5, Try.ntmps5
 go_upto_region 1 with (fail)
 generalize ee : World.alloc w _ = w1
 have hsa1 := sizeA ee
 replace HF := fA HF ee
 have HBt := nB ee (w.heap.size)
 clear ee
 have tc := kc5 HBt
 have hI := i0_0 w w1
 have hZ := i01 w
 go_wp2_with (fail)
 clear tc
 refine (awake06_any _).mono ?_
 rintro _ w2 ⟨rfl, hb⟩
 replace HBt := kB HBt hb
 replace HF := kF HF hb
 have hs2 := hb.size
 clear hb
 clear hI hZ
 have tc := kc5 HBt
 have hI := i0_0 w w2
 by_cases hbig : 200 < n
 ·
  have hb3 : ((200 : Int) < (n : Int)) = True := by simp; omega
  go_wp2_with (fail)
  clear tc
  go_ret
  exact ⟨rfl, refBelow HF.out⟩
 by_cases hbig2 : 300 < i
 ·
  have hb3 : ((200 : Int) < (n : Int)) = False := by simp; omega
  have hb4 : ((300 : Int) < i) = True := by simp; omega
  go_wp2_with (fail)
  clear tc
  go_ret
  exact ⟨rfl, refBelow HF.out⟩
 have hb3 : ((200 : Int) < (n : Int)) = False := by simp; omega
 have hb4 : ((300 : Int) < i) = False := by simp; omega
 obtain ⟨re, hre⟩ := Option.isSome_iff_exists.1 (readE_total (ts := ts) (8 * (ts.length - i.toNat) + 7) .expr i.toNat 0 (by simp only [wNt]; omega))
 obtain ⟨rp, hrp⟩ := Option.isSome_iff_exists.1 (readE_total (ts := ts) (8 * (ts.length - i.toNat) + 7) .pat i.toNat 0 (by simp only [wNt]; omega))
 have HRE := Lib.hid hre
 have HRP := Lib.hid hrp
 clear hre hrp
 have hmx : (if i < 0 then 0 else i) = (i.toNat : Int) := by split <;> omega
 have hmx2 : (if 0 < i then i else 0) = (i.toNat : Int) := by split <;> omega
 generalize hit : i.toNat = m0 at HRE HRP hmx hmx2

 go_wp2_with (fail)
 cases re with
 | ok x j =>
  cases rp with
  | ok p u =>
   clear tc
   refine (of_any (F := 8 * (ts.length - m0) + 7) (r := .ok x j) _ (refTok HF.out H.out) (by omega) (by rw [hit]; exact HRE.out)).mono ?_
   rintro _ w3 ⟨ax, mx, cx, rfl, hb, hm⟩
   replace HBt := kB HBt hb
   replace HF := kF HF hb
   have hs3 := hb.size
   clear hb
   have HMx := Lib.hid hm
   clear hm
   simp only [exV]
   clear hI
   have tc := kc5 HBt
   have hI := i0_0 w w3
   go_upto_region 6 with (fail)
   clear tc
   generalize ee : World.alloc w3 _ = w4_1
   have hq1 := sizeA ee
   replace HF := fA HF ee
   replace HBt := bA HBt ee
   replace HMx := mA HMx ee
   have HBe := nB ee (w3.heap.size)
   clear ee
   generalize ee : World.alloc w4_1 _ = w4
   have hq2 := sizeA ee
   replace HF := fA HF ee
   replace HBt := bA HBt ee
   replace HBe := bA HBe ee
   replace HMx := mA HMx ee
   have HBf := nB ee (w3.heap.size + 1)
   clear ee
   have hsa4 : w4.heap.size = w3.heap.size + 2 := by omega
   clear hq1 hq2
   clear hI
   have tc := kc5 HBt; have ec := kc6 HBe; have fc := kc3 HBf
   have hI := chain4 w.heap.size w3.heap.size (w3.heap.size + 1) w4.heap.size
   have hZ := chain4 w.heap.size w3.heap.size (w3.heap.size + 1) (w3.heap.size + 2)
   go_wp2_with (fail)
   clear tc ec fc
   refine (pat_any (F := 8 * (ts.length - m0) + 7) (r := .ok p u) _ (refTok HF.out H.out) (by omega) (by rw [hit]; exact HRP.out)).mono ?_
   rintro _ w5 ⟨ap, mp, cp, rfl, hb, hm⟩
   replace HBt := kB HBt hb
   replace HBe := kB HBe hb
   replace HBf := kB HBf hb
   replace HMx := kM HMx hb
   replace HF := kF HF hb
   have hs5 := hb.size
   clear hb
   have HMp := Lib.hid hm
   clear hm
   simp only [exV]
   clear hI hZ
   have tc := kc5 HBt; have ec := kc6 HBe; have fc := kc3 HBf
   have hI := chain4 w.heap.size w3.heap.size (w3.heap.size + 1) w5.heap.size
   go_upto_region 7 with (fail)
   clear tc ec fc
   generalize ee : World.alloc w5 _ = w6_1
   have hq1 := sizeA ee
   replace HF := fA HF ee
   replace HBt := bA HBt ee
   replace HBe := bA HBe ee
   replace HBf := bA HBf ee
   replace HMx := mA HMx ee
   replace HMp := mA HMp ee
   have HBp := nB ee (w5.heap.size)
   clear ee
   generalize ee : World.alloc w6_1 _ = w6
   have hq2 := sizeA ee
   replace HF := fA HF ee
   replace HBt := bA HBt ee
   replace HBe := bA HBe ee
   replace HBf := bA HBf ee
   replace HBp := bA HBp ee
   replace HMx := mA HMx ee
   replace HMp := mA HMp ee
   have HBg := nB ee (w5.heap.size + 1)
   clear ee
   have hsa6 : w6.heap.size = w5.heap.size + 2 := by omega
   clear hq1 hq2
   clear hI
   have tc := kc5 HBt; have ec := kc6 HBe; have fc := kc3 HBf; have pc := kc6 HBp; have gc := kc3 HBg
   have hI := chain6 w.heap.size w3.heap.size (w3.heap.size + 1) w5.heap.size (w5.heap.size + 1) w6.heap.size
   have hZ := chain6 w.heap.size w3.heap.size (w3.heap.size + 1) w5.heap.size (w5.heap.size + 1) (w5.heap.size + 2)
   go_wp2_with (fail)
   clear tc ec fc pc gc
   refine (allRX_ex (r := .ok x j) _ (refTok HF.out H.out) (by omega) HRE.out).mono ?_
   rintro _ w7 ⟨ay, my, cy, rfl, hb, hm⟩
   replace HBt := kB HBt hb
   replace HBe := kB HBe hb
   replace HBf := kB HBf hb
   replace HBp := kB HBp hb
   replace HBg := kB HBg hb
   replace HMx := kM HMx hb
   replace HMp := kM HMp hb
   replace HF := kF HF hb
   have hs7 := hb.size
   clear hb
   have HMy := Lib.hid hm
   clear hm
   simp only [rdV, exV]
   clear hI hZ
   have tc := kc5 HBt; have ec := kc6 HBe; have fc := kc3 HBf; have pc := kc6 HBp; have gc := kc3 HBg
   have hI := chain6 w.heap.size w3.heap.size (w3.heap.size + 1) w5.heap.size (w5.heap.size + 1) w7.heap.size
   go_upto_region 8 with (fail)
   clear tc ec fc pc gc
   generalize ee : World.alloc w7 _ = w8_1
   have hq1 := sizeA ee
   replace HF := fA HF ee
   replace HBt := bA HBt ee
   replace HBe := bA HBe ee
   replace HBf := bA HBf ee
   replace HBp := bA HBp ee
   replace HBg := bA HBg ee
   replace HMx := mA HMx ee
   replace HMp := mA HMp ee
   replace HMy := mA HMy ee
   have HBr := nB ee (w7.heap.size)
   clear ee
   generalize ee : World.alloc w8_1 _ = w8
   have hq2 := sizeA ee
   replace HF := fA HF ee
   replace HBt := bA HBt ee
   replace HBe := bA HBe ee
   replace HBf := bA HBf ee
   replace HBp := bA HBp ee
   replace HBg := bA HBg ee
   replace HBr := bA HBr ee
   replace HMx := mA HMx ee
   replace HMp := mA HMp ee
   replace HMy := mA HMy ee
   have HBy := nB ee (w7.heap.size + 1)
   clear ee
   have hsa8 : w8.heap.size = w7.heap.size + 2 := by omega
   clear hq1 hq2
   clear hI
   have tc := kc5 HBt; have ec := kc6 HBe; have fc := kc3 HBf; have pc := kc6 HBp; have gc := kc3 HBg; have rc := kc6 HBr; have yc := kc6 HBy
   have hI := chain8 w.heap.size w3.heap.size (w3.heap.size + 1) w5.heap.size (w5.heap.size + 1) w7.heap.size (w7.heap.size + 1) w8.heap.size
   have hZ := chain8 w.heap.size w3.heap.size (w3.heap.size + 1) w5.heap.size (w5.heap.size + 1) w7.heap.size (w7.heap.size + 1) (w7.heap.size + 2)
   go_wp2_with (fail)
   clear tc ec fc pc gc rc yc
   refine (allRX_pa (r := .ok p u) _ (refTok HF.out H.out) (by omega) HRP.out).mono ?_
   rintro _ w9 ⟨aq, mq, cq, rfl, hb, hm⟩
   replace HBt := kB HBt hb
   replace HBe := kB HBe hb
   replace HBf := kB HBf hb
   replace HBp := kB HBp hb
   replace HBg := kB HBg hb
   replace HBr := kB HBr hb
   replace HBy := kB HBy hb
   replace HMx := kM HMx hb
   replace HMp := kM HMp hb
   replace HMy := kM HMy hb
   replace HF := kF HF hb
   have hs9 := hb.size
   clear hb
   have HMq := Lib.hid hm
   clear hm
   simp only [rdV, exV]
   clear hI hZ
   have tc := kc5 HBt; have ec := kc6 HBe; have fc := kc3 HBf; have pc := kc6 HBp; have gc := kc3 HBg; have rc := kc6 HBr; have yc := kc6 HBy
   have hI := chain8 w.heap.size w3.heap.size (w3.heap.size + 1) w5.heap.size (w5.heap.size + 1) w7.heap.size (w7.heap.size + 1) w9.heap.size
   go_upto_region 9 with (fail)
   clear tc ec fc pc gc rc yc
   generalize ee : World.alloc w9 _ = w10_1
   have hq1 := sizeA ee
   replace HF := fA HF ee
   replace HBt := bA HBt ee
   replace HBe := bA HBe ee
   replace HBf := bA HBf ee
   replace HBp := bA HBp ee
   replace HBg := bA HBg ee
   replace HBr := bA HBr ee
   replace HBy := bA HBy ee
   replace HMx := mA HMx ee
   replace HMp := mA HMp ee
   replace HMy := mA HMy ee
   replace HMq := mA HMq ee
   have HBs := nB ee (w9.heap.size)
   clear ee
   generalize ee : World.alloc w10_1 _ = w10
   have hq2 := sizeA ee
   replace HF := fA HF ee
   replace HBt := bA HBt ee
   replace HBe := bA HBe ee
   replace HBf := bA HBf ee
   replace HBp := bA HBp ee
   replace HBg := bA HBg ee
   replace HBr := bA HBr ee
   replace HBy := bA HBy ee
   replace HBs := bA HBs ee
   replace HMx := mA HMx ee
   replace HMp := mA HMp ee
   replace HMy := mA HMy ee
   replace HMq := mA HMq ee
   have HBq := nB ee (w9.heap.size + 1)
   clear ee
   have hsa10 : w10.heap.size = w9.heap.size + 2 := by omega
   clear hq1 hq2
   clear hI
   have tc := kc5 HBt; have ec := kc6 HBe; have fc := kc3 HBf; have pc := kc6 HBp; have gc := kc3 HBg; have rc := kc6 HBr; have yc := kc6 HBy; have sc := kc6 HBs; have qc := kc6 HBq
   have hI := chain10 w.heap.size w3.heap.size (w3.heap.size + 1) w5.heap.size (w5.heap.size + 1) w7.heap.size (w7.heap.size + 1) w9.heap.size (w9.heap.size + 1) w10.heap.size
   have hZ := chain10 w.heap.size w3.heap.size (w3.heap.size + 1) w5.heap.size (w5.heap.size + 1) w7.heap.size (w7.heap.size + 1) w9.heap.size (w9.heap.size + 1) (w9.heap.size + 2)
   go_wp2_with (fail)
   refine (binds_any op _).mono ?_
   rintro _ _ ⟨rfl, rfl⟩
   generalize hbo : bindsE op = bk
   obtain ⟨bb, hbb⟩ : ∃ bb, decide (0 < bk) = bb := ⟨_, rfl⟩
   rw [hbb]
   go_upto_region 10 with (fail)
   refine wp_region_held_drew (S := fun w' => Far (fun _ => False) (w10) w') (by kernel_rfl) (Far.of (below_drew _)) (fun hS20 => ?_)
   refine takeA 0 (v := ?_) rfl ?_ ?_
   rotate_left
   · (intro w hSw; (try dsimp only at hSw); replace tc := Far.c5z tc hSw (fun e => e); go_simp; try with_reducible rfl)
   try simp only [Act.put, pu1, pu2, pu3]
   refine takeA 2 (v := ?_) rfl ?_ ?_
   rotate_left
   · (intro w hSw; (try dsimp only at hSw); replace tc := Far.c5z tc hSw (fun e => e); go_simp; try with_reducible rfl)
   try simp only [Act.put, pu1, pu2, pu3]
   refine callA 1 rfl fun K hK => ?_
   go_simp
   refine (starts_any t _).mono ?_
   rintro e wx21 ⟨rfl, hb⟩
   clear tc ec fc pc gc rc yc sc qc
   have hbk := hb
   replace hb := Below.one hb
   replace HBt := kB HBt hb
   replace HBe := kB HBe hb
   replace HBf := kB HBf hb
   replace HBp := kB HBp hb
   replace HBg := kB HBg hb
   replace HBr := kB HBr hb
   replace HBy := kB HBy hb
   replace HBs := kB HBs hb
   replace HBq := kB HBq hb
   replace HMx := kM HMx hb
   replace HMp := kM HMp hb
   replace HMy := kM HMy hb
   replace HMq := kM HMq hb
   replace HF := kF HF hb
   have hs21 := hb.size
   clear hb
   go_simp
   refine hK.out _ _ ?_ (fun hS21 => ?_)
   · exact Far.trans hS20 (Far.of hbk)
   clear hK K
   refine callA 3 rfl fun K hK => ?_
   go_simp
   refine (rstarts_any t _).mono ?_
   rintro e wx22 ⟨rfl, hb⟩
   have hbk2 := hb
   replace HBt := kB HBt hb
   replace HBe := kB HBe hb
   replace HBf := kB HBf hb
   replace HBp := kB HBp hb
   replace HBg := kB HBg hb
   replace HBr := kB HBr hb
   replace HBy := kB HBy hb
   replace HBs := kB HBs hb
   replace HBq := kB HBq hb
   replace HMx := kM HMx hb
   replace HMp := kM HMp hb
   replace HMy := kM HMy hb
   replace HMq := kM HMq hb
   replace HF := kF HF hb
   have hs22 := hb.size
   clear hb
   go_simp
   refine hK.out _ _ ?_ (fun hS22 => ?_)
   · exact Far.trans hS21 (Far.of hbk2)
   clear hK K
   refine takeA 4 (v := ?_) rfl ?_ ?_
   rotate_left
   · (intro w hSw; (try dsimp only at hSw); go_simp; try with_reducible rfl)
   try simp only [Act.put, pu1, pu2, pu3]
   refine takeA 5 (v := ?_) rfl ?_ ?_
   rotate_left
   · (intro w hSw; (try dsimp only at hSw); go_simp; try with_reducible rfl)
   try simp only [Act.put, pu1, pu2, pu3]
   refine takeA 6 (v := ?_) rfl ?_ ?_
   rotate_left
   · (intro w hSw; (try dsimp only at hSw); go_simp; try with_reducible rfl)
   try simp only [Act.put, pu1, pu2, pu3]
   refine takeA 7 (v := ?_) rfl ?_ ?_
   rotate_left
   · (intro w hSw; (try dsimp only at hSw); go_simp; try with_reducible rfl)
   try simp only [Act.put, pu1, pu2, pu3]
   refine callA 8 rfl fun K hK => ?_
   go_simp
   refine (rbinds_any op _).mono ?_
   rintro e wx23 ⟨rfl, rfl⟩
   rw [hbo]
   go_simp
   refine hK.out _ _ ?_ (fun hS23 => ?_)
   · exact Far.trans hS22 (Far.refl _ _)
   clear hK K
   refine takeA 9 (v := ?_) rfl ?_ ?_
   rotate_left
   · (intro w hSw; (try dsimp only at hSw); go_simp; try with_reducible rfl)
   try simp only [Act.put, pu1, pu2, pu3]
   refine takeA 10 (v := ?_) rfl ?_ ?_
   rotate_left
   · (intro w hSw; (try dsimp only at hSw); go_simp; try with_reducible rfl)
   try simp only [Act.put, pu1, pu2, pu3]
   refine takeA 11 (v := ?_) rfl ?_ ?_
   rotate_left
   · (intro w hSw; (try dsimp only at hSw); go_simp; try with_reducible rfl)
   try simp only [Act.put, pu1, pu2, pu3]
   refine takeA 12 (v := ?_) rfl ?_ ?_
   rotate_left
   · (intro w hSw; (try dsimp only at hSw); go_simp; try with_reducible rfl)
   try simp only [Act.put, pu1, pu2, pu3]
   refine takeA 13 (v := ?_) rfl ?_ ?_
   rotate_left
   · (intro w hSw; (try dsimp only at hSw); go_simp; try with_reducible rfl)
   try simp only [Act.put, pu1, pu2, pu3]
   refine takeA 14 (v := ?_) rfl ?_ ?_
   rotate_left
   · (intro w hSw; (try dsimp only at hSw); go_simp; try with_reducible rfl)
   try simp only [Act.put, pu1, pu2, pu3]
   refine takeA 15 (v := ?_) rfl ?_ ?_
   rotate_left
   · (intro w hSw; (try dsimp only at hSw); go_simp; try with_reducible rfl)
   try simp only [Act.put, pu1, pu2, pu3]
   refine takeA 16 (v := ?_) rfl ?_ ?_
   rotate_left
   · (intro w hSw; (try dsimp only at hSw); go_simp; try with_reducible rfl)
   try simp only [Act.put, pu1, pu2, pu3]
   refine wpAnyH_done (by kernel_rfl) ?_ _

   clear hI hZ
   have tc := kc5 HBt; have ec := kc6 HBe; have fc := kc3 HBf; have pc := kc6 HBp; have gc := kc3 HBg; have rc := kc6 HBr; have yc := kc6 HBy; have sc := kc6 HBs; have qc := kc6 HBq
   have hI := chain10 w.heap.size w3.heap.size (w3.heap.size + 1) w5.heap.size (w5.heap.size + 1) w7.heap.size (w7.heap.size + 1) w9.heap.size (w9.heap.size + 1) wx22.heap.size
   go_wp2_with (fail)
   clear tc ec fc pc gc rc yc sc qc
   refine (sameE_self x _ (memW_nw HMx.out) (memW_nw HMy.out)).mono ?_
   rintro _ w23 ⟨rfl, hb⟩
   replace HBt := kB HBt hb
   replace HBe := kB HBe hb
   replace HBf := kB HBf hb
   replace HBp := kB HBp hb
   replace HBg := kB HBg hb
   replace HBr := kB HBr hb
   replace HBy := kB HBy hb
   replace HBs := kB HBs hb
   replace HBq := kB HBq hb
   replace HMx := kM HMx hb
   replace HMp := kM HMp hb
   replace HMy := kM HMy hb
   replace HMq := kM HMq hb
   replace HF := kF HF hb
   have hs23 := hb.size
   clear hb
   clear hI
   have tc := kc5 HBt; have ec := kc6 HBe; have fc := kc3 HBf; have pc := kc6 HBp; have gc := kc3 HBg; have rc := kc6 HBr; have yc := kc6 HBy; have sc := kc6 HBs; have qc := kc6 HBq
   have hI := chain10 w.heap.size w3.heap.size (w3.heap.size + 1) w5.heap.size (w5.heap.size + 1) w7.heap.size (w7.heap.size + 1) w9.heap.size (w9.heap.size + 1) w23.heap.size
   go_wp2_with (fail)
   clear tc ec fc pc gc rc yc sc qc
   refine (sameE_self p _ (memW_nw HMp.out) (memW_nw HMq.out)).mono ?_
   rintro _ w24 ⟨rfl, hb⟩
   replace HBt := kB HBt hb
   replace HBe := kB HBe hb
   replace HBf := kB HBf hb
   replace HBp := kB HBp hb
   replace HBg := kB HBg hb
   replace HBr := kB HBr hb
   replace HBy := kB HBy hb
   replace HBs := kB HBs hb
   replace HBq := kB HBq hb
   replace HMx := kM HMx hb
   replace HMp := kM HMp hb
   replace HMy := kM HMy hb
   replace HMq := kM HMq hb
   replace HF := kF HF hb
   have hs24 := hb.size
   clear hb
   clear hI
   have tc := kc5 HBt; have ec := kc6 HBe; have fc := kc3 HBf; have pc := kc6 HBp; have gc := kc3 HBg; have rc := kc6 HBr; have yc := kc6 HBy; have sc := kc6 HBs; have qc := kc6 HBq
   have hI := chain10 w.heap.size w3.heap.size (w3.heap.size + 1) w5.heap.size (w5.heap.size + 1) w7.heap.size (w7.heap.size + 1) w9.heap.size (w9.heap.size + 1) w24.heap.size
   go_wp2_with (fail)
   clear tc ec fc pc gc rc yc sc qc
   go_ret
   exact ⟨rfl, refBelow HF.out⟩
  | bad lp_ cp_ =>
   clear tc
   refine (of_any (F := 8 * (ts.length - m0) + 7) (r := .ok x j) _ (refTok HF.out H.out) (by omega) (by rw [hit]; exact HRE.out)).mono ?_
   rintro _ w3 ⟨ax, mx, cx, rfl, hb, hm⟩
   replace HBt := kB HBt hb
   replace HF := kF HF hb
   have hs3 := hb.size
   clear hb
   have HMx := Lib.hid hm
   clear hm
   simp only [exV]
   clear hI
   have tc := kc5 HBt
   have hI := i0_0 w w3
   go_upto_region 6 with (fail)
   clear tc
   generalize ee : World.alloc w3 _ = w4_1
   have hq1 := sizeA ee
   replace HF := fA HF ee
   replace HBt := bA HBt ee
   replace HMx := mA HMx ee
   have HBe := nB ee (w3.heap.size)
   clear ee
   generalize ee : World.alloc w4_1 _ = w4
   have hq2 := sizeA ee
   replace HF := fA HF ee
   replace HBt := bA HBt ee
   replace HBe := bA HBe ee
   replace HMx := mA HMx ee
   have HBf := nB ee (w3.heap.size + 1)
   clear ee
   have hsa4 : w4.heap.size = w3.heap.size + 2 := by omega
   clear hq1 hq2
   clear hI
   have tc := kc5 HBt; have ec := kc6 HBe; have fc := kc3 HBf
   have hI := chain4 w.heap.size w3.heap.size (w3.heap.size + 1) w4.heap.size
   have hZ := chain4 w.heap.size w3.heap.size (w3.heap.size + 1) (w3.heap.size + 2)
   go_wp2_with (fail)
   clear tc ec fc
   refine (pat_any (F := 8 * (ts.length - m0) + 7) (r := .bad lp_ cp_) _ (refTok HF.out H.out) (by omega) (by rw [hit]; exact HRP.out)).mono ?_
   rintro _ w5 ⟨rfl, hb⟩
   replace HBt := kB HBt hb
   replace HBe := kB HBe hb
   replace HBf := kB HBf hb
   replace HMx := kM HMx hb
   replace HF := kF HF hb
   have hs5 := hb.size
   clear hb
   clear hI hZ
   have tc := kc5 HBt; have ec := kc6 HBe; have fc := kc3 HBf
   have hI := chain4 w.heap.size w3.heap.size (w3.heap.size + 1) w5.heap.size
   go_upto_region 7 with (fail)
   clear tc ec fc
   generalize ee : World.alloc w5 _ = w6_1
   have hq1 := sizeA ee
   replace HF := fA HF ee
   replace HBt := bA HBt ee
   replace HBe := bA HBe ee
   replace HBf := bA HBf ee
   replace HMx := mA HMx ee
   have HBp := nB ee (w5.heap.size)
   clear ee
   generalize ee : World.alloc w6_1 _ = w6
   have hq2 := sizeA ee
   replace HF := fA HF ee
   replace HBt := bA HBt ee
   replace HBe := bA HBe ee
   replace HBf := bA HBf ee
   replace HBp := bA HBp ee
   replace HMx := mA HMx ee
   have HBg := nB ee (w5.heap.size + 1)
   clear ee
   have hsa6 : w6.heap.size = w5.heap.size + 2 := by omega
   clear hq1 hq2
   clear hI
   have tc := kc5 HBt; have ec := kc6 HBe; have fc := kc3 HBf; have pc := kc6 HBp; have gc := kc3 HBg
   have hI := chain6 w.heap.size w3.heap.size (w3.heap.size + 1) w5.heap.size (w5.heap.size + 1) w6.heap.size
   have hZ := chain6 w.heap.size w3.heap.size (w3.heap.size + 1) w5.heap.size (w5.heap.size + 1) (w5.heap.size + 2)
   go_wp2_with (fail)
   clear tc ec fc pc gc
   refine (allRX_ex (r := .ok x j) _ (refTok HF.out H.out) (by omega) HRE.out).mono ?_
   rintro _ w7 ⟨ay, my, cy, rfl, hb, hm⟩
   replace HBt := kB HBt hb
   replace HBe := kB HBe hb
   replace HBf := kB HBf hb
   replace HBp := kB HBp hb
   replace HBg := kB HBg hb
   replace HMx := kM HMx hb
   replace HF := kF HF hb
   have hs7 := hb.size
   clear hb
   have HMy := Lib.hid hm
   clear hm
   simp only [rdV, exV]
   clear hI hZ
   have tc := kc5 HBt; have ec := kc6 HBe; have fc := kc3 HBf; have pc := kc6 HBp; have gc := kc3 HBg
   have hI := chain6 w.heap.size w3.heap.size (w3.heap.size + 1) w5.heap.size (w5.heap.size + 1) w7.heap.size
   go_upto_region 8 with (fail)
   clear tc ec fc pc gc
   generalize ee : World.alloc w7 _ = w8_1
   have hq1 := sizeA ee
   replace HF := fA HF ee
   replace HBt := bA HBt ee
   replace HBe := bA HBe ee
   replace HBf := bA HBf ee
   replace HBp := bA HBp ee
   replace HBg := bA HBg ee
   replace HMx := mA HMx ee
   replace HMy := mA HMy ee
   have HBr := nB ee (w7.heap.size)
   clear ee
   generalize ee : World.alloc w8_1 _ = w8
   have hq2 := sizeA ee
   replace HF := fA HF ee
   replace HBt := bA HBt ee
   replace HBe := bA HBe ee
   replace HBf := bA HBf ee
   replace HBp := bA HBp ee
   replace HBg := bA HBg ee
   replace HBr := bA HBr ee
   replace HMx := mA HMx ee
   replace HMy := mA HMy ee
   have HBy := nB ee (w7.heap.size + 1)
   clear ee
   have hsa8 : w8.heap.size = w7.heap.size + 2 := by omega
   clear hq1 hq2
   clear hI
   have tc := kc5 HBt; have ec := kc6 HBe; have fc := kc3 HBf; have pc := kc6 HBp; have gc := kc3 HBg; have rc := kc6 HBr; have yc := kc6 HBy
   have hI := chain8 w.heap.size w3.heap.size (w3.heap.size + 1) w5.heap.size (w5.heap.size + 1) w7.heap.size (w7.heap.size + 1) w8.heap.size
   have hZ := chain8 w.heap.size w3.heap.size (w3.heap.size + 1) w5.heap.size (w5.heap.size + 1) w7.heap.size (w7.heap.size + 1) (w7.heap.size + 2)
   go_wp2_with (fail)
   clear tc ec fc pc gc rc yc
   refine (allRX_pa (r := .bad lp_ cp_) _ (refTok HF.out H.out) (by omega) HRP.out).mono ?_
   rintro _ w9 ⟨iq, dq, kq, zq, nq, aq, mq, vq, yq, wq, rfl, hb⟩
   replace HBt := kB HBt hb
   replace HBe := kB HBe hb
   replace HBf := kB HBf hb
   replace HBp := kB HBp hb
   replace HBg := kB HBg hb
   replace HBr := kB HBr hb
   replace HBy := kB HBy hb
   replace HMx := kM HMx hb
   replace HMy := kM HMy hb
   replace HF := kF HF hb
   have hs9 := hb.size
   clear hb
   simp only [rdV]
   clear hI hZ
   have tc := kc5 HBt; have ec := kc6 HBe; have fc := kc3 HBf; have pc := kc6 HBp; have gc := kc3 HBg; have rc := kc6 HBr; have yc := kc6 HBy
   have hI := chain8 w.heap.size w3.heap.size (w3.heap.size + 1) w5.heap.size (w5.heap.size + 1) w7.heap.size (w7.heap.size + 1) w9.heap.size
   go_upto_region 9 with (fail)
   clear tc ec fc pc gc rc yc
   generalize ee : World.alloc w9 _ = w10_1
   have hq1 := sizeA ee
   replace HF := fA HF ee
   replace HBt := bA HBt ee
   replace HBe := bA HBe ee
   replace HBf := bA HBf ee
   replace HBp := bA HBp ee
   replace HBg := bA HBg ee
   replace HBr := bA HBr ee
   replace HBy := bA HBy ee
   replace HMx := mA HMx ee
   replace HMy := mA HMy ee
   have HBs := nB ee (w9.heap.size)
   clear ee
   generalize ee : World.alloc w10_1 _ = w10
   have hq2 := sizeA ee
   replace HF := fA HF ee
   replace HBt := bA HBt ee
   replace HBe := bA HBe ee
   replace HBf := bA HBf ee
   replace HBp := bA HBp ee
   replace HBg := bA HBg ee
   replace HBr := bA HBr ee
   replace HBy := bA HBy ee
   replace HBs := bA HBs ee
   replace HMx := mA HMx ee
   replace HMy := mA HMy ee
   have HBq := nB ee (w9.heap.size + 1)
   clear ee
   have hsa10 : w10.heap.size = w9.heap.size + 2 := by omega
   clear hq1 hq2
   clear hI
   have tc := kc5 HBt; have ec := kc6 HBe; have fc := kc3 HBf; have pc := kc6 HBp; have gc := kc3 HBg; have rc := kc6 HBr; have yc := kc6 HBy; have sc := kc6 HBs; have qc := kc6 HBq
   have hI := chain10 w.heap.size w3.heap.size (w3.heap.size + 1) w5.heap.size (w5.heap.size + 1) w7.heap.size (w7.heap.size + 1) w9.heap.size (w9.heap.size + 1) w10.heap.size
   have hZ := chain10 w.heap.size w3.heap.size (w3.heap.size + 1) w5.heap.size (w5.heap.size + 1) w7.heap.size (w7.heap.size + 1) w9.heap.size (w9.heap.size + 1) (w9.heap.size + 2)
   go_wp2_with (fail)
   refine (binds_any op _).mono ?_
   rintro _ _ ⟨rfl, rfl⟩
   generalize hbo : bindsE op = bk
   obtain ⟨bb, hbb⟩ : ∃ bb, decide (0 < bk) = bb := ⟨_, rfl⟩
   rw [hbb]
   go_upto_region 10 with (fail)
   refine wp_region_held_drew (S := fun w' => Far (fun _ => False) (w10) w') (by kernel_rfl) (Far.of (below_drew _)) (fun hS20 => ?_)
   refine takeA 0 (v := ?_) rfl ?_ ?_
   rotate_left
   · (intro w hSw; (try dsimp only at hSw); replace tc := Far.c5z tc hSw (fun e => e); go_simp; try with_reducible rfl)
   try simp only [Act.put, pu1, pu2, pu3]
   refine takeA 2 (v := ?_) rfl ?_ ?_
   rotate_left
   · (intro w hSw; (try dsimp only at hSw); replace tc := Far.c5z tc hSw (fun e => e); go_simp; try with_reducible rfl)
   try simp only [Act.put, pu1, pu2, pu3]
   refine callA 1 rfl fun K hK => ?_
   go_simp
   refine (starts_any t _).mono ?_
   rintro e wx21 ⟨rfl, hb⟩
   clear tc ec fc pc gc rc yc sc qc
   have hbk := hb
   replace hb := Below.one hb
   replace HBt := kB HBt hb
   replace HBe := kB HBe hb
   replace HBf := kB HBf hb
   replace HBp := kB HBp hb
   replace HBg := kB HBg hb
   replace HBr := kB HBr hb
   replace HBy := kB HBy hb
   replace HBs := kB HBs hb
   replace HBq := kB HBq hb
   replace HMx := kM HMx hb
   replace HMy := kM HMy hb
   replace HF := kF HF hb
   have hs21 := hb.size
   clear hb
   go_simp
   refine hK.out _ _ ?_ (fun hS21 => ?_)
   · exact Far.trans hS20 (Far.of hbk)
   clear hK K
   refine callA 3 rfl fun K hK => ?_
   go_simp
   refine (rstarts_any t _).mono ?_
   rintro e wx22 ⟨rfl, hb⟩
   have hbk2 := hb
   replace HBt := kB HBt hb
   replace HBe := kB HBe hb
   replace HBf := kB HBf hb
   replace HBp := kB HBp hb
   replace HBg := kB HBg hb
   replace HBr := kB HBr hb
   replace HBy := kB HBy hb
   replace HBs := kB HBs hb
   replace HBq := kB HBq hb
   replace HMx := kM HMx hb
   replace HMy := kM HMy hb
   replace HF := kF HF hb
   have hs22 := hb.size
   clear hb
   go_simp
   refine hK.out _ _ ?_ (fun hS22 => ?_)
   · exact Far.trans hS21 (Far.of hbk2)
   clear hK K
   refine takeA 4 (v := ?_) rfl ?_ ?_
   rotate_left
   · (intro w hSw; (try dsimp only at hSw); go_simp; try with_reducible rfl)
   try simp only [Act.put, pu1, pu2, pu3]
   refine takeA 5 (v := ?_) rfl ?_ ?_
   rotate_left
   · (intro w hSw; (try dsimp only at hSw); go_simp; try with_reducible rfl)
   try simp only [Act.put, pu1, pu2, pu3]
   refine takeA 6 (v := ?_) rfl ?_ ?_
   rotate_left
   · (intro w hSw; (try dsimp only at hSw); go_simp; try with_reducible rfl)
   try simp only [Act.put, pu1, pu2, pu3]
   refine takeA 7 (v := ?_) rfl ?_ ?_
   rotate_left
   · (intro w hSw; (try dsimp only at hSw); go_simp; try with_reducible rfl)
   try simp only [Act.put, pu1, pu2, pu3]
   refine callA 8 rfl fun K hK => ?_
   go_simp
   refine (rbinds_any op _).mono ?_
   rintro e wx23 ⟨rfl, rfl⟩
   rw [hbo]
   go_simp
   refine hK.out _ _ ?_ (fun hS23 => ?_)
   · exact Far.trans hS22 (Far.refl _ _)
   clear hK K
   refine takeA 9 (v := ?_) rfl ?_ ?_
   rotate_left
   · (intro w hSw; (try dsimp only at hSw); go_simp; try with_reducible rfl)
   try simp only [Act.put, pu1, pu2, pu3]
   refine takeA 10 (v := ?_) rfl ?_ ?_
   rotate_left
   · (intro w hSw; (try dsimp only at hSw); go_simp; try with_reducible rfl)
   try simp only [Act.put, pu1, pu2, pu3]
   refine takeA 11 (v := ?_) rfl ?_ ?_
   rotate_left
   · (intro w hSw; (try dsimp only at hSw); go_simp; try with_reducible rfl)
   try simp only [Act.put, pu1, pu2, pu3]
   refine takeA 12 (v := ?_) rfl ?_ ?_
   rotate_left
   · (intro w hSw; (try dsimp only at hSw); go_simp; try with_reducible rfl)
   try simp only [Act.put, pu1, pu2, pu3]
   refine takeA 13 (v := ?_) rfl ?_ ?_
   rotate_left
   · (intro w hSw; (try dsimp only at hSw); go_simp; try with_reducible rfl)
   try simp only [Act.put, pu1, pu2, pu3]
   refine takeA 14 (v := ?_) rfl ?_ ?_
   rotate_left
   · (intro w hSw; (try dsimp only at hSw); go_simp; try with_reducible rfl)
   try simp only [Act.put, pu1, pu2, pu3]
   refine takeA 15 (v := ?_) rfl ?_ ?_
   rotate_left
   · (intro w hSw; (try dsimp only at hSw); go_simp; try with_reducible rfl)
   try simp only [Act.put, pu1, pu2, pu3]
   refine takeA 16 (v := ?_) rfl ?_ ?_
   rotate_left
   · (intro w hSw; (try dsimp only at hSw); go_simp; try with_reducible rfl)
   try simp only [Act.put, pu1, pu2, pu3]
   refine wpAnyH_done (by kernel_rfl) ?_ _

   clear hI hZ
   have tc := kc5 HBt; have ec := kc6 HBe; have fc := kc3 HBf; have pc := kc6 HBp; have gc := kc3 HBg; have rc := kc6 HBr; have yc := kc6 HBy; have sc := kc6 HBs; have qc := kc6 HBq
   have hI := chain10 w.heap.size w3.heap.size (w3.heap.size + 1) w5.heap.size (w5.heap.size + 1) w7.heap.size (w7.heap.size + 1) w9.heap.size (w9.heap.size + 1) wx22.heap.size
   go_wp2_with (fail)
   clear tc ec fc pc gc rc yc sc qc
   refine (sameE_self x _ (memW_nw HMx.out) (memW_nw HMy.out)).mono ?_
   rintro _ w23 ⟨rfl, hb⟩
   replace HBt := kB HBt hb
   replace HBe := kB HBe hb
   replace HBf := kB HBf hb
   replace HBp := kB HBp hb
   replace HBg := kB HBg hb
   replace HBr := kB HBr hb
   replace HBy := kB HBy hb
   replace HBs := kB HBs hb
   replace HBq := kB HBq hb
   replace HMx := kM HMx hb
   replace HMy := kM HMy hb
   replace HF := kF HF hb
   have hs23 := hb.size
   clear hb
   clear hI
   have tc := kc5 HBt; have ec := kc6 HBe; have fc := kc3 HBf; have pc := kc6 HBp; have gc := kc3 HBg; have rc := kc6 HBr; have yc := kc6 HBy; have sc := kc6 HBs; have qc := kc6 HBq
   have hI := chain10 w.heap.size w3.heap.size (w3.heap.size + 1) w5.heap.size (w5.heap.size + 1) w7.heap.size (w7.heap.size + 1) w9.heap.size (w9.heap.size + 1) w23.heap.size
   go_wp2_with (fail)
   clear tc ec fc pc gc rc yc sc qc
   go_ret
   exact ⟨rfl, refBelow HF.out⟩
 | bad l_ c_ =>
  cases rp with
  | ok p u =>
   clear tc
   refine (of_any (F := 8 * (ts.length - m0) + 7) (r := .bad l_ c_) _ (refTok HF.out H.out) (by omega) (by rw [hit]; exact HRE.out)).mono ?_
   rintro _ w3 ⟨rfl, hb⟩
   replace HBt := kB HBt hb
   replace HF := kF HF hb
   have hs3 := hb.size
   clear hb
   clear hI
   have tc := kc5 HBt
   have hI := i0_0 w w3
   go_upto_region 6 with (fail)
   clear tc
   generalize ee : World.alloc w3 _ = w4_1
   have hq1 := sizeA ee
   replace HF := fA HF ee
   replace HBt := bA HBt ee
   have HBe := nB ee (w3.heap.size)
   clear ee
   generalize ee : World.alloc w4_1 _ = w4
   have hq2 := sizeA ee
   replace HF := fA HF ee
   replace HBt := bA HBt ee
   replace HBe := bA HBe ee
   have HBf := nB ee (w3.heap.size + 1)
   clear ee
   have hsa4 : w4.heap.size = w3.heap.size + 2 := by omega
   clear hq1 hq2
   clear hI
   have tc := kc5 HBt; have ec := kc6 HBe; have fc := kc3 HBf
   have hI := chain4 w.heap.size w3.heap.size (w3.heap.size + 1) w4.heap.size
   have hZ := chain4 w.heap.size w3.heap.size (w3.heap.size + 1) (w3.heap.size + 2)
   go_wp2_with (fail)
   clear tc ec fc
   refine (pat_any (F := 8 * (ts.length - m0) + 7) (r := .ok p u) _ (refTok HF.out H.out) (by omega) (by rw [hit]; exact HRP.out)).mono ?_
   rintro _ w5 ⟨ap, mp, cp, rfl, hb, hm⟩
   replace HBt := kB HBt hb
   replace HBe := kB HBe hb
   replace HBf := kB HBf hb
   replace HF := kF HF hb
   have hs5 := hb.size
   clear hb
   have HMp := Lib.hid hm
   clear hm
   simp only [exV]
   clear hI hZ
   have tc := kc5 HBt; have ec := kc6 HBe; have fc := kc3 HBf
   have hI := chain4 w.heap.size w3.heap.size (w3.heap.size + 1) w5.heap.size
   go_upto_region 7 with (fail)
   clear tc ec fc
   generalize ee : World.alloc w5 _ = w6_1
   have hq1 := sizeA ee
   replace HF := fA HF ee
   replace HBt := bA HBt ee
   replace HBe := bA HBe ee
   replace HBf := bA HBf ee
   replace HMp := mA HMp ee
   have HBp := nB ee (w5.heap.size)
   clear ee
   generalize ee : World.alloc w6_1 _ = w6
   have hq2 := sizeA ee
   replace HF := fA HF ee
   replace HBt := bA HBt ee
   replace HBe := bA HBe ee
   replace HBf := bA HBf ee
   replace HBp := bA HBp ee
   replace HMp := mA HMp ee
   have HBg := nB ee (w5.heap.size + 1)
   clear ee
   have hsa6 : w6.heap.size = w5.heap.size + 2 := by omega
   clear hq1 hq2
   clear hI
   have tc := kc5 HBt; have ec := kc6 HBe; have fc := kc3 HBf; have pc := kc6 HBp; have gc := kc3 HBg
   have hI := chain6 w.heap.size w3.heap.size (w3.heap.size + 1) w5.heap.size (w5.heap.size + 1) w6.heap.size
   have hZ := chain6 w.heap.size w3.heap.size (w3.heap.size + 1) w5.heap.size (w5.heap.size + 1) (w5.heap.size + 2)
   go_wp2_with (fail)
   clear tc ec fc pc gc
   refine (allRX_ex (r := .bad l_ c_) _ (refTok HF.out H.out) (by omega) HRE.out).mono ?_
   rintro _ w7 ⟨iy, dy, ky, zy, ny, ay, my, vy, yy, wy, rfl, hb⟩
   replace HBt := kB HBt hb
   replace HBe := kB HBe hb
   replace HBf := kB HBf hb
   replace HBp := kB HBp hb
   replace HBg := kB HBg hb
   replace HMp := kM HMp hb
   replace HF := kF HF hb
   have hs7 := hb.size
   clear hb
   simp only [rdV]
   clear hI hZ
   have tc := kc5 HBt; have ec := kc6 HBe; have fc := kc3 HBf; have pc := kc6 HBp; have gc := kc3 HBg
   have hI := chain6 w.heap.size w3.heap.size (w3.heap.size + 1) w5.heap.size (w5.heap.size + 1) w7.heap.size
   go_upto_region 8 with (fail)
   clear tc ec fc pc gc
   generalize ee : World.alloc w7 _ = w8_1
   have hq1 := sizeA ee
   replace HF := fA HF ee
   replace HBt := bA HBt ee
   replace HBe := bA HBe ee
   replace HBf := bA HBf ee
   replace HBp := bA HBp ee
   replace HBg := bA HBg ee
   replace HMp := mA HMp ee
   have HBr := nB ee (w7.heap.size)
   clear ee
   generalize ee : World.alloc w8_1 _ = w8
   have hq2 := sizeA ee
   replace HF := fA HF ee
   replace HBt := bA HBt ee
   replace HBe := bA HBe ee
   replace HBf := bA HBf ee
   replace HBp := bA HBp ee
   replace HBg := bA HBg ee
   replace HBr := bA HBr ee
   replace HMp := mA HMp ee
   have HBy := nB ee (w7.heap.size + 1)
   clear ee
   have hsa8 : w8.heap.size = w7.heap.size + 2 := by omega
   clear hq1 hq2
   clear hI
   have tc := kc5 HBt; have ec := kc6 HBe; have fc := kc3 HBf; have pc := kc6 HBp; have gc := kc3 HBg; have rc := kc6 HBr; have yc := kc6 HBy
   have hI := chain8 w.heap.size w3.heap.size (w3.heap.size + 1) w5.heap.size (w5.heap.size + 1) w7.heap.size (w7.heap.size + 1) w8.heap.size
   have hZ := chain8 w.heap.size w3.heap.size (w3.heap.size + 1) w5.heap.size (w5.heap.size + 1) w7.heap.size (w7.heap.size + 1) (w7.heap.size + 2)
   go_wp2_with (fail)
   clear tc ec fc pc gc rc yc
   refine (allRX_pa (r := .ok p u) _ (refTok HF.out H.out) (by omega) HRP.out).mono ?_
   rintro _ w9 ⟨aq, mq, cq, rfl, hb, hm⟩
   replace HBt := kB HBt hb
   replace HBe := kB HBe hb
   replace HBf := kB HBf hb
   replace HBp := kB HBp hb
   replace HBg := kB HBg hb
   replace HBr := kB HBr hb
   replace HBy := kB HBy hb
   replace HMp := kM HMp hb
   replace HF := kF HF hb
   have hs9 := hb.size
   clear hb
   have HMq := Lib.hid hm
   clear hm
   simp only [rdV, exV]
   clear hI hZ
   have tc := kc5 HBt; have ec := kc6 HBe; have fc := kc3 HBf; have pc := kc6 HBp; have gc := kc3 HBg; have rc := kc6 HBr; have yc := kc6 HBy
   have hI := chain8 w.heap.size w3.heap.size (w3.heap.size + 1) w5.heap.size (w5.heap.size + 1) w7.heap.size (w7.heap.size + 1) w9.heap.size
   go_upto_region 9 with (fail)
   clear tc ec fc pc gc rc yc
   generalize ee : World.alloc w9 _ = w10_1
   have hq1 := sizeA ee
   replace HF := fA HF ee
   replace HBt := bA HBt ee
   replace HBe := bA HBe ee
   replace HBf := bA HBf ee
   replace HBp := bA HBp ee
   replace HBg := bA HBg ee
   replace HBr := bA HBr ee
   replace HBy := bA HBy ee
   replace HMp := mA HMp ee
   replace HMq := mA HMq ee
   have HBs := nB ee (w9.heap.size)
   clear ee
   generalize ee : World.alloc w10_1 _ = w10
   have hq2 := sizeA ee
   replace HF := fA HF ee
   replace HBt := bA HBt ee
   replace HBe := bA HBe ee
   replace HBf := bA HBf ee
   replace HBp := bA HBp ee
   replace HBg := bA HBg ee
   replace HBr := bA HBr ee
   replace HBy := bA HBy ee
   replace HBs := bA HBs ee
   replace HMp := mA HMp ee
   replace HMq := mA HMq ee
   have HBq := nB ee (w9.heap.size + 1)
   clear ee
   have hsa10 : w10.heap.size = w9.heap.size + 2 := by omega
   clear hq1 hq2
   clear hI
   have tc := kc5 HBt; have ec := kc6 HBe; have fc := kc3 HBf; have pc := kc6 HBp; have gc := kc3 HBg; have rc := kc6 HBr; have yc := kc6 HBy; have sc := kc6 HBs; have qc := kc6 HBq
   have hI := chain10 w.heap.size w3.heap.size (w3.heap.size + 1) w5.heap.size (w5.heap.size + 1) w7.heap.size (w7.heap.size + 1) w9.heap.size (w9.heap.size + 1) w10.heap.size
   have hZ := chain10 w.heap.size w3.heap.size (w3.heap.size + 1) w5.heap.size (w5.heap.size + 1) w7.heap.size (w7.heap.size + 1) w9.heap.size (w9.heap.size + 1) (w9.heap.size + 2)
   go_wp2_with (fail)
   refine (binds_any op _).mono ?_
   rintro _ _ ⟨rfl, rfl⟩
   generalize hbo : bindsE op = bk
   obtain ⟨bb, hbb⟩ : ∃ bb, decide (0 < bk) = bb := ⟨_, rfl⟩
   rw [hbb]
   go_upto_region 10 with (fail)
   refine wp_region_held_drew (S := fun w' => Far (fun _ => False) (w10) w') (by kernel_rfl) (Far.of (below_drew _)) (fun hS20 => ?_)
   refine takeA 0 (v := ?_) rfl ?_ ?_
   rotate_left
   · (intro w hSw; (try dsimp only at hSw); replace tc := Far.c5z tc hSw (fun e => e); go_simp; try with_reducible rfl)
   try simp only [Act.put, pu1, pu2, pu3]
   refine takeA 2 (v := ?_) rfl ?_ ?_
   rotate_left
   · (intro w hSw; (try dsimp only at hSw); replace tc := Far.c5z tc hSw (fun e => e); go_simp; try with_reducible rfl)
   try simp only [Act.put, pu1, pu2, pu3]
   refine callA 1 rfl fun K hK => ?_
   go_simp
   refine (starts_any t _).mono ?_
   rintro e wx21 ⟨rfl, hb⟩
   clear tc ec fc pc gc rc yc sc qc
   have hbk := hb
   replace hb := Below.one hb
   replace HBt := kB HBt hb
   replace HBe := kB HBe hb
   replace HBf := kB HBf hb
   replace HBp := kB HBp hb
   replace HBg := kB HBg hb
   replace HBr := kB HBr hb
   replace HBy := kB HBy hb
   replace HBs := kB HBs hb
   replace HBq := kB HBq hb
   replace HMp := kM HMp hb
   replace HMq := kM HMq hb
   replace HF := kF HF hb
   have hs21 := hb.size
   clear hb
   go_simp
   refine hK.out _ _ ?_ (fun hS21 => ?_)
   · exact Far.trans hS20 (Far.of hbk)
   clear hK K
   refine callA 3 rfl fun K hK => ?_
   go_simp
   refine (rstarts_any t _).mono ?_
   rintro e wx22 ⟨rfl, hb⟩
   have hbk2 := hb
   replace HBt := kB HBt hb
   replace HBe := kB HBe hb
   replace HBf := kB HBf hb
   replace HBp := kB HBp hb
   replace HBg := kB HBg hb
   replace HBr := kB HBr hb
   replace HBy := kB HBy hb
   replace HBs := kB HBs hb
   replace HBq := kB HBq hb
   replace HMp := kM HMp hb
   replace HMq := kM HMq hb
   replace HF := kF HF hb
   have hs22 := hb.size
   clear hb
   go_simp
   refine hK.out _ _ ?_ (fun hS22 => ?_)
   · exact Far.trans hS21 (Far.of hbk2)
   clear hK K
   refine takeA 4 (v := ?_) rfl ?_ ?_
   rotate_left
   · (intro w hSw; (try dsimp only at hSw); go_simp; try with_reducible rfl)
   try simp only [Act.put, pu1, pu2, pu3]
   refine takeA 5 (v := ?_) rfl ?_ ?_
   rotate_left
   · (intro w hSw; (try dsimp only at hSw); go_simp; try with_reducible rfl)
   try simp only [Act.put, pu1, pu2, pu3]
   refine takeA 6 (v := ?_) rfl ?_ ?_
   rotate_left
   · (intro w hSw; (try dsimp only at hSw); go_simp; try with_reducible rfl)
   try simp only [Act.put, pu1, pu2, pu3]
   refine takeA 7 (v := ?_) rfl ?_ ?_
   rotate_left
   · (intro w hSw; (try dsimp only at hSw); go_simp; try with_reducible rfl)
   try simp only [Act.put, pu1, pu2, pu3]
   refine callA 8 rfl fun K hK => ?_
   go_simp
   refine (rbinds_any op _).mono ?_
   rintro e wx23 ⟨rfl, rfl⟩
   rw [hbo]
   go_simp
   refine hK.out _ _ ?_ (fun hS23 => ?_)
   · exact Far.trans hS22 (Far.refl _ _)
   clear hK K
   refine takeA 9 (v := ?_) rfl ?_ ?_
   rotate_left
   · (intro w hSw; (try dsimp only at hSw); go_simp; try with_reducible rfl)
   try simp only [Act.put, pu1, pu2, pu3]
   refine takeA 10 (v := ?_) rfl ?_ ?_
   rotate_left
   · (intro w hSw; (try dsimp only at hSw); go_simp; try with_reducible rfl)
   try simp only [Act.put, pu1, pu2, pu3]
   refine takeA 11 (v := ?_) rfl ?_ ?_
   rotate_left
   · (intro w hSw; (try dsimp only at hSw); go_simp; try with_reducible rfl)
   try simp only [Act.put, pu1, pu2, pu3]
   refine takeA 12 (v := ?_) rfl ?_ ?_
   rotate_left
   · (intro w hSw; (try dsimp only at hSw); go_simp; try with_reducible rfl)
   try simp only [Act.put, pu1, pu2, pu3]
   refine takeA 13 (v := ?_) rfl ?_ ?_
   rotate_left
   · (intro w hSw; (try dsimp only at hSw); go_simp; try with_reducible rfl)
   try simp only [Act.put, pu1, pu2, pu3]
   refine takeA 14 (v := ?_) rfl ?_ ?_
   rotate_left
   · (intro w hSw; (try dsimp only at hSw); go_simp; try with_reducible rfl)
   try simp only [Act.put, pu1, pu2, pu3]
   refine takeA 15 (v := ?_) rfl ?_ ?_
   rotate_left
   · (intro w hSw; (try dsimp only at hSw); go_simp; try with_reducible rfl)
   try simp only [Act.put, pu1, pu2, pu3]
   refine takeA 16 (v := ?_) rfl ?_ ?_
   rotate_left
   · (intro w hSw; (try dsimp only at hSw); go_simp; try with_reducible rfl)
   try simp only [Act.put, pu1, pu2, pu3]
   refine wpAnyH_done (by kernel_rfl) ?_ _

   clear hI hZ
   have tc := kc5 HBt; have ec := kc6 HBe; have fc := kc3 HBf; have pc := kc6 HBp; have gc := kc3 HBg; have rc := kc6 HBr; have yc := kc6 HBy; have sc := kc6 HBs; have qc := kc6 HBq
   have hI := chain10 w.heap.size w3.heap.size (w3.heap.size + 1) w5.heap.size (w5.heap.size + 1) w7.heap.size (w7.heap.size + 1) w9.heap.size (w9.heap.size + 1) wx22.heap.size
   go_wp2_with (fail)
   clear tc ec fc pc gc rc yc sc qc
   refine (sameE_self p _ (memW_nw HMp.out) (memW_nw HMq.out)).mono ?_
   rintro _ w23 ⟨rfl, hb⟩
   replace HBt := kB HBt hb
   replace HBe := kB HBe hb
   replace HBf := kB HBf hb
   replace HBp := kB HBp hb
   replace HBg := kB HBg hb
   replace HBr := kB HBr hb
   replace HBy := kB HBy hb
   replace HBs := kB HBs hb
   replace HBq := kB HBq hb
   replace HMp := kM HMp hb
   replace HMq := kM HMq hb
   replace HF := kF HF hb
   have hs23 := hb.size
   clear hb
   clear hI
   have tc := kc5 HBt; have ec := kc6 HBe; have fc := kc3 HBf; have pc := kc6 HBp; have gc := kc3 HBg; have rc := kc6 HBr; have yc := kc6 HBy; have sc := kc6 HBs; have qc := kc6 HBq
   have hI := chain10 w.heap.size w3.heap.size (w3.heap.size + 1) w5.heap.size (w5.heap.size + 1) w7.heap.size (w7.heap.size + 1) w9.heap.size (w9.heap.size + 1) w23.heap.size
   go_wp2_with (fail)
   clear tc ec fc pc gc rc yc sc qc
   go_ret
   exact ⟨rfl, refBelow HF.out⟩
  | bad lp_ cp_ =>
   clear tc
   refine (of_any (F := 8 * (ts.length - m0) + 7) (r := .bad l_ c_) _ (refTok HF.out H.out) (by omega) (by rw [hit]; exact HRE.out)).mono ?_
   rintro _ w3 ⟨rfl, hb⟩
   replace HBt := kB HBt hb
   replace HF := kF HF hb
   have hs3 := hb.size
   clear hb
   clear hI
   have tc := kc5 HBt
   have hI := i0_0 w w3
   go_upto_region 6 with (fail)
   clear tc
   generalize ee : World.alloc w3 _ = w4_1
   have hq1 := sizeA ee
   replace HF := fA HF ee
   replace HBt := bA HBt ee
   have HBe := nB ee (w3.heap.size)
   clear ee
   generalize ee : World.alloc w4_1 _ = w4
   have hq2 := sizeA ee
   replace HF := fA HF ee
   replace HBt := bA HBt ee
   replace HBe := bA HBe ee
   have HBf := nB ee (w3.heap.size + 1)
   clear ee
   have hsa4 : w4.heap.size = w3.heap.size + 2 := by omega
   clear hq1 hq2
   clear hI
   have tc := kc5 HBt; have ec := kc6 HBe; have fc := kc3 HBf
   have hI := chain4 w.heap.size w3.heap.size (w3.heap.size + 1) w4.heap.size
   have hZ := chain4 w.heap.size w3.heap.size (w3.heap.size + 1) (w3.heap.size + 2)
   go_wp2_with (fail)
   clear tc ec fc
   refine (pat_any (F := 8 * (ts.length - m0) + 7) (r := .bad lp_ cp_) _ (refTok HF.out H.out) (by omega) (by rw [hit]; exact HRP.out)).mono ?_
   rintro _ w5 ⟨rfl, hb⟩
   replace HBt := kB HBt hb
   replace HBe := kB HBe hb
   replace HBf := kB HBf hb
   replace HF := kF HF hb
   have hs5 := hb.size
   clear hb
   clear hI hZ
   have tc := kc5 HBt; have ec := kc6 HBe; have fc := kc3 HBf
   have hI := chain4 w.heap.size w3.heap.size (w3.heap.size + 1) w5.heap.size
   go_upto_region 7 with (fail)
   clear tc ec fc
   generalize ee : World.alloc w5 _ = w6_1
   have hq1 := sizeA ee
   replace HF := fA HF ee
   replace HBt := bA HBt ee
   replace HBe := bA HBe ee
   replace HBf := bA HBf ee
   have HBp := nB ee (w5.heap.size)
   clear ee
   generalize ee : World.alloc w6_1 _ = w6
   have hq2 := sizeA ee
   replace HF := fA HF ee
   replace HBt := bA HBt ee
   replace HBe := bA HBe ee
   replace HBf := bA HBf ee
   replace HBp := bA HBp ee
   have HBg := nB ee (w5.heap.size + 1)
   clear ee
   have hsa6 : w6.heap.size = w5.heap.size + 2 := by omega
   clear hq1 hq2
   clear hI
   have tc := kc5 HBt; have ec := kc6 HBe; have fc := kc3 HBf; have pc := kc6 HBp; have gc := kc3 HBg
   have hI := chain6 w.heap.size w3.heap.size (w3.heap.size + 1) w5.heap.size (w5.heap.size + 1) w6.heap.size
   have hZ := chain6 w.heap.size w3.heap.size (w3.heap.size + 1) w5.heap.size (w5.heap.size + 1) (w5.heap.size + 2)
   go_wp2_with (fail)
   clear tc ec fc pc gc
   refine (allRX_ex (r := .bad l_ c_) _ (refTok HF.out H.out) (by omega) HRE.out).mono ?_
   rintro _ w7 ⟨iy, dy, ky, zy, ny, ay, my, vy, yy, wy, rfl, hb⟩
   replace HBt := kB HBt hb
   replace HBe := kB HBe hb
   replace HBf := kB HBf hb
   replace HBp := kB HBp hb
   replace HBg := kB HBg hb
   replace HF := kF HF hb
   have hs7 := hb.size
   clear hb
   simp only [rdV]
   clear hI hZ
   have tc := kc5 HBt; have ec := kc6 HBe; have fc := kc3 HBf; have pc := kc6 HBp; have gc := kc3 HBg
   have hI := chain6 w.heap.size w3.heap.size (w3.heap.size + 1) w5.heap.size (w5.heap.size + 1) w7.heap.size
   go_upto_region 8 with (fail)
   clear tc ec fc pc gc
   generalize ee : World.alloc w7 _ = w8_1
   have hq1 := sizeA ee
   replace HF := fA HF ee
   replace HBt := bA HBt ee
   replace HBe := bA HBe ee
   replace HBf := bA HBf ee
   replace HBp := bA HBp ee
   replace HBg := bA HBg ee
   have HBr := nB ee (w7.heap.size)
   clear ee
   generalize ee : World.alloc w8_1 _ = w8
   have hq2 := sizeA ee
   replace HF := fA HF ee
   replace HBt := bA HBt ee
   replace HBe := bA HBe ee
   replace HBf := bA HBf ee
   replace HBp := bA HBp ee
   replace HBg := bA HBg ee
   replace HBr := bA HBr ee
   have HBy := nB ee (w7.heap.size + 1)
   clear ee
   have hsa8 : w8.heap.size = w7.heap.size + 2 := by omega
   clear hq1 hq2
   clear hI
   have tc := kc5 HBt; have ec := kc6 HBe; have fc := kc3 HBf; have pc := kc6 HBp; have gc := kc3 HBg; have rc := kc6 HBr; have yc := kc6 HBy
   have hI := chain8 w.heap.size w3.heap.size (w3.heap.size + 1) w5.heap.size (w5.heap.size + 1) w7.heap.size (w7.heap.size + 1) w8.heap.size
   have hZ := chain8 w.heap.size w3.heap.size (w3.heap.size + 1) w5.heap.size (w5.heap.size + 1) w7.heap.size (w7.heap.size + 1) (w7.heap.size + 2)
   go_wp2_with (fail)
   clear tc ec fc pc gc rc yc
   refine (allRX_pa (r := .bad lp_ cp_) _ (refTok HF.out H.out) (by omega) HRP.out).mono ?_
   rintro _ w9 ⟨iq, dq, kq, zq, nq, aq, mq, vq, yq, wq, rfl, hb⟩
   replace HBt := kB HBt hb
   replace HBe := kB HBe hb
   replace HBf := kB HBf hb
   replace HBp := kB HBp hb
   replace HBg := kB HBg hb
   replace HBr := kB HBr hb
   replace HBy := kB HBy hb
   replace HF := kF HF hb
   have hs9 := hb.size
   clear hb
   simp only [rdV]
   clear hI hZ
   have tc := kc5 HBt; have ec := kc6 HBe; have fc := kc3 HBf; have pc := kc6 HBp; have gc := kc3 HBg; have rc := kc6 HBr; have yc := kc6 HBy
   have hI := chain8 w.heap.size w3.heap.size (w3.heap.size + 1) w5.heap.size (w5.heap.size + 1) w7.heap.size (w7.heap.size + 1) w9.heap.size
   go_upto_region 9 with (fail)
   clear tc ec fc pc gc rc yc
   generalize ee : World.alloc w9 _ = w10_1
   have hq1 := sizeA ee
   replace HF := fA HF ee
   replace HBt := bA HBt ee
   replace HBe := bA HBe ee
   replace HBf := bA HBf ee
   replace HBp := bA HBp ee
   replace HBg := bA HBg ee
   replace HBr := bA HBr ee
   replace HBy := bA HBy ee
   have HBs := nB ee (w9.heap.size)
   clear ee
   generalize ee : World.alloc w10_1 _ = w10
   have hq2 := sizeA ee
   replace HF := fA HF ee
   replace HBt := bA HBt ee
   replace HBe := bA HBe ee
   replace HBf := bA HBf ee
   replace HBp := bA HBp ee
   replace HBg := bA HBg ee
   replace HBr := bA HBr ee
   replace HBy := bA HBy ee
   replace HBs := bA HBs ee
   have HBq := nB ee (w9.heap.size + 1)
   clear ee
   have hsa10 : w10.heap.size = w9.heap.size + 2 := by omega
   clear hq1 hq2
   clear hI
   have tc := kc5 HBt; have ec := kc6 HBe; have fc := kc3 HBf; have pc := kc6 HBp; have gc := kc3 HBg; have rc := kc6 HBr; have yc := kc6 HBy; have sc := kc6 HBs; have qc := kc6 HBq
   have hI := chain10 w.heap.size w3.heap.size (w3.heap.size + 1) w5.heap.size (w5.heap.size + 1) w7.heap.size (w7.heap.size + 1) w9.heap.size (w9.heap.size + 1) w10.heap.size
   have hZ := chain10 w.heap.size w3.heap.size (w3.heap.size + 1) w5.heap.size (w5.heap.size + 1) w7.heap.size (w7.heap.size + 1) w9.heap.size (w9.heap.size + 1) (w9.heap.size + 2)
   go_wp2_with (fail)
   refine (binds_any op _).mono ?_
   rintro _ _ ⟨rfl, rfl⟩
   generalize hbo : bindsE op = bk
   obtain ⟨bb, hbb⟩ : ∃ bb, decide (0 < bk) = bb := ⟨_, rfl⟩
   rw [hbb]
   go_upto_region 10 with (fail)
   refine wp_region_held_drew (S := fun w' => Far (fun _ => False) (w10) w') (by kernel_rfl) (Far.of (below_drew _)) (fun hS20 => ?_)
   refine takeA 0 (v := ?_) rfl ?_ ?_
   rotate_left
   · (intro w hSw; (try dsimp only at hSw); replace tc := Far.c5z tc hSw (fun e => e); go_simp; try with_reducible rfl)
   try simp only [Act.put, pu1, pu2, pu3]
   refine takeA 2 (v := ?_) rfl ?_ ?_
   rotate_left
   · (intro w hSw; (try dsimp only at hSw); replace tc := Far.c5z tc hSw (fun e => e); go_simp; try with_reducible rfl)
   try simp only [Act.put, pu1, pu2, pu3]
   refine callA 1 rfl fun K hK => ?_
   go_simp
   refine (starts_any t _).mono ?_
   rintro e wx21 ⟨rfl, hb⟩
   clear tc ec fc pc gc rc yc sc qc
   have hbk := hb
   replace hb := Below.one hb
   replace HBt := kB HBt hb
   replace HBe := kB HBe hb
   replace HBf := kB HBf hb
   replace HBp := kB HBp hb
   replace HBg := kB HBg hb
   replace HBr := kB HBr hb
   replace HBy := kB HBy hb
   replace HBs := kB HBs hb
   replace HBq := kB HBq hb
   replace HF := kF HF hb
   have hs21 := hb.size
   clear hb
   go_simp
   refine hK.out _ _ ?_ (fun hS21 => ?_)
   · exact Far.trans hS20 (Far.of hbk)
   clear hK K
   refine callA 3 rfl fun K hK => ?_
   go_simp
   refine (rstarts_any t _).mono ?_
   rintro e wx22 ⟨rfl, hb⟩
   have hbk2 := hb
   replace HBt := kB HBt hb
   replace HBe := kB HBe hb
   replace HBf := kB HBf hb
   replace HBp := kB HBp hb
   replace HBg := kB HBg hb
   replace HBr := kB HBr hb
   replace HBy := kB HBy hb
   replace HBs := kB HBs hb
   replace HBq := kB HBq hb
   replace HF := kF HF hb
   have hs22 := hb.size
   clear hb
   go_simp
   refine hK.out _ _ ?_ (fun hS22 => ?_)
   · exact Far.trans hS21 (Far.of hbk2)
   clear hK K
   refine takeA 4 (v := ?_) rfl ?_ ?_
   rotate_left
   · (intro w hSw; (try dsimp only at hSw); go_simp; try with_reducible rfl)
   try simp only [Act.put, pu1, pu2, pu3]
   refine takeA 5 (v := ?_) rfl ?_ ?_
   rotate_left
   · (intro w hSw; (try dsimp only at hSw); go_simp; try with_reducible rfl)
   try simp only [Act.put, pu1, pu2, pu3]
   refine takeA 6 (v := ?_) rfl ?_ ?_
   rotate_left
   · (intro w hSw; (try dsimp only at hSw); go_simp; try with_reducible rfl)
   try simp only [Act.put, pu1, pu2, pu3]
   refine takeA 7 (v := ?_) rfl ?_ ?_
   rotate_left
   · (intro w hSw; (try dsimp only at hSw); go_simp; try with_reducible rfl)
   try simp only [Act.put, pu1, pu2, pu3]
   refine callA 8 rfl fun K hK => ?_
   go_simp
   refine (rbinds_any op _).mono ?_
   rintro e wx23 ⟨rfl, rfl⟩
   rw [hbo]
   go_simp
   refine hK.out _ _ ?_ (fun hS23 => ?_)
   · exact Far.trans hS22 (Far.refl _ _)
   clear hK K
   refine takeA 9 (v := ?_) rfl ?_ ?_
   rotate_left
   · (intro w hSw; (try dsimp only at hSw); go_simp; try with_reducible rfl)
   try simp only [Act.put, pu1, pu2, pu3]
   refine takeA 10 (v := ?_) rfl ?_ ?_
   rotate_left
   · (intro w hSw; (try dsimp only at hSw); go_simp; try with_reducible rfl)
   try simp only [Act.put, pu1, pu2, pu3]
   refine takeA 11 (v := ?_) rfl ?_ ?_
   rotate_left
   · (intro w hSw; (try dsimp only at hSw); go_simp; try with_reducible rfl)
   try simp only [Act.put, pu1, pu2, pu3]
   refine takeA 12 (v := ?_) rfl ?_ ?_
   rotate_left
   · (intro w hSw; (try dsimp only at hSw); go_simp; try with_reducible rfl)
   try simp only [Act.put, pu1, pu2, pu3]
   refine takeA 13 (v := ?_) rfl ?_ ?_
   rotate_left
   · (intro w hSw; (try dsimp only at hSw); go_simp; try with_reducible rfl)
   try simp only [Act.put, pu1, pu2, pu3]
   refine takeA 14 (v := ?_) rfl ?_ ?_
   rotate_left
   · (intro w hSw; (try dsimp only at hSw); go_simp; try with_reducible rfl)
   try simp only [Act.put, pu1, pu2, pu3]
   refine takeA 15 (v := ?_) rfl ?_ ?_
   rotate_left
   · (intro w hSw; (try dsimp only at hSw); go_simp; try with_reducible rfl)
   try simp only [Act.put, pu1, pu2, pu3]
   refine takeA 16 (v := ?_) rfl ?_ ?_
   rotate_left
   · (intro w hSw; (try dsimp only at hSw); go_simp; try with_reducible rfl)
   try simp only [Act.put, pu1, pu2, pu3]
   refine wpAnyH_done (by kernel_rfl) ?_ _

   clear hI hZ
   have tc := kc5 HBt; have ec := kc6 HBe; have fc := kc3 HBf; have pc := kc6 HBp; have gc := kc3 HBg; have rc := kc6 HBr; have yc := kc6 HBy; have sc := kc6 HBs; have qc := kc6 HBq
   have hI := chain10 w.heap.size w3.heap.size (w3.heap.size + 1) w5.heap.size (w5.heap.size + 1) w7.heap.size (w7.heap.size + 1) w9.heap.size (w9.heap.size + 1) wx22.heap.size
   go_wp2_with (fail)
   clear tc ec fc pc gc rc yc sc qc
   go_ret
   exact ⟨rfl, refBelow HF.out⟩
end Go.Proofs.Ytnmlobakiclgiaa
