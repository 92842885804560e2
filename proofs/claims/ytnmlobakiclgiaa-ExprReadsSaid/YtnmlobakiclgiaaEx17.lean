/-
 The document's reader's atom: an Atom. Under what Expr does with less fuel.
-/
import Derived.Test.YtnmlobakiclgiaaEx16
import Derived.Test.YtnmlobakiclgiaaEx15
namespace Go.Proofs.Ytnmlobakiclgiaa
open Go.RowKit
section
variable {ts : List Tk} {aL : Option Addr} {n cap : Nat}
attribute [local go_sem] tk_pos
theorem plain_kind {t : Tk} {x : Ex} (h : plainE t = some x) : x.kind ≠ 0 := by
 unfold plainE at h
 split at h
 · (cases h; exact (by decide : (1 : Int) ≠ 0))
 ·
  split at h
  · (cases h; exact (by decide : (2 : Int) ≠ 0))
  ·
   split at h
   · (cases h; exact (by decide : (3 : Int) ≠ 0))
   · cases h
theorem memNoneR {base : Nat} {w : World} {x : Ex} (h : x.args = []) : Mem (Nw 0 base w.heap.size) w (.s 6 (Ex.rows x.args)) (.slice none 0 0) := by
 rw [h, Ex.rows_eq]
 exact .e none 0 6 (by decide)
theorem plain_argsR {t : Tk} {x : Ex} (h : plainE t = some x) : x.args = [] := by
 unfold plainE at h
 split at h
 · (cases h; rfl)
 ·
  split at h
  · (cases h; rfl)
  ·
   split at h
   · (cases h; rfl)
   · cases h
theorem downR_bad2 {i deep : Nat} {l c : Int} (w : World) (h : MemW w (.s 5 (tkRows ts)) (.slice aL n cap)) (h40 : deep = 40) :
  Calls Try.prog 31 #[rdV aL n cap (i : Int) (deep : Int) false l c] w fun e w' => e = .returned (rdV aL n cap (i : Int) (deep : Int) true (nowT ts i).l (nowT ts i).c) ∧ Below w.heap.size w w' := by
 subst h40
 exact downR_bad w h
set_option maxRecDepth 100000 in
set_option maxHeartbeats 20000000 in
theorem atomR_succ {f i deep : Nat} {r : Rd1} {a0 b0 : Int} (hr : readE ts (f + 1) .atom i deep = some r) (w : World) (hd : deep ≤ 40) (h : MemW w (.s 5 (tkRows ts)) (.slice aL n cap)) (hn : n ≤ 1048576) (HE : ReadsR ts aL n cap 14 .expr f) :
  Calls Try.prog 67 #[rdV aL n cap (i : Int) (deep : Int) false a0 b0] w (AnsR aL n cap r deep a0 b0 w) := by
 have H := Lib.hid h
 clear h
 rw [readE] at hr
 have HF : Hid (FarB w.heap.size w.heap.size w w) := Lib.hid (FarB.refl _ _ _)
 simp only [rdV]
 go_enter Try.func67, Try.ntmps67
 go_wp2_with (fail)
 generalize ee : World.alloc w _ = w1_1
 have hq1 := sizeA ee
 replace HF := fA HF ee
 have HBr := nB ee (w.heap.size)
 clear ee
 generalize ee : World.alloc w1_1 _ = w1_2
 have hq2 := sizeA ee
 replace HF := fA HF ee
 replace HBr := bA HBr ee
 have HBs := nB ee (w.heap.size + 1)
 clear ee
 generalize ee : World.alloc w1_2 _ = w1
 have hq3 := sizeA ee
 replace HF := fA HF ee
 replace HBr := bA HBr ee
 replace HBs := bA HBs ee
 have HBx := nB ee (w.heap.size + 2)
 clear ee
 have hsa1 : w1.heap.size = w.heap.size + 3 := by omega
 clear hq1 hq2 hq3
 have rc := kc6 HBr; have sc := kc6 HBs; have xc := kc6 HBx
 have hI := i012_0 w w1
 have hZ := i0123 w
 cases hpl : plainE (nowT ts i) with
 | some x =>
  simp only [hpl] at hr
  cases hr
  have ek : (x.kind != 0) = true := by simp [plain_kind hpl]
  clear rc sc xc
  refine (plainR_ok _ (refTok HF.out H.out) hpl).mono ?_
  rintro _ w2 ⟨rfl, hb⟩
  replace HBr := kB HBr hb
  replace HBs := kB HBs hb
  replace HBx := kB HBx hb
  replace HF := kF HF hb
  have hs2 := hb.size
  clear hb
  simp only [rdV, exV]
  clear hI hZ
  have rc := kc6 HBr; have sc := kc6 HBs; have xc := kc6 HBx
  have hI := i012_0 w w2
  go_wp2_with (fail)
  clear rc sc xc
  generalize ee : World.alloc w2 _ = w3_1
  have hq1 := sizeA ee
  replace HF := fA HF ee
  replace HBr := bA HBr ee
  replace HBs := bA HBs ee
  replace HBx := bA HBx ee
  have HBt := nB ee (w2.heap.size)
  clear ee
  generalize ee : World.alloc w3_1 _ = w3
  have hq2 := sizeA ee
  replace HF := fA HF ee
  replace HBr := bA HBr ee
  replace HBs := bA HBs ee
  replace HBx := bA HBx ee
  replace HBt := bA HBt ee
  have HBe := nB ee (w2.heap.size + 1)
  clear ee
  have hsa3 : w3.heap.size = w2.heap.size + 2 := by omega
  clear hq1 hq2
  clear hI
  have rc := kc6 HBr; have sc := kc6 HBs; have xc := kc6 HBx; have tc := kc6 HBt; have ec := kc6 HBe
  have hI := i012_01_0 w w2 w3
  have hZ := i012_012 w w2
  clear rc sc xc tc ec
  clear hI hZ
  clear HBr
  have sc := kc6 HBs; have xc := kc6 HBx; have tc := kc6 HBt; have ec := kc6 HBe
  have hI := i12_01_0 w w2 w3
  have hZ := i12_012 w w2
  refine wp_region_held_drew (S := fun w' => Far (fun b => b = (w.heap.size + 1) ∨ b = (w.heap.size + 2)) (w3) w') (by kernel_rfl) (Far.of (below_drew _)) (fun hS40 => ?_)
  refine takeA 0 (v := ?_) rfl ?_ ?_
  rotate_left
  · (intro w hSw; (try dsimp only at hSw); replace tc := Far.c6z tc hSw; go_simp; try with_reducible rfl)
  try simp only [Act.put, pu1, pu2, pu3]
  refine takeA 1 (v := ?_) rfl ?_ ?_
  rotate_left
  · (intro w hSw; (try dsimp only at hSw); replace ec := Far.c6z ec hSw; go_simp; try with_reducible rfl)
  try simp only [Act.put, pu1, pu2, pu3]

  refine callA 2 rfl fun K hK => ?_
  go_simp
  refine hK.out _ _ ?_ (fun hS41 => ?_)
  · exact (by refine Far.trans ?_ (Far.of (below_drew _)); (iterate 6 (refine Far.setCell (p := ⟨(w.heap.size + 1), _, none⟩) ?_ (.inl rfl) _)); exact Far.refl _ _)
  clear hK K

  clear sc xc tc ec
  generalize ee : ((((((w3.setCell ⟨(w.heap.size + 1), 0, none⟩ (.slice aL n cap)).setCell ⟨(w.heap.size + 1), 1, none⟩ (.int .i64 ((i : Int) + 1))).setCell ⟨(w.heap.size + 1), 2, none⟩ (.int .i64 (deep : Int))).setCell ⟨(w.heap.size + 1), 3, none⟩ (.bool false)).setCell ⟨(w.heap.size + 1), 4, none⟩ (.int .i64 a0)).setCell ⟨(w.heap.size + 1), 5, none⟩ (.int .i64 b0)) = w4_1 at *
  have hq1 := sizeS6 ee
  replace HF := fN6 HF ee
  replace HBs := bS6 HBs ee
  replace HBx := bF6 HBx ee
  replace HBt := bF6 HBt ee
  replace HBe := bF6 HBe ee
  clear ee
  generalize ee : (w4_1.drew) = w4 at *
  have hq2 := sizeD ee
  replace HF := fD HF ee
  replace HBs := bD HBs ee
  replace HBx := bD HBx ee
  replace HBt := bD HBt ee
  replace HBe := bD HBe ee
  clear ee
  have hsa4 : w4.heap.size = w2.heap.size + 2 := by omega
  clear hq1 hq2
  clear hI hZ
  have sc := kc6 HBs; have xc := kc6 HBx; have tc := kc6 HBt; have ec := kc6 HBe
  have hI := i12_01_0 w w2 w4
  have hZ := i12_012 w w2
  refine callA 3 rfl fun K hK => ?_
  go_simp
  refine hK.out _ _ ?_ (fun hS42 => ?_)
  · exact (by (iterate 6 (refine Far.setCell (p := ⟨(w.heap.size + 2), _, none⟩) ?_ (.inr rfl) _)); exact hS41)
  clear hK K
  refine wpAnyH_done (by kernel_rfl) ?_ _

  clear sc xc tc ec
  generalize ee : World.setCell _ ⟨(w.heap.size + 2), 5, none⟩ _ = w5
  have hsz5 := sizeS6 ee
  replace HF := fN6 HF ee
  replace HBs := bF6 HBs ee
  replace HBx := bS6 HBx ee
  replace HBt := bF6 HBt ee
  replace HBe := bF6 HBe ee
  clear ee
  clear hI hZ
  go_wp2_with (fail)
  have z := kc6 HBs; have y := kc6 HBx
  refine bodyPost_ret (v := .tuple #[.agg #[.slice aL n cap, .int .i64 ((i : Int) + 1), .int .i64 (deep : Int), .bool false, .int .i64 a0, .int .i64 b0], .agg #[.int .i64 x.kind, .string x.name, .int .i64 x.n, .slice none 0 0, .int .i64 x.line, .int .i64 x.col]]) (by clear HF H HBs HBx HBt HBe; simp [results, Try.results67, go_sem, z, y]) rfl ?_
  exact ⟨_, _, _, rfl, refBelow HF.out, memNoneR (plain_argsR hpl)⟩
 | none =>
  simp only [hpl] at hr
  clear rc sc xc
  refine (plainR_no _ (refTok HF.out H.out) hpl).mono ?_
  rintro _ w2 ⟨rfl, hb⟩
  replace HBr := kB HBr hb
  replace HBs := kB HBs hb
  replace HBx := kB HBx hb
  replace HF := kF HF hb
  have hs2 := hb.size
  clear hb
  simp only [rdV]
  clear hI hZ
  have rc := kc6 HBr; have sc := kc6 HBs; have xc := kc6 HBx
  have hI := i012_0 w w2
  go_wp2_with (fail)
  clear rc sc xc
  generalize ee : World.alloc w2 _ = w3_1
  have hq1 := sizeA ee
  replace HF := fA HF ee
  replace HBr := bA HBr ee
  replace HBs := bA HBs ee
  replace HBx := bA HBx ee
  have HBt := nB ee (w2.heap.size)
  clear ee
  generalize ee : World.alloc w3_1 _ = w3
  have hq2 := sizeA ee
  replace HF := fA HF ee
  replace HBr := bA HBr ee
  replace HBs := bA HBs ee
  replace HBx := bA HBx ee
  replace HBt := bA HBt ee
  have HBe := nB ee (w2.heap.size + 1)
  clear ee
  have hsa3 : w3.heap.size = w2.heap.size + 2 := by omega
  clear hq1 hq2
  clear hI
  have rc := kc6 HBr; have sc := kc6 HBs; have xc := kc6 HBx; have tc := kc6 HBt; have ec := kc6 HBe
  have hI := i012_01_0 w w2 w3
  have hZ := i012_012 w w2
  rcases hop : isT ts i 6 wOpen
  ·
   simp only [hop, Bool.false_eq_true, if_false] at hr
   cases hr
   clear rc sc xc tc ec
   refine (isR_ok (s := wOpen) _ (refTok HF.out H.out)).mono ?_
   rintro _ w4 ⟨rfl, hb⟩
   replace HBr := kB HBr hb
   replace HBs := kB HBs hb
   replace HBx := kB HBx hb
   replace HBt := kB HBt hb
   replace HBe := kB HBe hb
   replace HF := kF HF hb
   have hs4 := hb.size
   clear hb
   rw [hop]
   clear hI hZ
   have rc := kc6 HBr; have sc := kc6 HBs; have xc := kc6 HBx; have tc := kc6 HBt; have ec := kc6 HBe
   have hI := i012_01_0 w w2 w4
   go_wp2_with (fail)
   refine wp_region_held_drew (S := fun w' => Far (fun b => b = (w.heap.size + 1) ∨ b = (w.heap.size + 2)) (w4) w') (by kernel_rfl) (Far.of (below_drew _)) (fun hS40 => ?_)
   refine takeA 0 (v := ?_) rfl ?_ ?_
   rotate_left
   · (intro w hSw; (try dsimp only at hSw); replace rc := Far.c6z rc hSw; replace ec := Far.c6z ec hSw; go_simp; try with_reducible rfl)
   try simp only [Act.put, pu1, pu2, pu3]
   refine takeA 2 (v := ?_) rfl ?_ ?_
   rotate_left
   · (intro w hSw; (try dsimp only at hSw); replace rc := Far.c6z rc hSw; replace ec := Far.c6z ec hSw; go_simp; try with_reducible rfl)
   try simp only [Act.put, pu1, pu2, pu3]
   refine callA 1 rfl fun K hK => ?_
   go_simp
   refine (failR_ok _ (refTok HF.out.drew H.out)).mono ?_
   rintro e wx41 ⟨rfl, hb⟩
   clear rc sc xc tc ec
   have hbk := hb
   replace hb := Below.one hb
   replace HBr := kB HBr hb
   replace HBs := kB HBs hb
   replace HBx := kB HBx hb
   replace HBt := kB HBt hb
   replace HBe := kB HBe hb
   replace HF := kF HF hb
   have hs41 := hb.size
   clear hb
   simp only [rdV]
   go_simp
   refine hK.out _ _ ?_ (fun hS41 => ?_)
   · exact Far.trans hS40 (Far.of hbk)
   clear hK K

   clear hI
   have rc := kc6 HBr; have sc := kc6 HBs; have xc := kc6 HBx; have tc := kc6 HBt; have ec := kc6 HBe
   have hI := i012_01_0 w w2 wx41
   refine callA 3 rfl fun K hK => ?_
   go_simp
   refine hK.out _ _ ?_ (fun hS42 => ?_)
   · exact (by (iterate 6 (refine Far.setCell (p := ⟨(w.heap.size + 1), _, none⟩) ?_ (.inl rfl) _)); exact hS41)
   clear hK K

   clear rc sc xc tc ec
   generalize ee : ((((((wx41.setCell ⟨(w.heap.size + 1), 0, none⟩ (.slice aL n cap)).setCell ⟨(w.heap.size + 1), 1, none⟩ (.int .i64 (i : Int))).setCell ⟨(w.heap.size + 1), 2, none⟩ (.int .i64 (deep : Int))).setCell ⟨(w.heap.size + 1), 3, none⟩ (.bool true)).setCell ⟨(w.heap.size + 1), 4, none⟩ (.int .i64 (nowT ts i).l)).setCell ⟨(w.heap.size + 1), 5, none⟩ (.int .i64 (nowT ts i).c)) = w42 at *
   have hsz42 := sizeS6 ee
   replace HF := fN6 HF ee
   replace HBr := bF6 HBr ee
   replace HBs := bS6 HBs ee
   replace HBx := bF6 HBx ee
   replace HBt := bF6 HBt ee
   replace HBe := bF6 HBe ee
   clear ee
   clear hI
   have rc := kc6 HBr; have sc := kc6 HBs; have xc := kc6 HBx; have tc := kc6 HBt; have ec := kc6 HBe
   have hI := i012_01_0 w w2 w42
   have hZ := i012_01_0 w w2 wx41
   refine callA 4 rfl fun K hK => ?_
   go_simp
   refine hK.out _ _ ?_ (fun hS43 => ?_)
   · exact (by (iterate 6 (refine Far.setCell (p := ⟨(w.heap.size + 2), _, none⟩) ?_ (.inr rfl) _)); exact hS42)
   clear hK K
   refine wpAnyH_done (by kernel_rfl) ?_ _

   clear rc sc xc tc ec
   generalize ee : World.setCell _ ⟨(w.heap.size + 2), 5, none⟩ _ = w43
   have hsz43 := sizeS6 ee
   replace HF := fN6 HF ee
   replace HBr := bF6 HBr ee
   replace HBs := bF6 HBs ee
   replace HBx := bS6 HBx ee
   replace HBt := bF6 HBt ee
   replace HBe := bF6 HBe ee
   clear ee
   clear hI hZ
   go_wp2_with (fail)
   have z := kc6 HBs; have y := kc6 HBx
   refine bodyPost_ret (v := .tuple #[.agg #[.slice aL n cap, .int .i64 (i : Int), .int .i64 (deep : Int), .bool true, .int .i64 (nowT ts i).l, .int .i64 (nowT ts i).c], .agg #[.int .i64 0, .string ⟨#[]⟩, .int .i64 0, .slice none 0 0, .int .i64 0, .int .i64 0]]) (by clear HF H HBr HBs HBx HBt HBe; simp [results, Try.results67, go_sem, z, y]) rfl ?_
   exact ⟨_, _, _, _, _, _, _, _, _, _, rfl, refBelow HF.out⟩
  simp only [hop, if_true] at hr
  clear rc sc xc tc ec
  clear HBt HBe
  refine (isR_ok (s := wOpen) _ (refTok HF.out H.out)).mono ?_
  rintro _ w4 ⟨rfl, hb⟩
  replace HBr := kB HBr hb
  replace HBs := kB HBs hb
  replace HBx := kB HBx hb
  replace HF := kF HF hb
  have hs4 := hb.size
  clear hb
  rw [hop]
  clear hI hZ
  have rc := kc6 HBr; have sc := kc6 HBs; have xc := kc6 HBx
  have hI := i012_0 w w4
  go_wp2_with (fail)
  by_cases h40 : deep = 40
  ·
   rw [if_pos h40] at hr
   cases hr
   clear rc sc xc
   refine (downR_bad2 _ (refTok HF.out H.out) h40).mono ?_
   rintro _ w5 ⟨rfl, hb⟩
   replace HBr := kB HBr hb
   replace HBs := kB HBs hb
   replace HBx := kB HBx hb
   replace HF := kF HF hb
   have hs5 := hb.size
   clear hb
   clear h40
   simp only [rdV]
   clear hI
   have rc := kc6 HBr; have sc := kc6 HBs; have xc := kc6 HBx
   have hI := i012_0 w w5
   go_wp2_with (fail)
   clear rc sc xc
   refine (exprR_bad _ (refTok HF.out H.out)).mono ?_
   rintro _ w6 ⟨iq, dq, kq, sq, nq, aq, mq, cq, uq, vq, rfl, hb⟩
   replace HBr := kB HBr hb
   replace HBs := kB HBs hb
   replace HBx := kB HBx hb
   replace HF := kF HF hb
   have hs6 := hb.size
   clear hb
   simp only [rdV]
   clear hI
   have rc := kc6 HBr; have sc := kc6 HBs; have xc := kc6 HBx
   have hI := i012_0 w w6
   go_wp2_with (fail)
   clear rc sc xc
   generalize ee : World.alloc w6 _ = w7_1
   have hq1 := sizeA ee
   replace HF := fA HF ee
   replace HBr := bA HBr ee
   replace HBs := bA HBs ee
   replace HBx := bA HBx ee
   have HBu := nB ee (w6.heap.size)
   clear ee
   generalize ee : World.alloc w7_1 _ = w7
   have hq2 := sizeA ee
   replace HF := fA HF ee
   replace HBr := bA HBr ee
   replace HBs := bA HBs ee
   replace HBx := bA HBx ee
   replace HBu := bA HBu ee
   have HBv := nB ee (w6.heap.size + 1)
   clear ee
   have hsa7 : w7.heap.size = w6.heap.size + 2 := by omega
   clear hq1 hq2
   clear hI
   have rc := kc6 HBr; have sc := kc6 HBs; have xc := kc6 HBx; have uc := kc6 HBu; have vc := kc6 HBv
   have hI := i012_01_0 w w6 w7
   have hZ := i012_012 w w6
   clear rc sc xc uc vc
   refine (takeR_bad _ (refTok HF.out H.out)).mono ?_
   rintro _ w8 ⟨rfl, hb⟩
   replace HBr := kB HBr hb
   replace HBs := kB HBs hb
   replace HBx := kB HBx hb
   replace HBu := kB HBu hb
   replace HBv := kB HBv hb
   replace HF := kF HF hb
   have hs8 := hb.size
   clear hb
   simp only [rdV]
   clear hI hZ
   have rc := kc6 HBr; have sc := kc6 HBs; have xc := kc6 HBx; have uc := kc6 HBu; have vc := kc6 HBv
   have hI := i012_01_0 w w6 w8
   go_wp2_with (fail)
   clear rc sc xc uc vc
   generalize ee : World.setCell _ ⟨w6.heap.size, 5, none⟩ _ = w9_1
   have hq1 := sizeS6 ee
   replace HF := fN6 HF ee
   replace HBr := bF6 HBr ee
   replace HBs := bF6 HBs ee
   replace HBx := bF6 HBx ee
   replace HBu := bS6 HBu ee
   replace HBv := bF6 HBv ee
   clear ee
   generalize ee : World.setCell w9_1 _ _ = w9
   have hq2 := sizeS1 ee
   replace HF := fN1 HF ee
   replace HBr := bF1 HBr ee
   replace HBs := bF1 HBs ee
   replace HBx := bF1 HBx ee
   replace HBu : Hid (Bo w9 w6.heap.size 47 #[.slice aL n cap, .int .i64 (iq : Int), .int .i64 (deep : Int), .bool true, .int .i64 (nowT ts i).l, .int .i64 (nowT ts i).c]) := Lib.hid (by rw [← ee]; exact HBu.out.set 2 (.int .i64 (deep : Int)))
   replace HBv := bF1 HBv ee
   clear ee
   have hsz9 : w9.heap.size = w8.heap.size := by omega
   clear hq1 hq2
   clear hI
   have rc := kc6 HBr; have sc := kc6 HBs; have xc := kc6 HBx; have uc := kc6 HBu; have vc := kc6 HBv
   have hI := i012_01_0 w w6 w9
   have hZ := i012_01_0 w w6 w8
   clear rc sc xc uc vc
   clear hI hZ
   clear HBr
   have sc := kc6 HBs; have xc := kc6 HBx; have uc := kc6 HBu; have vc := kc6 HBv
   have hI := i12_01_0 w w6 w9
   have hZ := i12_01_0 w w6 w8
   refine wp_region_held_drew (S := fun w' => Far (fun b => b = (w.heap.size + 1) ∨ b = (w.heap.size + 2)) (w9) w') (by kernel_rfl) (Far.of (below_drew _)) (fun hS40 => ?_)
   refine takeA 0 (v := ?_) rfl ?_ ?_
   rotate_left
   · (intro w hSw; (try dsimp only at hSw); replace uc := Far.c6z uc hSw; go_simp; try with_reducible rfl)
   try simp only [Act.put, pu1, pu2, pu3]
   refine takeA 1 (v := ?_) rfl ?_ ?_
   rotate_left
   · (intro w hSw; (try dsimp only at hSw); replace vc := Far.c6z vc hSw; go_simp; try with_reducible rfl)
   try simp only [Act.put, pu1, pu2, pu3]

   refine callA 2 rfl fun K hK => ?_
   go_simp
   refine hK.out _ _ ?_ (fun hS41 => ?_)
   · exact (by refine Far.trans ?_ (Far.of (below_drew _)); (iterate 6 (refine Far.setCell (p := ⟨(w.heap.size + 1), _, none⟩) ?_ (.inl rfl) _)); exact Far.refl _ _)
   clear hK K

   clear sc xc uc vc
   generalize ee : ((((((w9.setCell ⟨(w.heap.size + 1), 0, none⟩ (.slice aL n cap)).setCell ⟨(w.heap.size + 1), 1, none⟩ (.int .i64 (iq : Int))).setCell ⟨(w.heap.size + 1), 2, none⟩ (.int .i64 (deep : Int))).setCell ⟨(w.heap.size + 1), 3, none⟩ (.bool true)).setCell ⟨(w.heap.size + 1), 4, none⟩ (.int .i64 (nowT ts i).l)).setCell ⟨(w.heap.size + 1), 5, none⟩ (.int .i64 (nowT ts i).c)) = w10_1 at *
   have hq1 := sizeS6 ee
   replace HF := fN6 HF ee
   replace HBs := bS6 HBs ee
   replace HBx := bF6 HBx ee
   replace HBu := bF6 HBu ee
   replace HBv := bF6 HBv ee
   clear ee
   generalize ee : (w10_1.drew) = w10 at *
   have hq2 := sizeD ee
   replace HF := fD HF ee
   replace HBs := bD HBs ee
   replace HBx := bD HBx ee
   replace HBu := bD HBu ee
   replace HBv := bD HBv ee
   clear ee
   have hsa10 : w10.heap.size = w8.heap.size + 0 := by omega
   clear hq1 hq2
   clear hI hZ
   have sc := kc6 HBs; have xc := kc6 HBx; have uc := kc6 HBu; have vc := kc6 HBv
   have hI := i12_01_0 w w6 w10
   have hZ := i12_01_0 w w6 w8
   refine callA 3 rfl fun K hK => ?_
   go_simp
   refine hK.out _ _ ?_ (fun hS42 => ?_)
   · exact (by (iterate 6 (refine Far.setCell (p := ⟨(w.heap.size + 2), _, none⟩) ?_ (.inr rfl) _)); exact hS41)
   clear hK K
   refine wpAnyH_done (by kernel_rfl) ?_ _

   clear sc xc uc vc
   generalize ee : World.setCell _ ⟨(w.heap.size + 2), 5, none⟩ _ = w11
   have hsz11 := sizeS6 ee
   replace HF := fN6 HF ee
   replace HBs := bF6 HBs ee
   replace HBx := bS6 HBx ee
   replace HBu := bF6 HBu ee
   replace HBv := bF6 HBv ee
   clear ee
   clear hI hZ
   go_wp2_with (fail)
   have z := kc6 HBs; have y := kc6 HBx
   refine bodyPost_ret (v := .tuple #[.agg #[.slice aL n cap, .int .i64 (iq : Int), .int .i64 (deep : Int), .bool true, .int .i64 (nowT ts i).l, .int .i64 (nowT ts i).c], .agg #[.int .i64 kq, .string sq, .int .i64 nq, .slice aq mq cq, .int .i64 uq, .int .i64 vq]]) (by clear HF H HBs HBx HBu HBv; simp [results, Try.results67, go_sem, z, y]) rfl ?_
   exact ⟨_, _, _, _, _, _, _, _, _, _, rfl, refBelow HF.out⟩
  rw [if_neg h40] at hr
  have hil : i < ts.length := isT_lt hop (by decide)
  have hd1 : deep + 1 ≤ 40 := by omega
  clear rc sc xc
  refine (downR_ok _ (refTok HF.out H.out) (by omega) hil).mono ?_
  rintro _ w5 ⟨rfl, hb⟩
  replace HBr := kB HBr hb
  replace HBs := kB HBs hb
  replace HBx := kB HBx hb
  replace HF := kF HF hb
  have hs5 := hb.size
  clear hb
  simp only [rdV]
  clear hI
  have rc := kc6 HBr; have sc := kc6 HBs; have xc := kc6 HBx
  have hI := i012_0 w w5
  go_wp2_with (fail)
  rcases hx : readE ts f .expr (i + 1) (deep + 1) with _ | ⟨x, j⟩ | ⟨l_, c_⟩
  · (rw [hx] at hr; cases hr)
  rotate_left
  ·
   rw [hx] at hr
   first | simp only at hr | simp only [andT] at hr
   cases hr
   clear rc sc xc
   refine (HE (i + 1) (deep + 1) _ _ _ _ hd1 (refTok HF.out H.out) hn hx).mono ?_
   rintro _ w6 ⟨iq, dq, kq, sq, nq, aq, mq, cq, uq, vq, rfl, hb⟩
   replace HBr := kB HBr hb
   replace HBs := kB HBs hb
   replace HBx := kB HBx hb
   replace HF := kF HF hb
   have hs6 := hb.size
   clear hb
   simp only [rdV]
   clear hI
   have rc := kc6 HBr; have sc := kc6 HBs; have xc := kc6 HBx
   have hI := i012_0 w w6
   go_wp2_with (fail)
   clear rc sc xc
   generalize ee : World.alloc w6 _ = w7_1
   have hq1 := sizeA ee
   replace HF := fA HF ee
   replace HBr := bA HBr ee
   replace HBs := bA HBs ee
   replace HBx := bA HBx ee
   have HBu := nB ee (w6.heap.size)
   clear ee
   generalize ee : World.alloc w7_1 _ = w7
   have hq2 := sizeA ee
   replace HF := fA HF ee
   replace HBr := bA HBr ee
   replace HBs := bA HBs ee
   replace HBx := bA HBx ee
   replace HBu := bA HBu ee
   have HBv := nB ee (w6.heap.size + 1)
   clear ee
   have hsa7 : w7.heap.size = w6.heap.size + 2 := by omega
   clear hq1 hq2
   clear hI
   have rc := kc6 HBr; have sc := kc6 HBs; have xc := kc6 HBx; have uc := kc6 HBu; have vc := kc6 HBv
   have hI := i012_01_0 w w6 w7
   have hZ := i012_012 w w6
   clear rc sc xc uc vc
   refine (takeR_bad _ (refTok HF.out H.out)).mono ?_
   rintro _ w8 ⟨rfl, hb⟩
   replace HBr := kB HBr hb
   replace HBs := kB HBs hb
   replace HBx := kB HBx hb
   replace HBu := kB HBu hb
   replace HBv := kB HBv hb
   replace HF := kF HF hb
   have hs8 := hb.size
   clear hb
   simp only [rdV]
   clear hI hZ
   have rc := kc6 HBr; have sc := kc6 HBs; have xc := kc6 HBx; have uc := kc6 HBu; have vc := kc6 HBv
   have hI := i012_01_0 w w6 w8
   go_wp2_with (fail)
   clear rc sc xc uc vc
   generalize ee : World.setCell _ ⟨w6.heap.size, 5, none⟩ _ = w9_1
   have hq1 := sizeS6 ee
   replace HF := fN6 HF ee
   replace HBr := bF6 HBr ee
   replace HBs := bF6 HBs ee
   replace HBx := bF6 HBx ee
   replace HBu := bS6 HBu ee
   replace HBv := bF6 HBv ee
   clear ee
   generalize ee : World.setCell w9_1 _ _ = w9
   have hq2 := sizeS1 ee
   replace HF := fN1 HF ee
   replace HBr := bF1 HBr ee
   replace HBs := bF1 HBs ee
   replace HBx := bF1 HBx ee
   replace HBu : Hid (Bo w9 w6.heap.size 47 #[.slice aL n cap, .int .i64 (iq : Int), .int .i64 (deep : Int), .bool true, .int .i64 l_, .int .i64 c_]) := Lib.hid (by rw [← ee]; exact HBu.out.set 2 (.int .i64 (deep : Int)))
   replace HBv := bF1 HBv ee
   clear ee
   have hsz9 : w9.heap.size = w8.heap.size := by omega
   clear hq1 hq2
   clear hI
   have rc := kc6 HBr; have sc := kc6 HBs; have xc := kc6 HBx; have uc := kc6 HBu; have vc := kc6 HBv
   have hI := i012_01_0 w w6 w9
   have hZ := i012_01_0 w w6 w8
   clear rc sc xc uc vc
   clear hI hZ
   clear HBr
   have sc := kc6 HBs; have xc := kc6 HBx; have uc := kc6 HBu; have vc := kc6 HBv
   have hI := i12_01_0 w w6 w9
   have hZ := i12_01_0 w w6 w8
   refine wp_region_held_drew (S := fun w' => Far (fun b => b = (w.heap.size + 1) ∨ b = (w.heap.size + 2)) (w9) w') (by kernel_rfl) (Far.of (below_drew _)) (fun hS40 => ?_)
   refine takeA 0 (v := ?_) rfl ?_ ?_
   rotate_left
   · (intro w hSw; (try dsimp only at hSw); replace uc := Far.c6z uc hSw; go_simp; try with_reducible rfl)
   try simp only [Act.put, pu1, pu2, pu3]
   refine takeA 1 (v := ?_) rfl ?_ ?_
   rotate_left
   · (intro w hSw; (try dsimp only at hSw); replace vc := Far.c6z vc hSw; go_simp; try with_reducible rfl)
   try simp only [Act.put, pu1, pu2, pu3]

   refine callA 2 rfl fun K hK => ?_
   go_simp
   refine hK.out _ _ ?_ (fun hS41 => ?_)
   · exact (by refine Far.trans ?_ (Far.of (below_drew _)); (iterate 6 (refine Far.setCell (p := ⟨(w.heap.size + 1), _, none⟩) ?_ (.inl rfl) _)); exact Far.refl _ _)
   clear hK K

   clear sc xc uc vc
   generalize ee : ((((((w9.setCell ⟨(w.heap.size + 1), 0, none⟩ (.slice aL n cap)).setCell ⟨(w.heap.size + 1), 1, none⟩ (.int .i64 (iq : Int))).setCell ⟨(w.heap.size + 1), 2, none⟩ (.int .i64 (deep : Int))).setCell ⟨(w.heap.size + 1), 3, none⟩ (.bool true)).setCell ⟨(w.heap.size + 1), 4, none⟩ (.int .i64 l_)).setCell ⟨(w.heap.size + 1), 5, none⟩ (.int .i64 c_)) = w10_1 at *
   have hq1 := sizeS6 ee
   replace HF := fN6 HF ee
   replace HBs := bS6 HBs ee
   replace HBx := bF6 HBx ee
   replace HBu := bF6 HBu ee
   replace HBv := bF6 HBv ee
   clear ee
   generalize ee : (w10_1.drew) = w10 at *
   have hq2 := sizeD ee
   replace HF := fD HF ee
   replace HBs := bD HBs ee
   replace HBx := bD HBx ee
   replace HBu := bD HBu ee
   replace HBv := bD HBv ee
   clear ee
   have hsa10 : w10.heap.size = w8.heap.size + 0 := by omega
   clear hq1 hq2
   clear hI hZ
   have sc := kc6 HBs; have xc := kc6 HBx; have uc := kc6 HBu; have vc := kc6 HBv
   have hI := i12_01_0 w w6 w10
   have hZ := i12_01_0 w w6 w8
   refine callA 3 rfl fun K hK => ?_
   go_simp
   refine hK.out _ _ ?_ (fun hS42 => ?_)
   · exact (by (iterate 6 (refine Far.setCell (p := ⟨(w.heap.size + 2), _, none⟩) ?_ (.inr rfl) _)); exact hS41)
   clear hK K
   refine wpAnyH_done (by kernel_rfl) ?_ _

   clear sc xc uc vc
   generalize ee : World.setCell _ ⟨(w.heap.size + 2), 5, none⟩ _ = w11
   have hsz11 := sizeS6 ee
   replace HF := fN6 HF ee
   replace HBs := bF6 HBs ee
   replace HBx := bS6 HBx ee
   replace HBu := bF6 HBu ee
   replace HBv := bF6 HBv ee
   clear ee
   clear hI hZ
   go_wp2_with (fail)
   have z := kc6 HBs; have y := kc6 HBx
   refine bodyPost_ret (v := .tuple #[.agg #[.slice aL n cap, .int .i64 (iq : Int), .int .i64 (deep : Int), .bool true, .int .i64 l_, .int .i64 c_], .agg #[.int .i64 kq, .string sq, .int .i64 nq, .slice aq mq cq, .int .i64 uq, .int .i64 vq]]) (by clear HF H HBs HBx HBu HBv; simp [results, Try.results67, go_sem, z, y]) rfl ?_
   exact ⟨_, _, _, _, _, _, _, _, _, _, rfl, refBelow HF.out⟩
  rw [hx] at hr
  first | simp only at hr | simp only [andT] at hr
  clear rc sc xc
  refine (HE (i + 1) (deep + 1) _ _ _ _ hd1 (refTok HF.out H.out) hn hx).mono ?_
  rintro _ w6 ⟨ax, mx, cx, rfl, hb, hm⟩
  replace HBr := kB HBr hb
  replace HBs := kB HBs hb
  replace HBx := kB HBx hb
  replace HF := kF HF hb
  have hs6 := hb.size
  clear hb
  have HMx := Lib.hid hm
  clear hm
  simp only [rdV, exV]
  clear hI
  have rc := kc6 HBr; have sc := kc6 HBs; have xc := kc6 HBx
  have hI := i012_0 w w6
  go_wp2_with (fail)
  clear rc sc xc
  have HXx := Lib.hid (memX_of (base := w5.heap.size) (g := w6.heap.size) HMx.out (Nat.le_refl _) (by omega))
  clear HMx
  generalize ee : World.alloc w6 _ = w7_1
  have hq1 := sizeA ee
  replace HF := fA HF ee
  replace HBr := bA HBr ee
  replace HBs := bA HBs ee
  replace HBx := bA HBx ee
  replace HXx := xA HXx ee
  have HBu := nB ee (w6.heap.size)
  clear ee
  generalize ee : World.alloc w7_1 _ = w7
  have hq2 := sizeA ee
  replace HF := fA HF ee
  replace HBr := bA HBr ee
  replace HBs := bA HBs ee
  replace HBx := bA HBx ee
  replace HBu := bA HBu ee
  replace HXx := xA HXx ee
  have HBv := nB ee (w6.heap.size + 1)
  clear ee
  have hsa7 : w7.heap.size = w6.heap.size + 2 := by omega
  clear hq1 hq2
  clear hI
  have rc := kc6 HBr; have sc := kc6 HBs; have xc := kc6 HBx; have uc := kc6 HBu; have vc := kc6 HBv
  have hI := i012_01_0 w w6 w7
  have hZ := i012_012 w w6
  rcases hcl : isT ts j 6 wClose
  rotate_left
  ·
   first | simp only [hcl, if_true] at hr | simp only [takeT, hcl, if_true] at hr
   cases hr
   clear rc sc xc uc vc
   refine (takeR_ok _ (refTok HF.out H.out) hcl (by decide)).mono ?_
   rintro _ w8 ⟨rfl, hb⟩
   replace HBr := kB HBr hb
   replace HBs := kB HBs hb
   replace HBx := kB HBx hb
   replace HBu := kB HBu hb
   replace HBv := kB HBv hb
   replace HXx := kX HXx hb
   replace HF := kF HF hb
   have hs8 := hb.size
   clear hb
   simp only [rdV]
   clear hI hZ
   have rc := kc6 HBr; have sc := kc6 HBs; have xc := kc6 HBx; have uc := kc6 HBu; have vc := kc6 HBv
   have hI := i012_01_0 w w6 w8
   go_wp2_with (fail)
   clear rc sc xc uc vc
   generalize ee : World.setCell _ ⟨w6.heap.size, 5, none⟩ _ = w9_1
   have hq1 := sizeS6 ee
   replace HF := fN6 HF ee
   replace HBr := bF6 HBr ee
   replace HBs := bF6 HBs ee
   replace HBx := bF6 HBx ee
   replace HBu := bS6 HBu ee
   replace HBv := bF6 HBv ee
   replace HXx := xS6 HXx ee
   clear ee
   generalize ee : World.setCell w9_1 _ _ = w9
   have hq2 := sizeS1 ee
   replace HF := fN1 HF ee
   replace HBr := bF1 HBr ee
   replace HBs := bF1 HBs ee
   replace HBx := bF1 HBx ee
   replace HBu : Hid (Bo w9 w6.heap.size 47 #[.slice aL n cap, .int .i64 ((j : Int) + 1), .int .i64 (deep : Int), .bool false, .int .i64 a0, .int .i64 b0]) := Lib.hid (by rw [← ee]; exact HBu.out.set 2 (.int .i64 (deep : Int)))
   replace HBv := bF1 HBv ee
   replace HXx := xS1 HXx ee
   clear ee
   have hsz9 : w9.heap.size = w8.heap.size := by omega
   clear hq1 hq2
   clear hI
   have rc := kc6 HBr; have sc := kc6 HBs; have xc := kc6 HBx; have uc := kc6 HBu; have vc := kc6 HBv
   have hI := i012_01_0 w w6 w9
   have hZ := i012_01_0 w w6 w8
   clear rc sc xc uc vc
   clear hI hZ
   clear HBr
   have sc := kc6 HBs; have xc := kc6 HBx; have uc := kc6 HBu; have vc := kc6 HBv
   have hI := i12_01_0 w w6 w9
   have hZ := i12_01_0 w w6 w8
   refine wp_region_held_drew (S := fun w' => Far (fun b => b = (w.heap.size + 1) ∨ b = (w.heap.size + 2)) (w9) w') (by kernel_rfl) (Far.of (below_drew _)) (fun hS40 => ?_)
   refine takeA 0 (v := ?_) rfl ?_ ?_
   rotate_left
   · (intro w hSw; (try dsimp only at hSw); replace uc := Far.c6z uc hSw; go_simp; try with_reducible rfl)
   try simp only [Act.put, pu1, pu2, pu3]
   refine takeA 1 (v := ?_) rfl ?_ ?_
   rotate_left
   · (intro w hSw; (try dsimp only at hSw); replace vc := Far.c6z vc hSw; go_simp; try with_reducible rfl)
   try simp only [Act.put, pu1, pu2, pu3]

   refine callA 2 rfl fun K hK => ?_
   go_simp
   refine hK.out _ _ ?_ (fun hS41 => ?_)
   · exact (by refine Far.trans ?_ (Far.of (below_drew _)); (iterate 6 (refine Far.setCell (p := ⟨(w.heap.size + 1), _, none⟩) ?_ (.inl rfl) _)); exact Far.refl _ _)
   clear hK K

   clear sc xc uc vc
   generalize ee : ((((((w9.setCell ⟨(w.heap.size + 1), 0, none⟩ (.slice aL n cap)).setCell ⟨(w.heap.size + 1), 1, none⟩ (.int .i64 ((j : Int) + 1))).setCell ⟨(w.heap.size + 1), 2, none⟩ (.int .i64 (deep : Int))).setCell ⟨(w.heap.size + 1), 3, none⟩ (.bool false)).setCell ⟨(w.heap.size + 1), 4, none⟩ (.int .i64 a0)).setCell ⟨(w.heap.size + 1), 5, none⟩ (.int .i64 b0)) = w10_1 at *
   have hq1 := sizeS6 ee
   replace HF := fN6 HF ee
   replace HBs := bS6 HBs ee
   replace HBx := bF6 HBx ee
   replace HBu := bF6 HBu ee
   replace HBv := bF6 HBv ee
   replace HXx := xS6 HXx ee
   clear ee
   generalize ee : (w10_1.drew) = w10 at *
   have hq2 := sizeD ee
   replace HF := fD HF ee
   replace HBs := bD HBs ee
   replace HBx := bD HBx ee
   replace HBu := bD HBu ee
   replace HBv := bD HBv ee
   replace HXx := xD HXx ee
   clear ee
   have hsa10 : w10.heap.size = w8.heap.size + 0 := by omega
   clear hq1 hq2
   clear hI hZ
   have sc := kc6 HBs; have xc := kc6 HBx; have uc := kc6 HBu; have vc := kc6 HBv
   have hI := i12_01_0 w w6 w10
   have hZ := i12_01_0 w w6 w8
   refine callA 3 rfl fun K hK => ?_
   go_simp
   refine hK.out _ _ ?_ (fun hS42 => ?_)
   · exact (by (iterate 6 (refine Far.setCell (p := ⟨(w.heap.size + 2), _, none⟩) ?_ (.inr rfl) _)); exact hS41)
   clear hK K
   refine wpAnyH_done (by kernel_rfl) ?_ _

   clear sc xc uc vc
   generalize ee : World.setCell _ ⟨(w.heap.size + 2), 5, none⟩ _ = w11
   have hsz11 := sizeS6 ee
   replace HF := fN6 HF ee
   replace HBs := bF6 HBs ee
   replace HBx := bS6 HBx ee
   replace HBu := bF6 HBu ee
   replace HBv := bF6 HBv ee
   replace HXx := xS6 HXx ee
   clear ee
   clear hI hZ
   go_wp2_with (fail)
   have z := kc6 HBs; have y := kc6 HBx
   refine bodyPost_ret (v := .tuple #[.agg #[.slice aL n cap, .int .i64 ((j : Int) + 1), .int .i64 (deep : Int), .bool false, .int .i64 a0, .int .i64 b0], .agg #[.int .i64 x.kind, .string x.name, .int .i64 x.n, .slice ax mx cx, .int .i64 x.line, .int .i64 x.col]]) (by clear HF H HBs HBx HBu HBv HXx; simp [results, Try.results67, go_sem, z, y]) rfl ?_
   exact ⟨_, _, _, rfl, refBelow HF.out, memNw (memX_nw HXx.out) (by omega)⟩
  first | simp only [hcl, Bool.false_eq_true, if_false] at hr | simp only [takeT, hcl, Bool.false_eq_true, if_false] at hr
  cases hr
  clear rc sc xc uc vc
  refine (takeR_no _ (refTok HF.out H.out) hcl).mono ?_
  rintro _ w8 ⟨rfl, hb⟩
  replace HBr := kB HBr hb
  replace HBs := kB HBs hb
  replace HBx := kB HBx hb
  replace HBu := kB HBu hb
  replace HBv := kB HBv hb
  replace HXx := kX HXx hb
  replace HF := kF HF hb
  have hs8 := hb.size
  clear hb
  simp only [rdV]
  clear hI hZ
  have rc := kc6 HBr; have sc := kc6 HBs; have xc := kc6 HBx; have uc := kc6 HBu; have vc := kc6 HBv
  have hI := i012_01_0 w w6 w8
  go_wp2_with (fail)
  clear rc sc xc uc vc
  generalize ee : World.setCell _ ⟨w6.heap.size, 5, none⟩ _ = w9_1
  have hq1 := sizeS6 ee
  replace HF := fN6 HF ee
  replace HBr := bF6 HBr ee
  replace HBs := bF6 HBs ee
  replace HBx := bF6 HBx ee
  replace HBu := bS6 HBu ee
  replace HBv := bF6 HBv ee
  replace HXx := xS6 HXx ee
  clear ee
  generalize ee : World.setCell w9_1 _ _ = w9
  have hq2 := sizeS1 ee
  replace HF := fN1 HF ee
  replace HBr := bF1 HBr ee
  replace HBs := bF1 HBs ee
  replace HBx := bF1 HBx ee
  replace HBu : Hid (Bo w9 w6.heap.size 47 #[.slice aL n cap, .int .i64 (j : Int), .int .i64 (deep : Int), .bool true, .int .i64 (nowT ts j).l, .int .i64 (nowT ts j).c]) := Lib.hid (by rw [← ee]; exact HBu.out.set 2 (.int .i64 (deep : Int)))
  replace HBv := bF1 HBv ee
  replace HXx := xS1 HXx ee
  clear ee
  have hsz9 : w9.heap.size = w8.heap.size := by omega
  clear hq1 hq2
  clear hI
  have rc := kc6 HBr; have sc := kc6 HBs; have xc := kc6 HBx; have uc := kc6 HBu; have vc := kc6 HBv
  have hI := i012_01_0 w w6 w9
  have hZ := i012_01_0 w w6 w8
  clear rc sc xc uc vc
  clear hI hZ
  clear HBr
  have sc := kc6 HBs; have xc := kc6 HBx; have uc := kc6 HBu; have vc := kc6 HBv
  have hI := i12_01_0 w w6 w9
  have hZ := i12_01_0 w w6 w8
  refine wp_region_held_drew (S := fun w' => Far (fun b => b = (w.heap.size + 1) ∨ b = (w.heap.size + 2)) (w9) w') (by kernel_rfl) (Far.of (below_drew _)) (fun hS40 => ?_)
  refine takeA 0 (v := ?_) rfl ?_ ?_
  rotate_left
  · (intro w hSw; (try dsimp only at hSw); replace uc := Far.c6z uc hSw; go_simp; try with_reducible rfl)
  try simp only [Act.put, pu1, pu2, pu3]
  refine takeA 1 (v := ?_) rfl ?_ ?_
  rotate_left
  · (intro w hSw; (try dsimp only at hSw); replace vc := Far.c6z vc hSw; go_simp; try with_reducible rfl)
  try simp only [Act.put, pu1, pu2, pu3]

  refine callA 2 rfl fun K hK => ?_
  go_simp
  refine hK.out _ _ ?_ (fun hS41 => ?_)
  · exact (by refine Far.trans ?_ (Far.of (below_drew _)); (iterate 6 (refine Far.setCell (p := ⟨(w.heap.size + 1), _, none⟩) ?_ (.inl rfl) _)); exact Far.refl _ _)
  clear hK K

  clear sc xc uc vc
  generalize ee : ((((((w9.setCell ⟨(w.heap.size + 1), 0, none⟩ (.slice aL n cap)).setCell ⟨(w.heap.size + 1), 1, none⟩ (.int .i64 (j : Int))).setCell ⟨(w.heap.size + 1), 2, none⟩ (.int .i64 (deep : Int))).setCell ⟨(w.heap.size + 1), 3, none⟩ (.bool true)).setCell ⟨(w.heap.size + 1), 4, none⟩ (.int .i64 (nowT ts j).l)).setCell ⟨(w.heap.size + 1), 5, none⟩ (.int .i64 (nowT ts j).c)) = w10_1 at *
  have hq1 := sizeS6 ee
  replace HF := fN6 HF ee
  replace HBs := bS6 HBs ee
  replace HBx := bF6 HBx ee
  replace HBu := bF6 HBu ee
  replace HBv := bF6 HBv ee
  replace HXx := xS6 HXx ee
  clear ee
  generalize ee : (w10_1.drew) = w10 at *
  have hq2 := sizeD ee
  replace HF := fD HF ee
  replace HBs := bD HBs ee
  replace HBx := bD HBx ee
  replace HBu := bD HBu ee
  replace HBv := bD HBv ee
  replace HXx := xD HXx ee
  clear ee
  have hsa10 : w10.heap.size = w8.heap.size + 0 := by omega
  clear hq1 hq2
  clear hI hZ
  have sc := kc6 HBs; have xc := kc6 HBx; have uc := kc6 HBu; have vc := kc6 HBv
  have hI := i12_01_0 w w6 w10
  have hZ := i12_01_0 w w6 w8
  refine callA 3 rfl fun K hK => ?_
  go_simp
  refine hK.out _ _ ?_ (fun hS42 => ?_)
  · exact (by (iterate 6 (refine Far.setCell (p := ⟨(w.heap.size + 2), _, none⟩) ?_ (.inr rfl) _)); exact hS41)
  clear hK K
  refine wpAnyH_done (by kernel_rfl) ?_ _

  clear sc xc uc vc
  generalize ee : World.setCell _ ⟨(w.heap.size + 2), 5, none⟩ _ = w11
  have hsz11 := sizeS6 ee
  replace HF := fN6 HF ee
  replace HBs := bF6 HBs ee
  replace HBx := bS6 HBx ee
  replace HBu := bF6 HBu ee
  replace HBv := bF6 HBv ee
  replace HXx := xS6 HXx ee
  clear ee
  clear hI hZ
  go_wp2_with (fail)
  have z := kc6 HBs; have y := kc6 HBx
  refine bodyPost_ret (v := .tuple #[.agg #[.slice aL n cap, .int .i64 (j : Int), .int .i64 (deep : Int), .bool true, .int .i64 (nowT ts j).l, .int .i64 (nowT ts j).c], .agg #[.int .i64 x.kind, .string x.name, .int .i64 x.n, .slice ax mx cx, .int .i64 x.line, .int .i64 x.col]]) (by clear HF H HBs HBx HBu HBv HXx; simp [results, Try.results67, go_sem, z, y]) rfl ?_
  exact ⟨_, _, _, _, _, _, _, _, _, _, rfl, refBelow HF.out⟩
end
end Go.Proofs.Ytnmlobakiclgiaa

/-
  What stands behind the first part of operators, as the document's rank goes over it. Plain lemmas. No condition.
-/
namespace Go.Proofs.Ytnmlobakiclgiaa
open Go.RowKit
def rkN (n : Nat) : Nt := if n = 1 then .or else .left n
def moreR (ts : List Tk) (f n : Nat) (e : Ex) (i deep : Nat) : Option Rd1 :=
  if (nowT ts i).k = 6 ∧ bindsE (nowT ts i).s = n then
    andT (readE ts f (rkN (if n = 1 then 1 else n + 1)) (i + 1) deep) fun y j => if n ≤ 2 then some (.ok (.mk 5 (nowT ts i).s 0 [e, y] (nowT ts i).l (nowT ts i).c) j) else readE ts f (.more n (.mk 5 (nowT ts i).s 0 [e, y] (nowT ts i).l (nowT ts i).c)) j deep
  else some (.ok e i)
theorem binds_or {s : ByteArray} : bindsE s = 1 ↔ s = wOr := by
  unfold bindsE
  constructor
  · intro h
    split at h
    · assumption
    · split at h
      · cases h
      · split at h
        · cases h
        · split at h <;> cases h
  · intro h; rw [if_pos h]
theorem or_more {ts : List Tk} {f i deep : Nat} : readE ts (f + 1) .or i deep = andT (readE ts f (.left 2) i deep) fun x j => moreR ts f 1 x j deep := by
  rw [readE]
  congr 1
  funext x j
  unfold moreR isT
  by_cases h6 : (nowT ts j).k = 6
  · by_cases hs : (nowT ts j).s = wOr
    · simp [h6, hs, binds_or.2 rfl, rkN]
    · have hb : ¬ bindsE (nowT ts j).s = 1 := fun h => hs (binds_or.1 h)
      simp [h6, hs, hb]
  · simp [h6]
theorem left_more {ts : List Tk} {f n i deep : Nat} {e : Ex} (h : 2 ≤ n) : readE ts (f + 1) (.more n e) i deep = moreR ts f n e i deep := by
  rw [readE]
  unfold moreR
  have h1 : ¬ n = 1 := by omega
  have h2 : (n ≤ 2) = (n = 2) := by rw [eq_iff_iff]; omega
  have h3 : ¬ n + 1 = 1 := by omega
  simp only [h1, if_false, h2, rkN, h3]
end Go.Proofs.Ytnmlobakiclgiaa

/-
  More on own rows whose elements lie in given blocks. Plain lemmas. No condition.
-/
namespace Go.Proofs.Ytnmlobakiclgiaa
open Go.RowKit
section
variable {A A' : Nat → Prop} {base sz : Nat} {e : TypeId} {w w' : World} {y : Value} {rs : List (List At)}
theorem OwnS.nil (A : Nat → Prop) (base : Nat) (e : TypeId) (sz : Nat) (w : World) : OwnS A base e sz w (.slice none 0 0) [] := ⟨[], World.ownsRow_nil w base e sz, .nil⟩
theorem OwnS.conv (h : OwnS A base e sz w y rs) (hA : ∀ b, A b → b < w.heap.size → A' b) : OwnS A' base e sz w y rs := by
  obtain ⟨css, h1, h2⟩ := h
  exact ⟨css, h1, h2.imp fun r cs ⟨hc, hm⟩ => ⟨hc, hm.imp fun x y' hx => hx.mono (fun b hb => ⟨⟨hA b hb.1.1 hb.1.2, hb.1.2⟩, hb.2⟩) fun _ _ => rfl⟩⟩
theorem OwnS.sameO (h : OwnS A base e sz w y rs) (hA : ∀ k, y.ownBlock = some k → A k) : Mem (NwS A w.heap.size) w (.s sz rs) y := by
  obtain ⟨css, h1, h2⟩ := h
  have hlen := h2.len
  have hcs : ∀ cs ∈ css, cs.length = sz := fun cs hcs => by
    obtain ⟨i, hi, rfl⟩ := List.getElem_of_mem hcs
    exact (h2.at i (by omega) hi).1
  rcases h1.2 with ⟨rfl, hn⟩ | ⟨g, cap, cur, rfl, hb, hgg, hncap, hcap, hsz, htake⟩
  · have : rs = [] := List.eq_nil_of_length_eq_zero hn
    subst this
    exact .e none 0 sz (by decide)
  · refine .s g 0 rs.length cap sz rs (fun i j => css.flatten.getD (i * sz + j) undef) rfl hncap (by simpa [maxLen] using hcap) ⟨hA g rfl, (Array.getElem?_eq_some_iff.1 hgg).1⟩ (fun i hi => ?_) (fun i j hi hj => ?_) (fun i j hi hj => ?_)
    · have hi' : i < css.length := by omega
      obtain ⟨e1, e2⟩ := h2.at i hi hi'
      rw [e2.len, e1]
    · have hi' : i < css.length := by omega
      obtain ⟨e1, e2⟩ := h2.at i hi hi'
      have hf := flat_at sz css hcs i j hi' (by omega)
      have := h1.cells (g := g) rfl (i * sz + j) _ hf
      have hadd : (⟨g, 0, none⟩ : Addr).add (i * sz + j) = ⟨g, i * sz + j, none⟩ := by unfold Addr.add; split <;> simp_all
      rw [hadd] at this
      rw [Nat.zero_add, this, List.getD_eq_getElem?_getD, hf]; rfl
    · have hi' : i < css.length := by omega
      obtain ⟨e1, e2⟩ := h2.at i hi hi'
      have hf := flat_at sz css hcs i j hi' (by have := e2.len; omega)
      rw [List.getD_eq_getElem?_getD, hf]
      exact (e2.at j hj (by have := e2.len; omega)).mono (fun b hb => hb.1) fun _ _ => rfl
end
theorem OwnS.ofBo {A : Nat → Prop} {base q : Nat} {w : World} (k : Int) (s : ByteArray) (nn : Int) (sa : Option Addr) (sm sc : Nat) (u v : Int) (h : Bo w q 27 #[.int .i64 k, .string s, .int .i64 nn, .slice sa sm sc, .int .i64 u, .int .i64 v]) (hb : base ≤ q) :
    OwnS A base 27 6 w (.slice (some ⟨q, 0, none⟩) 1 1) [rawRow k s nn sa sm sc u v] :=
  ⟨[[.int .i64 k, .string s, .int .i64 nn, .slice sa sm sc, .int .i64 u, .int .i64 v]], ⟨rfl, .inr ⟨q, 1, _, rfl, hb, h, Nat.le_refl _, by decide, rfl, rfl⟩⟩, .cons ⟨rfl, raw_all k s nn sa sm sc u v⟩ .nil⟩
theorem newRowS2 {A A' : Nat → Prop} {w : World} {y : Value} {x : Ex} {a : Option Addr} {m c : Nat} (hA : ∀ b, A' b → A b) (hA2 : A w.heap.size) (hy : ∀ k, y.ownBlock = some k → ¬ A' k ∧ k < w.heap.size) (hm : Mem (NwS A' w.heap.size) w (.s 6 (Ex.rows x.args)) (.slice a m c)) {g : Nat} (hg : w.heap.size = g) :
    Mem (fun b => NwS A (w.alloc (.cells #[.int .i64 x.kind, .string x.name, .int .i64 x.n, .slice a m c, .int .i64 x.line, .int .i64 x.col] 27)).heap.size b ∧ y.ownBlock ≠ some b) (w.alloc (.cells #[.int .i64 x.kind, .string x.name, .int .i64 x.n, .slice a m c, .int .i64 x.line, .int .i64 x.col] 27)) (.s 6 (Ex.rows [x])) (.slice (some ⟨g, 0, none⟩) 1 1) := by
  subst hg
  refine (builtS1 (base := w.heap.size) hm (Nat.le_refl _)).mem.mono (fun b hb => ?_) fun _ _ => rfl
  have h1 : A' b ∨ w.heap.size ≤ b := hb.1
  have h2 := hb.2
  rw [World.size_alloc] at h2
  rcases h1 with h1 | h1
  · exact ⟨⟨hA b h1, hb.2⟩, fun e => (hy b e).1 h1⟩
  · obtain rfl : b = w.heap.size := by omega
    exact ⟨⟨hA2, hb.2⟩, fun e => by have := (hy _ e).2; omega⟩
section
variable {P : Program} {w : World} {t e : TypeId} {z : Value} {sz bytes : Nat}
theorem wpList_append_S2 {ops : Array Oper} {rest : List Oper} {o : Oper} {act : Act} {Q : Exit → Act → World → Prop} (hgd : o.guard = none) (s x : Operand) {A : Nat → Prop} {base : Nat}
    (ho : o.op = .call { callee := .builtin .append, args := #[s, x], argTypes := #[t, t] }) (ht : P.underlying t = some (.slice e)) (hinfo : (P.info? e).map (fun i => (i.zero, i.size, i.bytes)) = some (some z, sz, bytes)) (hz : z.cells.size = sz) (hsz : 0 < sz)
    {y : Value} {rs new : List (List At)} {a : Option Addr} {m c : Nat} (hs : act.eval s = y) (hx : act.eval x = .slice a m c) (h : OwnS A base e sz w y rs) (hnew : new ≠ []) (hM : Mem (fun b => NwS A w.heap.size b ∧ y.ownBlock ≠ some b) w (.s sz new) (.slice a m c)) (hby : (rs.length + new.length) * bytes ≤ 140737488355328) (hbl : rs.length + new.length ≤ 4611686018427387904) (hbase : base ≤ w.heap.size)
    (hK : ∀ v' w', OwnS A base e sz w' v' (rs ++ new) → w.grownBy w' y.ownBlock → (v'.ownBlock = y.ownBlock ∨ ∀ k, v'.ownBlock = some k → w.heap.size ≤ k) → wpList P ops Q rest (act.put o.dst v') w') : wpList P ops Q (o :: rest) act w := by
  obtain ⟨v', w', hr, h2, h3, h4⟩ := run_append_S o.type ht hinfo hz hsz h hnew hM hby hbl hbase
  refine wpList_plain hgd fun _ hK' => ?_
  unfold Oper.wp execOp
  simp only [ho, resolve, invoke, builtin, Sem.run_bind, Sem.run_pure, Result.andThen_ok, List.map_toArray, List.map_cons, List.map_nil, hs, hx, hr]
  exact hK' _ _ (hK v' w' h2 h3 h4)
end
theorem downR_ok2 {ts : List Tk} {aL : Option Addr} {n cap : Nat} {i deep : Nat} {l c : Int} (w : World) (h : MemW w (.s 5 (tkRows ts)) (.slice aL n cap)) (hd : deep < 40) (hi : i < ts.length) :
    Calls Try.prog 31 #[rdV aL n cap (i : Int) (deep : Int) false l c] w fun e w' => e = .returned (rdV aL n cap ((i : Int) + 1) ((deep : Int) + 1) false l c) ∧ Below w.heap.size w w' := downR_ok w h hd hi
end Go.Proofs.Ytnmlobakiclgiaa
