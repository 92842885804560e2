/-
 The document's reader's Pat: a Pat. Under what itself does with less fuel.
-/
import Derived.Test.YtnmlobakiclgiaaEx19
import Derived.Test.YtnmlobakiclgiaaEx17
namespace Go.Proofs.Ytnmlobakiclgiaa
open Go.RowKit
section
variable {ts : List Tk} {aL : Option Addr} {n cap : Nat}
attribute [local go_sem] tk_pos tk_text tk_kind0
def measP (q L : Nat) (v : Value) (w : World) : Nat := if bad4 q w then 0 else L + 2 - lenV v
set_option maxRecDepth 100000 in
set_option maxHeartbeats 20000000 in
theorem patR_succ {f i deep : Nat} {r : Rd1} {a0 b0 : Int} (hr : readE ts (f + 1) .pat i deep = some r) (w : World) (hd : deep ≤ 40) (h : MemW w (.s 5 (tkRows ts)) (.slice aL n cap)) (hn : n ≤ 1048576) (HP : ∀ g, g ≤ f → ReadsR ts aL n cap 15 .pat g) :
  Calls Try.prog 15 #[rdV aL n cap (i : Int) (deep : Int) false a0 b0] w (AnsR aL n cap r deep a0 b0 w) := by
 have H := Lib.hid h
 clear h
 have HQ := Lib.hid HP
 clear HP
 rw [readE] at hr
 have HF : Hid (FarB w.heap.size w.heap.size w w) := Lib.hid (FarB.refl _ _ _)
 simp only [rdV]
 go_enter Try.func15, Try.ntmps15
 go_wp2_with (fail)
 generalize ee : World.alloc w _ = w1_1
 have hq1 := sizeA ee
 replace HF := fA HF ee
 have HBr := nB ee (w.heap.size)
 clear ee
 generalize ee : World.alloc w1_1 _ = w1_2
 have hq2 := sizeA ee
 replace HF := fA HF ee
 replace HBr := bA HBr ee
 have HBs := nB ee (w.heap.size + 1)
 clear ee
 generalize ee : World.alloc w1_2 _ = w1
 have hq3 := sizeA ee
 replace HF := fA HF ee
 replace HBr := bA HBr ee
 replace HBs := bA HBs ee
 have HBx := nB ee (w.heap.size + 2)
 clear ee
 have hsa1 : w1.heap.size = w.heap.size + 3 := by omega
 clear hq1 hq2 hq3
 have rc := kc6 HBr; have sc := kc6 HBs; have xc := kc6 HBx
 have hI := i012_0 w w1
 have hZ := i0123 w
 clear rc sc xc
 refine (nowR_any _ (refTok HF.out H.out)).mono ?_
 rintro _ w2 ⟨rfl, hb⟩
 replace HBr := kB HBr hb
 replace HBs := kB HBs hb
 replace HBx := kB HBx hb
 replace HF := kF HF hb
 have hs2 := hb.size
 clear hb
 simp only [tkV]
 clear hI hZ
 have rc := kc6 HBr; have sc := kc6 HBs; have xc := kc6 HBx
 have hI := i012_0 w w2
 go_wp2_with (fail)
 clear rc sc xc
 generalize ee : World.alloc w2 _ = w3
 have hsa3 := sizeA ee
 replace HF := fA HF ee
 replace HBr := bA HBr ee
 replace HBs := bA HBs ee
 replace HBx := bA HBx ee
 have HBp := nB ee (w2.heap.size)
 clear ee
 clear hI
 have rc := kc6 HBr; have sc := kc6 HBs; have xc := kc6 HBx; have pc := kc2 HBp
 have hI := i012_0_0 w w2 w3
 have hZ := i012_01 w w2
 rcases hwi : isT ts i 6 wWild
 rotate_left
 ·
  simp only [hwi, if_true] at hr
  cases hr
  have hil : i < ts.length := isT_lt hwi (by decide)
  have hoi : (i : Int) + 1 ≤ 9223372036854775807 := by have h1 := H.out.len; rw [tkRows_len] at h1; omega
  clear rc sc xc pc
  refine (isR_ok (s := wWild) _ (refTok HF.out H.out)).mono ?_
  rintro _ w4 ⟨rfl, hb⟩
  replace HBr := kB HBr hb
  replace HBs := kB HBs hb
  replace HBx := kB HBx hb
  replace HBp := kB HBp hb
  replace HF := kF HF hb
  have hs4 := hb.size
  clear hb
  rw [hwi]
  clear hI hZ
  have rc := kc6 HBr; have sc := kc6 HBs; have xc := kc6 HBx; have pc := kc2 HBp
  have hI := i012_0_0 w w2 w4
  go_wp2_with (fail)
  clear rc sc xc pc
  generalize ee : World.setCell w4 _ _ = w5
  have hsz5 := sizeS1 ee
  replace HF := fN1 HF ee
  replace HBr : Hid (Bo w5 w.heap.size 47 #[.slice aL n cap, .int .i64 ((i : Int) + 1), .int .i64 (deep : Int), .bool false, .int .i64 a0, .int .i64 b0]) := Lib.hid (by rw [← ee]; exact HBr.out.set 1 (.int .i64 ((i : Int) + 1)))
  replace HBs := bF1 HBs ee
  replace HBx := bF1 HBx ee
  replace HBp := bF1 HBp ee
  clear ee
  clear hI
  have rc := kc6 HBr; have sc := kc6 HBs; have xc := kc6 HBx; have pc := kc2 HBp
  have hI := i012_0_0 w w2 w5
  have hZ := i012_0_0 w w2 w4
  refine wp_region_held_drew (S := fun w' => Far (fun b => b = (w.heap.size + 1) ∨ b = (w.heap.size + 2)) (w5) w') (by kernel_rfl) (Far.of (below_drew _)) (fun hS40 => ?_)
  refine takeA 0 (v := ?_) rfl ?_ ?_
  rotate_left
  · (intro w hSw; (try dsimp only at hSw); replace rc := Far.c6z rc hSw; replace pc := Far.c2z pc hSw; go_simp; try with_reducible rfl)
  try simp only [Act.put, pu1, pu2, pu3]
  refine takeA 1 (v := ?_) rfl ?_ ?_
  rotate_left
  · (intro w hSw; (try dsimp only at hSw); replace rc := Far.c6z rc hSw; replace pc := Far.c2z pc hSw; go_simp; try with_reducible rfl)
  try simp only [Act.put, pu1, pu2, pu3]
  refine takeA 2 (v := ?_) rfl ?_ ?_
  rotate_left
  · (intro w hSw; (try dsimp only at hSw); replace rc := Far.c6z rc hSw; replace pc := Far.c2z pc hSw; go_simp; try with_reducible rfl)
  try simp only [Act.put, pu1, pu2, pu3]

  refine callA 3 rfl fun K hK => ?_
  go_simp
  refine hK.out _ _ ?_ (fun hS41 => ?_)
  · exact (by refine Far.trans ?_ (Far.of (below_drew _)); (iterate 6 (refine Far.setCell (p := ⟨(w.heap.size + 1), _, none⟩) ?_ (.inl rfl) _)); exact Far.refl _ _)
  clear hK K

  clear rc sc xc pc
  generalize ee : ((((((w5.setCell ⟨(w.heap.size + 1), 0, none⟩ (.slice aL n cap)).setCell ⟨(w.heap.size + 1), 1, none⟩ (.int .i64 ((i : Int) + 1))).setCell ⟨(w.heap.size + 1), 2, none⟩ (.int .i64 (deep : Int))).setCell ⟨(w.heap.size + 1), 3, none⟩ (.bool false)).setCell ⟨(w.heap.size + 1), 4, none⟩ (.int .i64 a0)).setCell ⟨(w.heap.size + 1), 5, none⟩ (.int .i64 b0)) = w6_1 at *
  have hq1 := sizeS6 ee
  replace HF := fN6 HF ee
  replace HBr := bF6 HBr ee
  replace HBs := bS6 HBs ee
  replace HBx := bF6 HBx ee
  replace HBp := bF6 HBp ee
  clear ee
  generalize ee : (w6_1.drew) = w6 at *
  have hq2 := sizeD ee
  replace HF := fD HF ee
  replace HBr := bD HBr ee
  replace HBs := bD HBs ee
  replace HBx := bD HBx ee
  replace HBp := bD HBp ee
  clear ee
  have hsa6 : w6.heap.size = w4.heap.size + 0 := by omega
  clear hq1 hq2
  clear hI hZ
  have rc := kc6 HBr; have sc := kc6 HBs; have xc := kc6 HBx; have pc := kc2 HBp
  have hI := i012_0_0 w w2 w6
  have hZ := i012_0_0 w w2 w4
  refine callA 4 rfl fun K hK => ?_
  go_simp
  refine hK.out _ _ ?_ (fun hS42 => ?_)
  · exact (by (iterate 6 (refine Far.setCell (p := ⟨(w.heap.size + 2), _, none⟩) ?_ (.inr rfl) _)); exact hS41)
  clear hK K
  refine wpAnyH_done (by kernel_rfl) ?_ _

  clear rc sc xc pc
  generalize ee : World.setCell _ ⟨(w.heap.size + 2), 5, none⟩ _ = w7
  have hsz7 := sizeS6 ee
  replace HF := fN6 HF ee
  replace HBr := bF6 HBr ee
  replace HBs := bF6 HBs ee
  replace HBx := bS6 HBx ee
  replace HBp := bF6 HBp ee
  clear ee
  clear hI hZ
  go_wp2_with (fail)
  have z := kc6 HBs; have y := kc6 HBx
  refine bodyPost_ret (v := .tuple #[.agg #[.slice aL n cap, .int .i64 ((i : Int) + 1), .int .i64 (deep : Int), .bool false, .int .i64 a0, .int .i64 b0], .agg #[.int .i64 9, .string ⟨#[]⟩, .int .i64 0, .slice none 0 0, .int .i64 (nowT ts i).l, .int .i64 (nowT ts i).c]]) (by clear HF H HBr HBs HBx HBp; simp [results, Try.results15, go_sem, z, y]) rfl ?_
  exact ⟨_, _, _, rfl, refBelow HF.out, memNoneR (x := .mk 9 .empty 0 [] (nowT ts i).l (nowT ts i).c) rfl⟩
 simp only [hwi, Bool.false_eq_true, if_false] at hr
 clear rc sc xc pc
 refine (isR_ok (s := wWild) _ (refTok HF.out H.out)).mono ?_
 rintro _ w4 ⟨rfl, hb⟩
 replace HBr := kB HBr hb
 replace HBs := kB HBs hb
 replace HBx := kB HBx hb
 replace HBp := kB HBp hb
 replace HF := kF HF hb
 have hs4 := hb.size
 clear hb
 rw [hwi]
 clear hI hZ
 have rc := kc6 HBr; have sc := kc6 HBs; have xc := kc6 HBx; have pc := kc2 HBp
 have hI := i012_0_0 w w2 w4
 go_wp2_with (fail)
 cases hpl : plainE (nowT ts i) with
 | some x =>
  simp only [hpl] at hr
  cases hr
  have ek : (x.kind != 0) = true := by simp [plain_kind hpl]
  clear rc sc xc pc
  refine (plainR_ok _ (refTok HF.out H.out) hpl).mono ?_
  rintro _ w5 ⟨rfl, hb⟩
  replace HBr := kB HBr hb
  replace HBs := kB HBs hb
  replace HBx := kB HBx hb
  replace HBp := kB HBp hb
  replace HF := kF HF hb
  have hs5 := hb.size
  clear hb
  simp only [rdV, exV]
  clear hI
  have rc := kc6 HBr; have sc := kc6 HBs; have xc := kc6 HBx; have pc := kc2 HBp
  have hI := i012_0_0 w w2 w5
  go_wp2_with (fail)
  clear rc sc xc pc
  generalize ee : World.alloc w5 _ = w6_1
  have hq1 := sizeA ee
  replace HF := fA HF ee
  replace HBr := bA HBr ee
  replace HBs := bA HBs ee
  replace HBx := bA HBx ee
  replace HBp := bA HBp ee
  have HBt := nB ee (w5.heap.size)
  clear ee
  generalize ee : World.alloc w6_1 _ = w6
  have hq2 := sizeA ee
  replace HF := fA HF ee
  replace HBr := bA HBr ee
  replace HBs := bA HBs ee
  replace HBx := bA HBx ee
  replace HBp := bA HBp ee
  replace HBt := bA HBt ee
  have HBe := nB ee (w5.heap.size + 1)
  clear ee
  have hsa6 : w6.heap.size = w5.heap.size + 2 := by omega
  clear hq1 hq2
  clear hI
  have rc := kc6 HBr; have sc := kc6 HBs; have xc := kc6 HBx; have pc := kc2 HBp; have tc := kc6 HBt; have ec := kc6 HBe
  have hI := i012_0_01_0 w w2 w5 w6
  have hZ := i012_0_012 w w2 w5
  clear rc sc xc pc tc ec
  clear hI hZ
  clear HBr HBp
  have sc := kc6 HBs; have xc := kc6 HBx; have tc := kc6 HBt; have ec := kc6 HBe
  have hI := i12_01_0 w w5 w6
  have hZ := i12_012 w w5
  refine wp_region_held_drew (S := fun w' => Far (fun b => b = (w.heap.size + 1) ∨ b = (w.heap.size + 2)) (w6) w') (by kernel_rfl) (Far.of (below_drew _)) (fun hS40 => ?_)
  refine takeA 0 (v := ?_) rfl ?_ ?_
  rotate_left
  · (intro w hSw; (try dsimp only at hSw); replace tc := Far.c6z tc hSw; go_simp; try with_reducible rfl)
  try simp only [Act.put, pu1, pu2, pu3]
  refine takeA 1 (v := ?_) rfl ?_ ?_
  rotate_left
  · (intro w hSw; (try dsimp only at hSw); replace ec := Far.c6z ec hSw; go_simp; try with_reducible rfl)
  try simp only [Act.put, pu1, pu2, pu3]

  refine callA 2 rfl fun K hK => ?_
  go_simp
  refine hK.out _ _ ?_ (fun hS41 => ?_)
  · exact (by refine Far.trans ?_ (Far.of (below_drew _)); (iterate 6 (refine Far.setCell (p := ⟨(w.heap.size + 1), _, none⟩) ?_ (.inl rfl) _)); exact Far.refl _ _)
  clear hK K

  clear sc xc tc ec
  generalize ee : ((((((w6.setCell ⟨(w.heap.size + 1), 0, none⟩ (.slice aL n cap)).setCell ⟨(w.heap.size + 1), 1, none⟩ (.int .i64 ((i : Int) + 1))).setCell ⟨(w.heap.size + 1), 2, none⟩ (.int .i64 (deep : Int))).setCell ⟨(w.heap.size + 1), 3, none⟩ (.bool false)).setCell ⟨(w.heap.size + 1), 4, none⟩ (.int .i64 a0)).setCell ⟨(w.heap.size + 1), 5, none⟩ (.int .i64 b0)) = w7_1 at *
  have hq1 := sizeS6 ee
  replace HF := fN6 HF ee
  replace HBs := bS6 HBs ee
  replace HBx := bF6 HBx ee
  replace HBt := bF6 HBt ee
  replace HBe := bF6 HBe ee
  clear ee
  generalize ee : (w7_1.drew) = w7 at *
  have hq2 := sizeD ee
  replace HF := fD HF ee
  replace HBs := bD HBs ee
  replace HBx := bD HBx ee
  replace HBt := bD HBt ee
  replace HBe := bD HBe ee
  clear ee
  have hsa7 : w7.heap.size = w5.heap.size + 2 := by omega
  clear hq1 hq2
  clear hI hZ
  have sc := kc6 HBs; have xc := kc6 HBx; have tc := kc6 HBt; have ec := kc6 HBe
  have hI := i12_01_0 w w5 w7
  have hZ := i12_012 w w5
  refine callA 3 rfl fun K hK => ?_
  go_simp
  refine hK.out _ _ ?_ (fun hS42 => ?_)
  · exact (by (iterate 6 (refine Far.setCell (p := ⟨(w.heap.size + 2), _, none⟩) ?_ (.inr rfl) _)); exact hS41)
  clear hK K
  refine wpAnyH_done (by kernel_rfl) ?_ _

  clear sc xc tc ec
  generalize ee : World.setCell _ ⟨(w.heap.size + 2), 5, none⟩ _ = w8
  have hsz8 := sizeS6 ee
  replace HF := fN6 HF ee
  replace HBs := bF6 HBs ee
  replace HBx := bS6 HBx ee
  replace HBt := bF6 HBt ee
  replace HBe := bF6 HBe ee
  clear ee
  clear hI hZ
  go_wp2_with (fail)
  have z := kc6 HBs; have y := kc6 HBx
  refine bodyPost_ret (v := .tuple #[.agg #[.slice aL n cap, .int .i64 ((i : Int) + 1), .int .i64 (deep : Int), .bool false, .int .i64 a0, .int .i64 b0], .agg #[.int .i64 x.kind, .string x.name, .int .i64 x.n, .slice none 0 0, .int .i64 x.line, .int .i64 x.col]]) (by clear HF H HBs HBx HBt HBe; simp [results, Try.results15, go_sem, z, y]) rfl ?_
  exact ⟨_, _, _, rfl, refBelow HF.out, memNoneR (plain_argsR hpl)⟩
 | none =>
  simp only [hpl] at hr
  clear rc sc xc pc
  refine (plainR_no _ (refTok HF.out H.out) hpl).mono ?_
  rintro _ w5 ⟨rfl, hb⟩
  replace HBr := kB HBr hb
  replace HBs := kB HBs hb
  replace HBx := kB HBx hb
  replace HBp := kB HBp hb
  replace HF := kF HF hb
  have hs5 := hb.size
  clear hb
  simp only [rdV]
  clear hI
  have rc := kc6 HBr; have sc := kc6 HBs; have xc := kc6 HBx; have pc := kc2 HBp
  have hI := i012_0_0 w w2 w5
  go_wp2_with (fail)
  clear rc sc xc pc
  generalize ee : World.alloc w5 _ = w6_1
  have hq1 := sizeA ee
  replace HF := fA HF ee
  replace HBr := bA HBr ee
  replace HBs := bA HBs ee
  replace HBx := bA HBx ee
  replace HBp := bA HBp ee
  have HBt := nB ee (w5.heap.size)
  clear ee
  generalize ee : World.alloc w6_1 _ = w6
  have hq2 := sizeA ee
  replace HF := fA HF ee
  replace HBr := bA HBr ee
  replace HBs := bA HBs ee
  replace HBx := bA HBx ee
  replace HBp := bA HBp ee
  replace HBt := bA HBt ee
  have HBe := nB ee (w5.heap.size + 1)
  clear ee
  have hsa6 : w6.heap.size = w5.heap.size + 2 := by omega
  clear hq1 hq2
  clear hI
  have rc := kc6 HBr; have sc := kc6 HBs; have xc := kc6 HBx; have pc := kc2 HBp; have tc := kc6 HBt; have ec := kc6 HBe
  have hI := i012_0_01_0 w w2 w5 w6
  have hZ := i012_0_012 w w2 w5
  rcases hop : isT ts i 6 wOpen
  ·
   simp only [hop, Bool.false_eq_true, if_false] at hr
   cases hr
   clear rc sc xc pc tc ec
   refine (isR_ok (s := wOpen) _ (refTok HF.out H.out)).mono ?_
   rintro _ w7 ⟨rfl, hb⟩
   replace HBr := kB HBr hb
   replace HBs := kB HBs hb
   replace HBx := kB HBx hb
   replace HBp := kB HBp hb
   replace HBt := kB HBt hb
   replace HBe := kB HBe hb
   replace HF := kF HF hb
   have hs7 := hb.size
   clear hb
   rw [hop]
   clear hI hZ
   have rc := kc6 HBr; have sc := kc6 HBs; have xc := kc6 HBx; have pc := kc2 HBp; have tc := kc6 HBt; have ec := kc6 HBe
   have hI := i012_0_01_0 w w2 w5 w7
   go_wp2_with (fail)
   refine wp_region_held_drew (S := fun w' => Far (fun b => b = (w.heap.size + 1) ∨ b = (w.heap.size + 2)) (w7) w') (by kernel_rfl) (Far.of (below_drew _)) (fun hS40 => ?_)
   refine takeA 0 (v := ?_) rfl ?_ ?_
   rotate_left
   · (intro w hSw; (try dsimp only at hSw); replace rc := Far.c6z rc hSw; replace ec := Far.c6z ec hSw; go_simp; try with_reducible rfl)
   try simp only [Act.put, pu1, pu2, pu3]
   refine takeA 2 (v := ?_) rfl ?_ ?_
   rotate_left
   · (intro w hSw; (try dsimp only at hSw); replace rc := Far.c6z rc hSw; replace ec := Far.c6z ec hSw; go_simp; try with_reducible rfl)
   try simp only [Act.put, pu1, pu2, pu3]
   refine callA 1 rfl fun K hK => ?_
   go_simp
   refine (failR_ok _ (refTok HF.out.drew H.out)).mono ?_
   rintro e wx41 ⟨rfl, hb⟩
   clear rc sc xc pc tc ec
   have hbk := hb
   replace hb := Below.one hb
   replace HBr := kB HBr hb
   replace HBs := kB HBs hb
   replace HBx := kB HBx hb
   replace HBp := kB HBp hb
   replace HBt := kB HBt hb
   replace HBe := kB HBe hb
   replace HF := kF HF hb
   have hs41 := hb.size
   clear hb
   simp only [rdV]
   go_simp
   refine hK.out _ _ ?_ (fun hS41 => ?_)
   · exact Far.trans hS40 (Far.of hbk)
   clear hK K

   clear hI
   have rc := kc6 HBr; have sc := kc6 HBs; have xc := kc6 HBx; have pc := kc2 HBp; have tc := kc6 HBt; have ec := kc6 HBe
   have hI := i012_0_01_0 w w2 w5 wx41
   refine callA 3 rfl fun K hK => ?_
   go_simp
   refine hK.out _ _ ?_ (fun hS42 => ?_)
   · exact (by (iterate 6 (refine Far.setCell (p := ⟨(w.heap.size + 1), _, none⟩) ?_ (.inl rfl) _)); exact hS41)
   clear hK K

   clear rc sc xc pc tc ec
   generalize ee : ((((((wx41.setCell ⟨(w.heap.size + 1), 0, none⟩ (.slice aL n cap)).setCell ⟨(w.heap.size + 1), 1, none⟩ (.int .i64 (i : Int))).setCell ⟨(w.heap.size + 1), 2, none⟩ (.int .i64 (deep : Int))).setCell ⟨(w.heap.size + 1), 3, none⟩ (.bool true)).setCell ⟨(w.heap.size + 1), 4, none⟩ (.int .i64 (nowT ts i).l)).setCell ⟨(w.heap.size + 1), 5, none⟩ (.int .i64 (nowT ts i).c)) = w42 at *
   have hsz42 := sizeS6 ee
   replace HF := fN6 HF ee
   replace HBr := bF6 HBr ee
   replace HBs := bS6 HBs ee
   replace HBx := bF6 HBx ee
   replace HBp := bF6 HBp ee
   replace HBt := bF6 HBt ee
   replace HBe := bF6 HBe ee
   clear ee
   clear hI
   have rc := kc6 HBr; have sc := kc6 HBs; have xc := kc6 HBx; have pc := kc2 HBp; have tc := kc6 HBt; have ec := kc6 HBe
   have hI := i012_0_01_0 w w2 w5 w42
   have hZ := i012_0_01_0 w w2 w5 wx41
   refine callA 4 rfl fun K hK => ?_
   go_simp
   refine hK.out _ _ ?_ (fun hS43 => ?_)
   · exact (by (iterate 6 (refine Far.setCell (p := ⟨(w.heap.size + 2), _, none⟩) ?_ (.inr rfl) _)); exact hS42)
   clear hK K
   refine wpAnyH_done (by kernel_rfl) ?_ _

   clear rc sc xc pc tc ec
   generalize ee : World.setCell _ ⟨(w.heap.size + 2), 5, none⟩ _ = w43
   have hsz43 := sizeS6 ee
   replace HF := fN6 HF ee
   replace HBr := bF6 HBr ee
   replace HBs := bF6 HBs ee
   replace HBx := bS6 HBx ee
   replace HBp := bF6 HBp ee
   replace HBt := bF6 HBt ee
   replace HBe := bF6 HBe ee
   clear ee
   clear hI hZ
   go_wp2_with (fail)
   have z := kc6 HBs; have y := kc6 HBx
   refine bodyPost_ret (v := .tuple #[.agg #[.slice aL n cap, .int .i64 (i : Int), .int .i64 (deep : Int), .bool true, .int .i64 (nowT ts i).l, .int .i64 (nowT ts i).c], .agg #[.int .i64 0, .string ⟨#[]⟩, .int .i64 0, .slice none 0 0, .int .i64 0, .int .i64 0]]) (by clear HF H HBr HBs HBx HBp HBt HBe; simp [results, Try.results15, go_sem, z, y]) rfl ?_
   exact ⟨_, _, _, _, _, _, _, _, _, _, rfl, refBelow HF.out⟩
  simp only [hop, if_true] at hr
  clear rc sc xc pc tc ec
  clear HBp HBt HBe
  refine (isR_ok (s := wOpen) _ (refTok HF.out H.out)).mono ?_
  rintro _ w7 ⟨rfl, hb⟩
  replace HBr := kB HBr hb
  replace HBs := kB HBs hb
  replace HBx := kB HBx hb
  replace HF := kF HF hb
  have hs7 := hb.size
  clear hb
  rw [hop]
  clear hI hZ
  have rc := kc6 HBr; have sc := kc6 HBs; have xc := kc6 HBx
  have hI := i012_0 w w7
  go_wp2_with (fail)
  by_cases h40 : deep = 40
  ·
   rw [if_pos h40] at hr
   cases hr
   clear rc sc xc
   refine (downR_bad2 _ (refTok HF.out H.out) h40).mono ?_
   rintro _ w8 ⟨rfl, hb⟩
   replace HBr := kB HBr hb
   replace HBs := kB HBs hb
   replace HBx := kB HBx hb
   replace HF := kF HF hb
   have hs8 := hb.size
   clear hb
   clear h40
   simp only [rdV]
   clear hI
   have rc := kc6 HBr; have sc := kc6 HBs; have xc := kc6 HBx
   have hI := i012_0 w w8
   go_wp2_with (fail)
   clear rc sc xc
   generalize ee : World.alloc w8 _ = w9
   have hsa9 := sizeA ee
   replace HF := fA HF ee
   replace HBr := bA HBr ee
   replace HBs := bA HBs ee
   replace HBx := bA HBx ee
   have HBi := nB ee (w8.heap.size)
   clear ee
   clear hI
   have rc := kc6 HBr; have sc := kc6 HBs; have xc := kc6 HBx; have ic := kc6 HBi
   have hI := i012_0_0 w w8 w9
   have hZ := i012_01 w w8
   clear rc sc xc ic
   refine (nowR_any _ (refTok HF.out H.out)).mono ?_
   rintro _ w10 ⟨rfl, hb⟩
   replace HBr := kB HBr hb
   replace HBs := kB HBs hb
   replace HBx := kB HBx hb
   replace HBi := kB HBi hb
   replace HF := kF HF hb
   have hs10 := hb.size
   clear hb
   simp only [tkV]
   by_cases hu : (nowT ts i).k = 3
   ·
    have eu : ((nowT ts i).k == 3) = true := by simp [hu]
    clear hu
    clear hI hZ
    have rc := kc6 HBr; have sc := kc6 HBs; have xc := kc6 HBx; have ic := kc6 HBi
    have hI := i012_0_0 w w8 w10
    go_wp2_with (fail)
    clear rc sc xc ic
    refine (patR_bad _ (refTok HF.out H.out)).mono ?_
    rintro _ w11 ⟨iq, dq, kq, sq, nq, aq, mq, cq, uq, vq, rfl, hb⟩
    replace HBr := kB HBr hb
    replace HBs := kB HBs hb
    replace HBx := kB HBx hb
    replace HBi := kB HBi hb
    replace HF := kF HF hb
    have hs11 := hb.size
    clear hb
    simp only [rdV]
    clear hI
    have rc := kc6 HBr; have sc := kc6 HBs; have xc := kc6 HBx; have ic := kc6 HBi
    have hI := i012_0_0 w w8 w11
    go_wp2_with (fail)
    clear rc sc xc ic
    generalize ee : World.alloc w11 _ = w12_1
    have hq1 := sizeA ee
    replace HF := fA HF ee
    replace HBr := bA HBr ee
    replace HBs := bA HBs ee
    replace HBx := bA HBx ee
    replace HBi := bA HBi ee
    have HBu := nB ee (w11.heap.size)
    clear ee
    generalize ee : World.alloc w12_1 _ = w12_2
    have hq2 := sizeA ee
    replace HF := fA HF ee
    replace HBr := bA HBr ee
    replace HBs := bA HBs ee
    replace HBx := bA HBx ee
    replace HBi := bA HBi ee
    replace HBu := bA HBu ee
    have HBv := nB ee (w11.heap.size + 1)
    clear ee
    generalize ee : World.alloc w12_2 _ = w12
    have hq3 := sizeA ee
    replace HF := fA HF ee
    replace HBr := bA HBr ee
    replace HBs := bA HBs ee
    replace HBx := bA HBx ee
    replace HBi := bA HBi ee
    replace HBu := bA HBu ee
    replace HBv := bA HBv ee
    have HBrow := nB ee (w11.heap.size + 2)
    clear ee
    have hsa12 : w12.heap.size = w11.heap.size + 3 := by omega
    clear hq1 hq2 hq3
    clear hI
    go_loopw [11] (fun v wr => v = .slice (some ⟨(w11.heap.size + 2), 0, none⟩) 1 1 ∧ w12 = wr) (fun _ _ => 0)
    case atStart => exact ⟨rfl, rfl⟩
    case round =>
     obtain ⟨hv, hw⟩ := hrel
     subst hv
     subst hw
     have rc := kc6 HBr; have sc := kc6 HBs; have xc := kc6 HBx; have ic := kc6 HBi; have uc := kc6 HBu; have vc := kc6 HBv; have rowc := kc6 HBrow
     have hI := i012_0_012_0 w w8 w11 w12
     have hZ := i012_0_0123 w w8 w11
     go_wp2_with (fail)
     clear rc sc xc ic uc vc rowc
     refine (takeR_bad _ (refTok HF.out H.out)).mono ?_
     rintro _ w13 ⟨rfl, hb⟩
     replace HBr := kB HBr hb
     replace HBs := kB HBs hb
     replace HBx := kB HBx hb
     replace HBi := kB HBi hb
     replace HBu := kB HBu hb
     replace HBv := kB HBv hb
     replace HBrow := kB HBrow hb
     replace HF := kF HF hb
     have hs13 := hb.size
     clear hb
     simp only [rdV]
     clear hI hZ
     have rc := kc6 HBr; have sc := kc6 HBs; have xc := kc6 HBx; have ic := kc6 HBi; have uc := kc6 HBu; have vc := kc6 HBv; have rowc := kc6 HBrow
     have hI := i012_0_012_0 w w8 w11 w13
     go_wp2_with (fail)
     clear rc sc xc ic uc vc rowc
     generalize ee : World.setCell _ ⟨w11.heap.size, 5, none⟩ _ = w14_1
     have hq1 := sizeS6 ee
     replace HF := fN6 HF ee
     replace HBr := bF6 HBr ee
     replace HBs := bF6 HBs ee
     replace HBx := bF6 HBx ee
     replace HBi := bF6 HBi ee
     replace HBu := bS6 HBu ee
     replace HBv := bF6 HBv ee
     replace HBrow := bF6 HBrow ee
     clear ee
     generalize ee : World.setCell w14_1 _ _ = w14
     have hq2 := sizeS1 ee
     replace HF := fN1 HF ee
     replace HBr := bF1 HBr ee
     replace HBs := bF1 HBs ee
     replace HBx := bF1 HBx ee
     replace HBi := bF1 HBi ee
     replace HBu : Hid (Bo w14 w11.heap.size 47 #[.slice aL n cap, .int .i64 (iq : Int), .int .i64 (deep : Int), .bool true, .int .i64 (nowT ts i).l, .int .i64 (nowT ts i).c]) := Lib.hid (by rw [← ee]; exact HBu.out.set 2 (.int .i64 (deep : Int)))
     replace HBv := bF1 HBv ee
     replace HBrow := bF1 HBrow ee
     clear ee
     have hsz14 : w14.heap.size = w13.heap.size := by omega
     clear hq1 hq2
     clear hI
     have rc := kc6 HBr; have sc := kc6 HBs; have xc := kc6 HBx; have ic := kc6 HBi; have uc := kc6 HBu; have vc := kc6 HBv; have rowc := kc6 HBrow
     have hI := i012_0_012_0 w w8 w11 w14
     have hZ := i012_0_012_0 w w8 w11 w13
     clear rc sc xc ic uc vc rowc
     clear hI hZ
     clear HBr HBi HBrow
     have sc := kc6 HBs; have xc := kc6 HBx; have uc := kc6 HBu; have vc := kc6 HBv
     have hI := i12_01_0 w w11 w14
     have hZ := i12_01_0 w w11 w13
     refine wp_region_held_drew (S := fun w' => Far (fun b => b = (w.heap.size + 1) ∨ b = (w.heap.size + 2)) (w14) w') (by kernel_rfl) (Far.of (below_drew _)) (fun hS40 => ?_)
     refine takeA 0 (v := ?_) rfl ?_ ?_
     rotate_left
     · (intro w hSw; (try dsimp only at hSw); replace uc := Far.c6z uc hSw; go_simp; try with_reducible rfl)
     try simp only [Act.put, pu1, pu2, pu3]
     refine takeA 1 (v := ?_) rfl ?_ ?_
     rotate_left
     · (intro w hSw; (try dsimp only at hSw); replace vc := Far.c6z vc hSw; go_simp; try with_reducible rfl)
     try simp only [Act.put, pu1, pu2, pu3]

     refine callA 2 rfl fun K hK => ?_
     go_simp
     refine hK.out _ _ ?_ (fun hS41 => ?_)
     · exact (by refine Far.trans ?_ (Far.of (below_drew _)); (iterate 6 (refine Far.setCell (p := ⟨(w.heap.size + 1), _, none⟩) ?_ (.inl rfl) _)); exact Far.refl _ _)
     clear hK K

     clear sc xc uc vc
     generalize ee : ((((((w14.setCell ⟨(w.heap.size + 1), 0, none⟩ (.slice aL n cap)).setCell ⟨(w.heap.size + 1), 1, none⟩ (.int .i64 (iq : Int))).setCell ⟨(w.heap.size + 1), 2, none⟩ (.int .i64 (deep : Int))).setCell ⟨(w.heap.size + 1), 3, none⟩ (.bool true)).setCell ⟨(w.heap.size + 1), 4, none⟩ (.int .i64 (nowT ts i).l)).setCell ⟨(w.heap.size + 1), 5, none⟩ (.int .i64 (nowT ts i).c)) = w15_1 at *
     have hq1 := sizeS6 ee
     replace HF := fN6 HF ee
     replace HBs := bS6 HBs ee
     replace HBx := bF6 HBx ee
     replace HBu := bF6 HBu ee
     replace HBv := bF6 HBv ee
     clear ee
     generalize ee : (w15_1.drew) = w15 at *
     have hq2 := sizeD ee
     replace HF := fD HF ee
     replace HBs := bD HBs ee
     replace HBx := bD HBx ee
     replace HBu := bD HBu ee
     replace HBv := bD HBv ee
     clear ee
     have hsa15 : w15.heap.size = w13.heap.size + 0 := by omega
     clear hq1 hq2
     clear hI hZ
     have sc := kc6 HBs; have xc := kc6 HBx; have uc := kc6 HBu; have vc := kc6 HBv
     have hI := i12_01_0 w w11 w15
     have hZ := i12_01_0 w w11 w13
     refine callA 3 rfl fun K hK => ?_
     go_simp
     refine hK.out _ _ ?_ (fun hS42 => ?_)
     · exact (by (iterate 6 (refine Far.setCell (p := ⟨(w.heap.size + 2), _, none⟩) ?_ (.inr rfl) _)); exact hS41)
     clear hK K
     refine wpAnyH_done (by kernel_rfl) ?_ _

     clear sc xc uc vc
     generalize ee : World.setCell _ ⟨(w.heap.size + 2), 5, none⟩ _ = w16
     have hsz16 := sizeS6 ee
     replace HF := fN6 HF ee
     replace HBs := bF6 HBs ee
     replace HBx := bS6 HBx ee
     replace HBu := bF6 HBu ee
     replace HBv := bF6 HBv ee
     clear ee
     clear hI hZ
     go_wp2_with (fail)
     have z := kc6 HBs; have y := kc6 HBx
     refine bodyPost_ret (v := .tuple #[.agg #[.slice aL n cap, .int .i64 (iq : Int), .int .i64 (deep : Int), .bool true, .int .i64 (nowT ts i).l, .int .i64 (nowT ts i).c], .agg #[.int .i64 kq, .string sq, .int .i64 nq, .slice aq mq cq, .int .i64 uq, .int .i64 vq]]) (by clear HF H HBs HBx HBu HBv; simp [results, Try.results15, go_sem, z, y]) rfl ?_
     exact ⟨_, _, _, _, _, _, _, _, _, _, rfl, refBelow HF.out⟩
   have eu : ((nowT ts i).k == 3) = false := by simp [hu]
   clear hu
   clear hI hZ
   have rc := kc6 HBr; have sc := kc6 HBs; have xc := kc6 HBx; have ic := kc6 HBi
   have hI := i012_0_0 w w8 w10
   go_wp2_with (fail)
   clear rc sc xc ic
   refine (patR_bad _ (refTok HF.out H.out)).mono ?_
   rintro _ w11 ⟨iq, dq, kq, sq, nq, aq, mq, cq, uq, vq, rfl, hb⟩
   replace HBr := kB HBr hb
   replace HBs := kB HBs hb
   replace HBx := kB HBx hb
   replace HBi := kB HBi hb
   replace HF := kF HF hb
   have hs11 := hb.size
   clear hb
   simp only [rdV]
   clear hI
   have rc := kc6 HBr; have sc := kc6 HBs; have xc := kc6 HBx; have ic := kc6 HBi
   have hI := i012_0_0 w w8 w11
   go_wp2_with (fail)
   clear rc sc xc ic
   generalize ee : World.alloc w11 _ = w12_1
   have hq1 := sizeA ee
   replace HF := fA HF ee
   replace HBr := bA HBr ee
   replace HBs := bA HBs ee
   replace HBx := bA HBx ee
   replace HBi := bA HBi ee
   have HBu := nB ee (w11.heap.size)
   clear ee
   generalize ee : World.alloc w12_1 _ = w12_2
   have hq2 := sizeA ee
   replace HF := fA HF ee
   replace HBr := bA HBr ee
   replace HBs := bA HBs ee
   replace HBx := bA HBx ee
   replace HBi := bA HBi ee
   replace HBu := bA HBu ee
   have HBv := nB ee (w11.heap.size + 1)
   clear ee
   generalize ee : World.alloc w12_2 _ = w12
   have hq3 := sizeA ee
   replace HF := fA HF ee
   replace HBr := bA HBr ee
   replace HBs := bA HBs ee
   replace HBx := bA HBx ee
   replace HBi := bA HBi ee
   replace HBu := bA HBu ee
   replace HBv := bA HBv ee
   have HBrow := nB ee (w11.heap.size + 2)
   clear ee
   have hsa12 : w12.heap.size = w11.heap.size + 3 := by omega
   clear hq1 hq2 hq3
   clear hI
   go_loopw [11] (fun v wr => v = .slice (some ⟨(w11.heap.size + 2), 0, none⟩) 1 1 ∧ w12 = wr) (fun _ _ => 0)
   case atStart => exact ⟨rfl, rfl⟩
   case round =>
    obtain ⟨hv, hw⟩ := hrel
    subst hv
    subst hw
    have rc := kc6 HBr; have sc := kc6 HBs; have xc := kc6 HBx; have ic := kc6 HBi; have uc := kc6 HBu; have vc := kc6 HBv; have rowc := kc6 HBrow
    have hI := i012_0_012_0 w w8 w11 w12
    have hZ := i012_0_0123 w w8 w11
    go_wp2_with (fail)
    clear rc sc xc ic uc vc rowc
    refine (takeR_bad _ (refTok HF.out H.out)).mono ?_
    rintro _ w13 ⟨rfl, hb⟩
    replace HBr := kB HBr hb
    replace HBs := kB HBs hb
    replace HBx := kB HBx hb
    replace HBi := kB HBi hb
    replace HBu := kB HBu hb
    replace HBv := kB HBv hb
    replace HBrow := kB HBrow hb
    replace HF := kF HF hb
    have hs13 := hb.size
    clear hb
    simp only [rdV]
    clear hI hZ
    have rc := kc6 HBr; have sc := kc6 HBs; have xc := kc6 HBx; have ic := kc6 HBi; have uc := kc6 HBu; have vc := kc6 HBv; have rowc := kc6 HBrow
    have hI := i012_0_012_0 w w8 w11 w13
    go_wp2_with (fail)
    clear rc sc xc ic uc vc rowc
    generalize ee : World.setCell _ ⟨w11.heap.size, 5, none⟩ _ = w14_1
    have hq1 := sizeS6 ee
    replace HF := fN6 HF ee
    replace HBr := bF6 HBr ee
    replace HBs := bF6 HBs ee
    replace HBx := bF6 HBx ee
    replace HBi := bF6 HBi ee
    replace HBu := bS6 HBu ee
    replace HBv := bF6 HBv ee
    replace HBrow := bF6 HBrow ee
    clear ee
    generalize ee : World.setCell w14_1 _ _ = w14
    have hq2 := sizeS1 ee
    replace HF := fN1 HF ee
    replace HBr := bF1 HBr ee
    replace HBs := bF1 HBs ee
    replace HBx := bF1 HBx ee
    replace HBi := bF1 HBi ee
    replace HBu : Hid (Bo w14 w11.heap.size 47 #[.slice aL n cap, .int .i64 (iq : Int), .int .i64 (deep : Int), .bool true, .int .i64 (nowT ts i).l, .int .i64 (nowT ts i).c]) := Lib.hid (by rw [← ee]; exact HBu.out.set 2 (.int .i64 (deep : Int)))
    replace HBv := bF1 HBv ee
    replace HBrow := bF1 HBrow ee
    clear ee
    have hsz14 : w14.heap.size = w13.heap.size := by omega
    clear hq1 hq2
    clear hI
    have rc := kc6 HBr; have sc := kc6 HBs; have xc := kc6 HBx; have ic := kc6 HBi; have uc := kc6 HBu; have vc := kc6 HBv; have rowc := kc6 HBrow
    have hI := i012_0_012_0 w w8 w11 w14
    have hZ := i012_0_012_0 w w8 w11 w13
    clear rc sc xc ic uc vc rowc
    clear hI hZ
    clear HBr HBi HBrow
    have sc := kc6 HBs; have xc := kc6 HBx; have uc := kc6 HBu; have vc := kc6 HBv
    have hI := i12_01_0 w w11 w14
    have hZ := i12_01_0 w w11 w13
    refine wp_region_held_drew (S := fun w' => Far (fun b => b = (w.heap.size + 1) ∨ b = (w.heap.size + 2)) (w14) w') (by kernel_rfl) (Far.of (below_drew _)) (fun hS40 => ?_)
    refine takeA 0 (v := ?_) rfl ?_ ?_
    rotate_left
    · (intro w hSw; (try dsimp only at hSw); replace uc := Far.c6z uc hSw; go_simp; try with_reducible rfl)
    try simp only [Act.put, pu1, pu2, pu3]
    refine takeA 1 (v := ?_) rfl ?_ ?_
    rotate_left
    · (intro w hSw; (try dsimp only at hSw); replace vc := Far.c6z vc hSw; go_simp; try with_reducible rfl)
    try simp only [Act.put, pu1, pu2, pu3]

    refine callA 2 rfl fun K hK => ?_
    go_simp
    refine hK.out _ _ ?_ (fun hS41 => ?_)
    · exact (by refine Far.trans ?_ (Far.of (below_drew _)); (iterate 6 (refine Far.setCell (p := ⟨(w.heap.size + 1), _, none⟩) ?_ (.inl rfl) _)); exact Far.refl _ _)
    clear hK K

    clear sc xc uc vc
    generalize ee : ((((((w14.setCell ⟨(w.heap.size + 1), 0, none⟩ (.slice aL n cap)).setCell ⟨(w.heap.size + 1), 1, none⟩ (.int .i64 (iq : Int))).setCell ⟨(w.heap.size + 1), 2, none⟩ (.int .i64 (deep : Int))).setCell ⟨(w.heap.size + 1), 3, none⟩ (.bool true)).setCell ⟨(w.heap.size + 1), 4, none⟩ (.int .i64 (nowT ts i).l)).setCell ⟨(w.heap.size + 1), 5, none⟩ (.int .i64 (nowT ts i).c)) = w15_1 at *
    have hq1 := sizeS6 ee
    replace HF := fN6 HF ee
    replace HBs := bS6 HBs ee
    replace HBx := bF6 HBx ee
    replace HBu := bF6 HBu ee
    replace HBv := bF6 HBv ee
    clear ee
    generalize ee : (w15_1.drew) = w15 at *
    have hq2 := sizeD ee
    replace HF := fD HF ee
    replace HBs := bD HBs ee
    replace HBx := bD HBx ee
    replace HBu := bD HBu ee
    replace HBv := bD HBv ee
    clear ee
    have hsa15 : w15.heap.size = w13.heap.size + 0 := by omega
    clear hq1 hq2
    clear hI hZ
    have sc := kc6 HBs; have xc := kc6 HBx; have uc := kc6 HBu; have vc := kc6 HBv
    have hI := i12_01_0 w w11 w15
    have hZ := i12_01_0 w w11 w13
    refine callA 3 rfl fun K hK => ?_
    go_simp
    refine hK.out _ _ ?_ (fun hS42 => ?_)
    · exact (by (iterate 6 (refine Far.setCell (p := ⟨(w.heap.size + 2), _, none⟩) ?_ (.inr rfl) _)); exact hS41)
    clear hK K
    refine wpAnyH_done (by kernel_rfl) ?_ _

    clear sc xc uc vc
    generalize ee : World.setCell _ ⟨(w.heap.size + 2), 5, none⟩ _ = w16
    have hsz16 := sizeS6 ee
    replace HF := fN6 HF ee
    replace HBs := bF6 HBs ee
    replace HBx := bS6 HBx ee
    replace HBu := bF6 HBu ee
    replace HBv := bF6 HBv ee
    clear ee
    clear hI hZ
    go_wp2_with (fail)
    have z := kc6 HBs; have y := kc6 HBx
    refine bodyPost_ret (v := .tuple #[.agg #[.slice aL n cap, .int .i64 (iq : Int), .int .i64 (deep : Int), .bool true, .int .i64 (nowT ts i).l, .int .i64 (nowT ts i).c], .agg #[.int .i64 kq, .string sq, .int .i64 nq, .slice aq mq cq, .int .i64 uq, .int .i64 vq]]) (by clear HF H HBs HBx HBu HBv; simp [results, Try.results15, go_sem, z, y]) rfl ?_
    exact ⟨_, _, _, _, _, _, _, _, _, _, rfl, refBelow HF.out⟩
  rw [if_neg h40] at hr
  have hil : i < ts.length := isT_lt hop (by decide)
  have hd1 : deep + 1 ≤ 40 := by omega
  clear rc sc xc
  refine (downR_ok2 _ (refTok HF.out H.out) (by omega) hil).mono ?_
  rintro _ w8 ⟨rfl, hb⟩
  replace HBr := kB HBr hb
  replace HBs := kB HBs hb
  replace HBx := kB HBx hb
  replace HF := kF HF hb
  have hs8 := hb.size
  clear hb
  simp only [rdV]
  clear hI
  have rc := kc6 HBr; have sc := kc6 HBs; have xc := kc6 HBx
  have hI := i012_0 w w8
  go_wp2_with (fail)
  clear rc sc xc
  generalize ee : World.alloc w8 _ = w9
  have hsa9 := sizeA ee
  replace HF := fA HF ee
  replace HBr := bA HBr ee
  replace HBs := bA HBs ee
  replace HBx := bA HBx ee
  have HBi := nB ee (w8.heap.size)
  clear ee
  clear hI
  have rc := kc6 HBr; have sc := kc6 HBs; have xc := kc6 HBx; have ic := kc6 HBi
  have hI := i012_0_0 w w8 w9
  have hZ := i012_01 w w8
  clear rc sc xc ic
  refine (nowR_any (i := i + 1) _ (refTok HF.out H.out)).mono ?_
  rintro _ w10 ⟨rfl, hb⟩
  replace HBr := kB HBr hb
  replace HBs := kB HBs hb
  replace HBx := kB HBx hb
  replace HBi := kB HBi hb
  replace HF := kF HF hb
  have hs10 := hb.size
  clear hb
  simp only [tkV]
  by_cases hu : (nowT ts (i + 1)).k = 3
  rotate_left
  ·
   have eu : ((nowT ts (i + 1)).k == 3) = false := by simp [hu]
   rw [if_neg hu] at hr
   clear hu
   clear hI hZ
   have rc := kc6 HBr; have sc := kc6 HBs; have xc := kc6 HBx; have ic := kc6 HBi
   have hI := i012_0_0 w w8 w10
   go_wp2_with (fail)
   rcases hx : readE ts f .pat (i + 1) (deep + 1) with _ | ⟨x, j⟩ | ⟨l_, c_⟩
   · (rw [hx] at hr; cases hr)
   rotate_left
   ·
    rw [hx] at hr
    first | simp only at hr | simp only [andT] at hr
    cases hr
    clear rc sc xc ic
    refine (HQ.out f (Nat.le_refl _) (i + 1) (deep + 1) _ _ _ _ hd1 (refTok HF.out H.out) hn hx).mono ?_
    rintro _ w11 ⟨iq, dq, kq, sq, nq, aq, mq, cq, uq, vq, rfl, hb⟩
    replace HBr := kB HBr hb
    replace HBs := kB HBs hb
    replace HBx := kB HBx hb
    replace HBi := kB HBi hb
    replace HF := kF HF hb
    have hs11 := hb.size
    clear hb
    simp only [rdV]
    clear hI
    have rc := kc6 HBr; have sc := kc6 HBs; have xc := kc6 HBx; have ic := kc6 HBi
    have hI := i012_0_0 w w8 w11
    go_wp2_with (fail)
    clear rc sc xc ic
    generalize ee : World.alloc w11 _ = w12_1
    have hq1 := sizeA ee
    replace HF := fA HF ee
    replace HBr := bA HBr ee
    replace HBs := bA HBs ee
    replace HBx := bA HBx ee
    replace HBi := bA HBi ee
    have HBu := nB ee (w11.heap.size)
    clear ee
    generalize ee : World.alloc w12_1 _ = w12_2
    have hq2 := sizeA ee
    replace HF := fA HF ee
    replace HBr := bA HBr ee
    replace HBs := bA HBs ee
    replace HBx := bA HBx ee
    replace HBi := bA HBi ee
    replace HBu := bA HBu ee
    have HBv := nB ee (w11.heap.size + 1)
    clear ee
    generalize ee : World.alloc w12_2 _ = w12
    have hq3 := sizeA ee
    replace HF := fA HF ee
    replace HBr := bA HBr ee
    replace HBs := bA HBs ee
    replace HBx := bA HBx ee
    replace HBi := bA HBi ee
    replace HBu := bA HBu ee
    replace HBv := bA HBv ee
    have HBrow := nB ee (w11.heap.size + 2)
    clear ee
    have hsa12 : w12.heap.size = w11.heap.size + 3 := by omega
    clear hq1 hq2 hq3
    clear hI
    go_loopw [11] (fun v wr => v = .slice (some ⟨(w11.heap.size + 2), 0, none⟩) 1 1 ∧ w12 = wr) (fun _ _ => 0)
    case atStart => exact ⟨rfl, rfl⟩
    case round =>
     obtain ⟨hv, hw⟩ := hrel
     subst hv
     subst hw
     have rc := kc6 HBr; have sc := kc6 HBs; have xc := kc6 HBx; have ic := kc6 HBi; have uc := kc6 HBu; have vc := kc6 HBv; have rowc := kc6 HBrow
     have hI := i012_0_012_0 w w8 w11 w12
     have hZ := i012_0_0123 w w8 w11
     go_wp2_with (fail)
     clear rc sc xc ic uc vc rowc
     refine (takeR_bad _ (refTok HF.out H.out)).mono ?_
     rintro _ w13 ⟨rfl, hb⟩
     replace HBr := kB HBr hb
     replace HBs := kB HBs hb
     replace HBx := kB HBx hb
     replace HBi := kB HBi hb
     replace HBu := kB HBu hb
     replace HBv := kB HBv hb
     replace HBrow := kB HBrow hb
     replace HF := kF HF hb
     have hs13 := hb.size
     clear hb
     simp only [rdV]
     clear hI hZ
     have rc := kc6 HBr; have sc := kc6 HBs; have xc := kc6 HBx; have ic := kc6 HBi; have uc := kc6 HBu; have vc := kc6 HBv; have rowc := kc6 HBrow
     have hI := i012_0_012_0 w w8 w11 w13
     go_wp2_with (fail)
     clear rc sc xc ic uc vc rowc
     generalize ee : World.setCell _ ⟨w11.heap.size, 5, none⟩ _ = w14_1
     have hq1 := sizeS6 ee
     replace HF := fN6 HF ee
     replace HBr := bF6 HBr ee
     replace HBs := bF6 HBs ee
     replace HBx := bF6 HBx ee
     replace HBi := bF6 HBi ee
     replace HBu := bS6 HBu ee
     replace HBv := bF6 HBv ee
     replace HBrow := bF6 HBrow ee
     clear ee
     generalize ee : World.setCell w14_1 _ _ = w14
     have hq2 := sizeS1 ee
     replace HF := fN1 HF ee
     replace HBr := bF1 HBr ee
     replace HBs := bF1 HBs ee
     replace HBx := bF1 HBx ee
     replace HBi := bF1 HBi ee
     replace HBu : Hid (Bo w14 w11.heap.size 47 #[.slice aL n cap, .int .i64 (iq : Int), .int .i64 (deep : Int), .bool true, .int .i64 l_, .int .i64 c_]) := Lib.hid (by rw [← ee]; exact HBu.out.set 2 (.int .i64 (deep : Int)))
     replace HBv := bF1 HBv ee
     replace HBrow := bF1 HBrow ee
     clear ee
     have hsz14 : w14.heap.size = w13.heap.size := by omega
     clear hq1 hq2
     clear hI
     have rc := kc6 HBr; have sc := kc6 HBs; have xc := kc6 HBx; have ic := kc6 HBi; have uc := kc6 HBu; have vc := kc6 HBv; have rowc := kc6 HBrow
     have hI := i012_0_012_0 w w8 w11 w14
     have hZ := i012_0_012_0 w w8 w11 w13
     clear rc sc xc ic uc vc rowc
     clear hI hZ
     clear HBr HBi HBrow
     have sc := kc6 HBs; have xc := kc6 HBx; have uc := kc6 HBu; have vc := kc6 HBv
     have hI := i12_01_0 w w11 w14
     have hZ := i12_01_0 w w11 w13
     refine wp_region_held_drew (S := fun w' => Far (fun b => b = (w.heap.size + 1) ∨ b = (w.heap.size + 2)) (w14) w') (by kernel_rfl) (Far.of (below_drew _)) (fun hS40 => ?_)
     refine takeA 0 (v := ?_) rfl ?_ ?_
     rotate_left
     · (intro w hSw; (try dsimp only at hSw); replace uc := Far.c6z uc hSw; go_simp; try with_reducible rfl)
     try simp only [Act.put, pu1, pu2, pu3]
     refine takeA 1 (v := ?_) rfl ?_ ?_
     rotate_left
     · (intro w hSw; (try dsimp only at hSw); replace vc := Far.c6z vc hSw; go_simp; try with_reducible rfl)
     try simp only [Act.put, pu1, pu2, pu3]

     refine callA 2 rfl fun K hK => ?_
     go_simp
     refine hK.out _ _ ?_ (fun hS41 => ?_)
     · exact (by refine Far.trans ?_ (Far.of (below_drew _)); (iterate 6 (refine Far.setCell (p := ⟨(w.heap.size + 1), _, none⟩) ?_ (.inl rfl) _)); exact Far.refl _ _)
     clear hK K

     clear sc xc uc vc
     generalize ee : ((((((w14.setCell ⟨(w.heap.size + 1), 0, none⟩ (.slice aL n cap)).setCell ⟨(w.heap.size + 1), 1, none⟩ (.int .i64 (iq : Int))).setCell ⟨(w.heap.size + 1), 2, none⟩ (.int .i64 (deep : Int))).setCell ⟨(w.heap.size + 1), 3, none⟩ (.bool true)).setCell ⟨(w.heap.size + 1), 4, none⟩ (.int .i64 l_)).setCell ⟨(w.heap.size + 1), 5, none⟩ (.int .i64 c_)) = w15_1 at *
     have hq1 := sizeS6 ee
     replace HF := fN6 HF ee
     replace HBs := bS6 HBs ee
     replace HBx := bF6 HBx ee
     replace HBu := bF6 HBu ee
     replace HBv := bF6 HBv ee
     clear ee
     generalize ee : (w15_1.drew) = w15 at *
     have hq2 := sizeD ee
     replace HF := fD HF ee
     replace HBs := bD HBs ee
     replace HBx := bD HBx ee
     replace HBu := bD HBu ee
     replace HBv := bD HBv ee
     clear ee
     have hsa15 : w15.heap.size = w13.heap.size + 0 := by omega
     clear hq1 hq2
     clear hI hZ
     have sc := kc6 HBs; have xc := kc6 HBx; have uc := kc6 HBu; have vc := kc6 HBv
     have hI := i12_01_0 w w11 w15
     have hZ := i12_01_0 w w11 w13
     refine callA 3 rfl fun K hK => ?_
     go_simp
     refine hK.out _ _ ?_ (fun hS42 => ?_)
     · exact (by (iterate 6 (refine Far.setCell (p := ⟨(w.heap.size + 2), _, none⟩) ?_ (.inr rfl) _)); exact hS41)
     clear hK K
     refine wpAnyH_done (by kernel_rfl) ?_ _

     clear sc xc uc vc
     generalize ee : World.setCell _ ⟨(w.heap.size + 2), 5, none⟩ _ = w16
     have hsz16 := sizeS6 ee
     replace HF := fN6 HF ee
     replace HBs := bF6 HBs ee
     replace HBx := bS6 HBx ee
     replace HBu := bF6 HBu ee
     replace HBv := bF6 HBv ee
     clear ee
     clear hI hZ
     go_wp2_with (fail)
     have z := kc6 HBs; have y := kc6 HBx
     refine bodyPost_ret (v := .tuple #[.agg #[.slice aL n cap, .int .i64 (iq : Int), .int .i64 (deep : Int), .bool true, .int .i64 l_, .int .i64 c_], .agg #[.int .i64 kq, .string sq, .int .i64 nq, .slice aq mq cq, .int .i64 uq, .int .i64 vq]]) (by clear HF H HBs HBx HBu HBv; simp [results, Try.results15, go_sem, z, y]) rfl ?_
     exact ⟨_, _, _, _, _, _, _, _, _, _, rfl, refBelow HF.out⟩
   rw [hx] at hr
   first | simp only at hr | simp only [andT] at hr
   clear rc sc xc ic
   refine (HQ.out f (Nat.le_refl _) (i + 1) (deep + 1) _ _ _ _ hd1 (refTok HF.out H.out) hn hx).mono ?_
   rintro _ w11 ⟨ax, mx, cx, rfl, hb, hm⟩
   replace HBr := kB HBr hb
   replace HBs := kB HBs hb
   replace HBx := kB HBx hb
   replace HBi := kB HBi hb
   replace HF := kF HF hb
   have hs11 := hb.size
   clear hb
   have HMx := Lib.hid hm
   clear hm
   simp only [rdV, exV]
   rw [show ((deep + 1 : Nat) : Int) = (deep : Int) + 1 from rfl]
   have hfw : i + 1 < j ∧ j ≤ ts.length := readE_fwd f .pat (i + 1) (deep + 1) x j hx
   clear HBi
   clear hI
   have rc := kc6 HBr; have sc := kc6 HBs; have xc := kc6 HBx
   have hI := i012_0 w w11
   go_wp2_with (fail)
   have HYw : Hid (Mem (NwS (Bt w10.heap.size w11.heap.size) w11.heap.size) w11 _ _) := Lib.hid (memS_bt HMx.out (by omega))
   have HYx : Hid (Mem (NwS (Av w10.heap.size w11.heap.size (w11.heap.size + 1)) w11.heap.size) w11 _ _) := Lib.hid (memS_av (g := w11.heap.size) (k := (w11.heap.size + 1)) HMx.out (by omega) (by omega) (by omega))
   clear HMx
   clear rc sc xc
   generalize ee : World.alloc w11 _ = w12_1
   have hq1 := sizeA ee
   replace HF := fA HF ee
   replace HBr := bA HBr ee
   replace HBs := bA HBs ee
   replace HBx := bA HBx ee
   replace HYw := yA HYw ee
   replace HYx := yA HYx ee
   have HBu := nB ee (w11.heap.size)
   clear ee
   generalize ee : World.alloc w12_1 _ = w12_2
   have hq2 := sizeA ee
   replace HF := fA HF ee
   replace HBr := bA HBr ee
   replace HBs := bA HBs ee
   replace HBx := bA HBx ee
   replace HBu := bA HBu ee
   replace HYw := yA HYw ee
   replace HYx := yA HYx ee
   have HBv := nB ee (w11.heap.size + 1)
   clear ee
   generalize ee : World.alloc w12_2 _ = w12
   have hq3 := sizeA ee
   have HNEW := Lib.hid (builtS1E (A := Av w10.heap.size w11.heap.size (w11.heap.size + 1)) (base := (w11.heap.size + 2)) HYx.out ee (b := w11.heap.size + 2) (by omega) (by omega))
   replace HF := fA HF ee
   replace HBr := bA HBr ee
   replace HBs := bA HBs ee
   replace HBx := bA HBx ee
   replace HBu := bA HBu ee
   replace HBv := bA HBv ee
   replace HYw := yA HYw ee
   replace HYx := yA HYx ee
   have HSl := HNEW
   clear HNEW
   clear ee
   have hsa12 : w12.heap.size = w11.heap.size + 3 := by omega
   clear hq1 hq2 hq3
   clear hI
   clear HYx
   go_loopw [11] (fun v wr => v = .slice (some ⟨(w11.heap.size + 2), 0, none⟩) 1 1 ∧ w12 = wr) (fun _ _ => 0)
   case atStart => exact ⟨rfl, rfl⟩
   case round =>
    obtain ⟨hv, hw⟩ := hrel
    subst hv
    subst hw
    have rc := kc6 HBr; have sc := kc6 HBs; have xc := kc6 HBx; have uc := kc6 HBu; have vc := kc6 HBv
    have hI := i012_01_0 w w11 w12
    have hZ := i012_013 w w11
    go_wp2_with (fail)
    rcases hcl : isT ts j 6 wClose
    rotate_left
    ·
     first | simp only [hcl, if_true] at hr | simp only [takeT, hcl, if_true] at hr
     cases hr
     clear rc sc xc uc vc
     refine (takeR_ok _ (refTok HF.out H.out) hcl (by decide)).mono ?_
     rintro _ w13 ⟨rfl, hb⟩
     replace HBr := kB HBr hb
     replace HBs := kB HBs hb
     replace HBx := kB HBx hb
     replace HBu := kB HBu hb
     replace HBv := kB HBv hb
     replace HYw := kY HYw hb
     replace HSl := kS HSl hb
     replace HF := kF HF hb
     have hs13 := hb.size
     clear hb
     simp only [rdV]
     clear hI hZ
     have rc := kc6 HBr; have sc := kc6 HBs; have xc := kc6 HBx; have uc := kc6 HBu; have vc := kc6 HBv
     have hI := i012_01_0 w w11 w13
     go_wp2_with (fail)
     clear rc sc xc uc vc
     generalize ee : World.setCell _ ⟨w11.heap.size, 5, none⟩ _ = w14_1
     have hq1 := sizeS6 ee
     replace HF := fN6 HF ee
     replace HBr := bF6 HBr ee
     replace HBs := bF6 HBs ee
     replace HBx := bF6 HBx ee
     replace HBu := bS6 HBu ee
     replace HBv := bF6 HBv ee
     replace HYw := yS6 HYw ee
     replace HSl := sS6 HSl ee
     clear ee
     generalize ee : World.setCell w14_1 _ _ = w14
     have hq2 := sizeS1 ee
     replace HF := fN1 HF ee
     replace HBr := bF1 HBr ee
     replace HBs := bF1 HBs ee
     replace HBx := bF1 HBx ee
     replace HBu : Hid (Bo w14 w11.heap.size 47 #[.slice aL n cap, .int .i64 ((j : Int) + 1), .int .i64 (deep : Int), .bool false, .int .i64 a0, .int .i64 b0]) := Lib.hid (by rw [← ee]; exact HBu.out.set 2 (.int .i64 (deep : Int)))
     replace HBv := bF1 HBv ee
     replace HYw := yS1 HYw ee
     replace HSl := sS1 HSl ee
     clear ee
     have hsz14 : w14.heap.size = w13.heap.size := by omega
     clear hq1 hq2
     clear hI
     have rc := kc6 HBr; have sc := kc6 HBs; have xc := kc6 HBx; have uc := kc6 HBu; have vc := kc6 HBv
     have hI := i012_01_0 w w11 w14
     have hZ := i012_01_0 w w11 w13
     clear rc sc xc uc vc
     clear hI hZ
     clear HBr
     have sc := kc6 HBs; have xc := kc6 HBx; have uc := kc6 HBu; have vc := kc6 HBv
     have hI := i12_01_0 w w11 w14
     have hZ := i12_01_0 w w11 w13
     refine wp_region_held_drew (S := fun w' => Far (fun b => b = (w.heap.size + 1) ∨ b = (w.heap.size + 2)) (w14) w') (by kernel_rfl) (Far.of (below_drew _)) (fun hS40 => ?_)
     refine takeA 0 (v := ?_) rfl ?_ ?_
     rotate_left
     · (intro w hSw; (try dsimp only at hSw); replace uc := Far.c6z uc hSw; go_simp; try with_reducible rfl)
     try simp only [Act.put, pu1, pu2, pu3]
     refine takeA 1 (v := ?_) rfl ?_ ?_
     rotate_left
     · (intro w hSw; (try dsimp only at hSw); replace vc := Far.c6z vc hSw; go_simp; try with_reducible rfl)
     try simp only [Act.put, pu1, pu2, pu3]

     refine callA 2 rfl fun K hK => ?_
     go_simp
     refine hK.out _ _ ?_ (fun hS41 => ?_)
     · exact (by refine Far.trans ?_ (Far.of (below_drew _)); (iterate 6 (refine Far.setCell (p := ⟨(w.heap.size + 1), _, none⟩) ?_ (.inl rfl) _)); exact Far.refl _ _)
     clear hK K

     clear sc xc uc vc
     generalize ee : ((((((w14.setCell ⟨(w.heap.size + 1), 0, none⟩ (.slice aL n cap)).setCell ⟨(w.heap.size + 1), 1, none⟩ (.int .i64 ((j : Int) + 1))).setCell ⟨(w.heap.size + 1), 2, none⟩ (.int .i64 (deep : Int))).setCell ⟨(w.heap.size + 1), 3, none⟩ (.bool false)).setCell ⟨(w.heap.size + 1), 4, none⟩ (.int .i64 a0)).setCell ⟨(w.heap.size + 1), 5, none⟩ (.int .i64 b0)) = w15_1 at *
     have hq1 := sizeS6 ee
     replace HF := fN6 HF ee
     replace HBs := bS6 HBs ee
     replace HBx := bF6 HBx ee
     replace HBu := bF6 HBu ee
     replace HBv := bF6 HBv ee
     replace HYw := yS6 HYw ee
     replace HSl := sS6 HSl ee
     clear ee
     generalize ee : (w15_1.drew) = w15 at *
     have hq2 := sizeD ee
     replace HF := fD HF ee
     replace HBs := bD HBs ee
     replace HBx := bD HBx ee
     replace HBu := bD HBu ee
     replace HBv := bD HBv ee
     replace HYw := yD HYw ee
     replace HSl := sD HSl ee
     clear ee
     have hsa15 : w15.heap.size = w13.heap.size + 0 := by omega
     clear hq1 hq2
     clear hI hZ
     have sc := kc6 HBs; have xc := kc6 HBx; have uc := kc6 HBu; have vc := kc6 HBv
     have hI := i12_01_0 w w11 w15
     have hZ := i12_01_0 w w11 w13
     refine callA 3 rfl fun K hK => ?_
     go_simp
     refine hK.out _ _ ?_ (fun hS42 => ?_)
     · exact (by (iterate 6 (refine Far.setCell (p := ⟨(w.heap.size + 2), _, none⟩) ?_ (.inr rfl) _)); exact hS41)
     clear hK K
     refine wpAnyH_done (by kernel_rfl) ?_ _

     clear sc xc uc vc
     generalize ee : World.setCell _ ⟨(w.heap.size + 2), 5, none⟩ _ = w16
     have hsz16 := sizeS6 ee
     replace HF := fN6 HF ee
     replace HBs := bF6 HBs ee
     replace HBx := bS6 HBx ee
     replace HBu := bF6 HBu ee
     replace HBv := bF6 HBv ee
     replace HYw := yS6 HYw ee
     replace HSl := sS6 HSl ee
     clear ee
     clear hI hZ
     go_wp2_with (fail)
     have z := kc6 HBs; have y := kc6 HBx
     refine bodyPost_ret (v := .tuple #[.agg #[.slice aL n cap, .int .i64 ((j : Int) + 1), .int .i64 (deep : Int), .bool false, .int .i64 a0, .int .i64 b0], .agg #[.int .i64 x.kind, .string x.name, .int .i64 x.n, .slice ax mx cx, .int .i64 x.line, .int .i64 x.col]]) (by clear HF H HBs HBx HBu HBv HYw HSl; simp [results, Try.results15, go_sem, z, y]) rfl ?_
     exact ⟨_, _, _, rfl, refBelow HF.out, (bt_nw (base := w.heap.size) HYw.out (by omega))⟩
    first | simp only [hcl, Bool.false_eq_true, if_false] at hr | simp only [takeT, hcl, Bool.false_eq_true, if_false] at hr
    cases hr
    clear rc sc xc uc vc
    refine (takeR_no _ (refTok HF.out H.out) hcl).mono ?_
    rintro _ w13 ⟨rfl, hb⟩
    replace HBr := kB HBr hb
    replace HBs := kB HBs hb
    replace HBx := kB HBx hb
    replace HBu := kB HBu hb
    replace HBv := kB HBv hb
    replace HYw := kY HYw hb
    replace HSl := kS HSl hb
    replace HF := kF HF hb
    have hs13 := hb.size
    clear hb
    simp only [rdV]
    clear hI hZ
    have rc := kc6 HBr; have sc := kc6 HBs; have xc := kc6 HBx; have uc := kc6 HBu; have vc := kc6 HBv
    have hI := i012_01_0 w w11 w13
    go_wp2_with (fail)
    clear rc sc xc uc vc
    generalize ee : World.setCell _ ⟨w11.heap.size, 5, none⟩ _ = w14_1
    have hq1 := sizeS6 ee
    replace HF := fN6 HF ee
    replace HBr := bF6 HBr ee
    replace HBs := bF6 HBs ee
    replace HBx := bF6 HBx ee
    replace HBu := bS6 HBu ee
    replace HBv := bF6 HBv ee
    replace HYw := yS6 HYw ee
    replace HSl := sS6 HSl ee
    clear ee
    generalize ee : World.setCell w14_1 _ _ = w14
    have hq2 := sizeS1 ee
    replace HF := fN1 HF ee
    replace HBr := bF1 HBr ee
    replace HBs := bF1 HBs ee
    replace HBx := bF1 HBx ee
    replace HBu : Hid (Bo w14 w11.heap.size 47 #[.slice aL n cap, .int .i64 (j : Int), .int .i64 (deep : Int), .bool true, .int .i64 (nowT ts j).l, .int .i64 (nowT ts j).c]) := Lib.hid (by rw [← ee]; exact HBu.out.set 2 (.int .i64 (deep : Int)))
    replace HBv := bF1 HBv ee
    replace HYw := yS1 HYw ee
    replace HSl := sS1 HSl ee
    clear ee
    have hsz14 : w14.heap.size = w13.heap.size := by omega
    clear hq1 hq2
    clear hI
    have rc := kc6 HBr; have sc := kc6 HBs; have xc := kc6 HBx; have uc := kc6 HBu; have vc := kc6 HBv
    have hI := i012_01_0 w w11 w14
    have hZ := i012_01_0 w w11 w13
    clear rc sc xc uc vc
    clear hI hZ
    clear HBr
    have sc := kc6 HBs; have xc := kc6 HBx; have uc := kc6 HBu; have vc := kc6 HBv
    have hI := i12_01_0 w w11 w14
    have hZ := i12_01_0 w w11 w13
    refine wp_region_held_drew (S := fun w' => Far (fun b => b = (w.heap.size + 1) ∨ b = (w.heap.size + 2)) (w14) w') (by kernel_rfl) (Far.of (below_drew _)) (fun hS40 => ?_)
    refine takeA 0 (v := ?_) rfl ?_ ?_
    rotate_left
    · (intro w hSw; (try dsimp only at hSw); replace uc := Far.c6z uc hSw; go_simp; try with_reducible rfl)
    try simp only [Act.put, pu1, pu2, pu3]
    refine takeA 1 (v := ?_) rfl ?_ ?_
    rotate_left
    · (intro w hSw; (try dsimp only at hSw); replace vc := Far.c6z vc hSw; go_simp; try with_reducible rfl)
    try simp only [Act.put, pu1, pu2, pu3]

    refine callA 2 rfl fun K hK => ?_
    go_simp
    refine hK.out _ _ ?_ (fun hS41 => ?_)
    · exact (by refine Far.trans ?_ (Far.of (below_drew _)); (iterate 6 (refine Far.setCell (p := ⟨(w.heap.size + 1), _, none⟩) ?_ (.inl rfl) _)); exact Far.refl _ _)
    clear hK K

    clear sc xc uc vc
    generalize ee : ((((((w14.setCell ⟨(w.heap.size + 1), 0, none⟩ (.slice aL n cap)).setCell ⟨(w.heap.size + 1), 1, none⟩ (.int .i64 (j : Int))).setCell ⟨(w.heap.size + 1), 2, none⟩ (.int .i64 (deep : Int))).setCell ⟨(w.heap.size + 1), 3, none⟩ (.bool true)).setCell ⟨(w.heap.size + 1), 4, none⟩ (.int .i64 (nowT ts j).l)).setCell ⟨(w.heap.size + 1), 5, none⟩ (.int .i64 (nowT ts j).c)) = w15_1 at *
    have hq1 := sizeS6 ee
    replace HF := fN6 HF ee
    replace HBs := bS6 HBs ee
    replace HBx := bF6 HBx ee
    replace HBu := bF6 HBu ee
    replace HBv := bF6 HBv ee
    replace HYw := yS6 HYw ee
    replace HSl := sS6 HSl ee
    clear ee
    generalize ee : (w15_1.drew) = w15 at *
    have hq2 := sizeD ee
    replace HF := fD HF ee
    replace HBs := bD HBs ee
    replace HBx := bD HBx ee
    replace HBu := bD HBu ee
    replace HBv := bD HBv ee
    replace HYw := yD HYw ee
    replace HSl := sD HSl ee
    clear ee
    have hsa15 : w15.heap.size = w13.heap.size + 0 := by omega
    clear hq1 hq2
    clear hI hZ
    have sc := kc6 HBs; have xc := kc6 HBx; have uc := kc6 HBu; have vc := kc6 HBv
    have hI := i12_01_0 w w11 w15
    have hZ := i12_01_0 w w11 w13
    refine callA 3 rfl fun K hK => ?_
    go_simp
    refine hK.out _ _ ?_ (fun hS42 => ?_)
    · exact (by (iterate 6 (refine Far.setCell (p := ⟨(w.heap.size + 2), _, none⟩) ?_ (.inr rfl) _)); exact hS41)
    clear hK K
    refine wpAnyH_done (by kernel_rfl) ?_ _

    clear sc xc uc vc
    generalize ee : World.setCell _ ⟨(w.heap.size + 2), 5, none⟩ _ = w16
    have hsz16 := sizeS6 ee
    replace HF := fN6 HF ee
    replace HBs := bF6 HBs ee
    replace HBx := bS6 HBx ee
    replace HBu := bF6 HBu ee
    replace HBv := bF6 HBv ee
    replace HYw := yS6 HYw ee
    replace HSl := sS6 HSl ee
    clear ee
    clear hI hZ
    go_wp2_with (fail)
    have z := kc6 HBs; have y := kc6 HBx
    refine bodyPost_ret (v := .tuple #[.agg #[.slice aL n cap, .int .i64 (j : Int), .int .i64 (deep : Int), .bool true, .int .i64 (nowT ts j).l, .int .i64 (nowT ts j).c], .agg #[.int .i64 x.kind, .string x.name, .int .i64 x.n, .slice ax mx cx, .int .i64 x.line, .int .i64 x.col]]) (by clear HF H HBs HBx HBu HBv HYw HSl; simp [results, Try.results15, go_sem, z, y]) rfl ?_
    exact ⟨_, _, _, _, _, _, _, _, _, _, rfl, refBelow HF.out⟩
  have eu : ((nowT ts (i + 1)).k == 3) = true := by simp [hu]
  rw [if_pos hu] at hr
  clear hu
  clear hI hZ
  have rc := kc6 HBr; have sc := kc6 HBs; have xc := kc6 HBx; have ic := kc6 HBi
  have hI := i012_0_0 w w8 w10
  go_wp2_with (fail)
  rcases hx : readE ts f .pat (i + 1) (deep + 1) with _ | ⟨x, j⟩ | ⟨l_, c_⟩
  · (rw [hx] at hr; cases hr)
  rotate_left
  ·
   rw [hx] at hr
   first | simp only at hr | simp only [andT] at hr
   cases hr
   clear rc sc xc ic
   refine (HQ.out f (Nat.le_refl _) (i + 1) (deep + 1) _ _ _ _ hd1 (refTok HF.out H.out) hn hx).mono ?_
   rintro _ w11 ⟨iq, dq, kq, sq, nq, aq, mq, cq, uq, vq, rfl, hb⟩
   replace HBr := kB HBr hb
   replace HBs := kB HBs hb
   replace HBx := kB HBx hb
   replace HBi := kB HBi hb
   replace HF := kF HF hb
   have hs11 := hb.size
   clear hb
   simp only [rdV]
   clear hI
   have rc := kc6 HBr; have sc := kc6 HBs; have xc := kc6 HBx; have ic := kc6 HBi
   have hI := i012_0_0 w w8 w11
   go_wp2_with (fail)
   clear rc sc xc ic
   generalize ee : World.alloc w11 _ = w12_1
   have hq1 := sizeA ee
   replace HF := fA HF ee
   replace HBr := bA HBr ee
   replace HBs := bA HBs ee
   replace HBx := bA HBx ee
   replace HBi := bA HBi ee
   have HBu := nB ee (w11.heap.size)
   clear ee
   generalize ee : World.alloc w12_1 _ = w12_2
   have hq2 := sizeA ee
   replace HF := fA HF ee
   replace HBr := bA HBr ee
   replace HBs := bA HBs ee
   replace HBx := bA HBx ee
   replace HBi := bA HBi ee
   replace HBu := bA HBu ee
   have HBv := nB ee (w11.heap.size + 1)
   clear ee
   generalize ee : World.alloc w12_2 _ = w12
   have hq3 := sizeA ee
   replace HF := fA HF ee
   replace HBr := bA HBr ee
   replace HBs := bA HBs ee
   replace HBx := bA HBx ee
   replace HBi := bA HBi ee
   replace HBu := bA HBu ee
   replace HBv := bA HBv ee
   have HBrow := nB ee (w11.heap.size + 2)
   clear ee
   have hsa12 : w12.heap.size = w11.heap.size + 3 := by omega
   clear hq1 hq2 hq3
   clear hI
   go_loopw [11] (fun v wr => v = .slice (some ⟨(w11.heap.size + 2), 0, none⟩) 1 1 ∧ w12 = wr) (fun _ _ => 0)
   case atStart => exact ⟨rfl, rfl⟩
   case round =>
    obtain ⟨hv, hw⟩ := hrel
    subst hv
    subst hw
    have rc := kc6 HBr; have sc := kc6 HBs; have xc := kc6 HBx; have ic := kc6 HBi; have uc := kc6 HBu; have vc := kc6 HBv; have rowc := kc6 HBrow
    have hI := i012_0_012_0 w w8 w11 w12
    have hZ := i012_0_0123 w w8 w11
    go_wp2_with (fail)
    clear rc sc xc ic uc vc rowc
    refine (takeR_bad _ (refTok HF.out H.out)).mono ?_
    rintro _ w13 ⟨rfl, hb⟩
    replace HBr := kB HBr hb
    replace HBs := kB HBs hb
    replace HBx := kB HBx hb
    replace HBi := kB HBi hb
    replace HBu := kB HBu hb
    replace HBv := kB HBv hb
    replace HBrow := kB HBrow hb
    replace HF := kF HF hb
    have hs13 := hb.size
    clear hb
    simp only [rdV]
    clear hI hZ
    have rc := kc6 HBr; have sc := kc6 HBs; have xc := kc6 HBx; have ic := kc6 HBi; have uc := kc6 HBu; have vc := kc6 HBv; have rowc := kc6 HBrow
    have hI := i012_0_012_0 w w8 w11 w13
    go_wp2_with (fail)
    clear rc sc xc ic uc vc rowc
    generalize ee : World.setCell _ ⟨w11.heap.size, 5, none⟩ _ = w14_1
    have hq1 := sizeS6 ee
    replace HF := fN6 HF ee
    replace HBr := bF6 HBr ee
    replace HBs := bF6 HBs ee
    replace HBx := bF6 HBx ee
    replace HBi := bF6 HBi ee
    replace HBu := bS6 HBu ee
    replace HBv := bF6 HBv ee
    replace HBrow := bF6 HBrow ee
    clear ee
    generalize ee : World.setCell w14_1 _ _ = w14
    have hq2 := sizeS1 ee
    replace HF := fN1 HF ee
    replace HBr := bF1 HBr ee
    replace HBs := bF1 HBs ee
    replace HBx := bF1 HBx ee
    replace HBi := bF1 HBi ee
    replace HBu : Hid (Bo w14 w11.heap.size 47 #[.slice aL n cap, .int .i64 (iq : Int), .int .i64 (deep : Int), .bool true, .int .i64 l_, .int .i64 c_]) := Lib.hid (by rw [← ee]; exact HBu.out.set 2 (.int .i64 (deep : Int)))
    replace HBv := bF1 HBv ee
    replace HBrow := bF1 HBrow ee
    clear ee
    have hsz14 : w14.heap.size = w13.heap.size := by omega
    clear hq1 hq2
    clear hI
    have rc := kc6 HBr; have sc := kc6 HBs; have xc := kc6 HBx; have ic := kc6 HBi; have uc := kc6 HBu; have vc := kc6 HBv; have rowc := kc6 HBrow
    have hI := i012_0_012_0 w w8 w11 w14
    have hZ := i012_0_012_0 w w8 w11 w13
    clear rc sc xc ic uc vc rowc
    clear hI hZ
    clear HBr HBi HBrow
    have sc := kc6 HBs; have xc := kc6 HBx; have uc := kc6 HBu; have vc := kc6 HBv
    have hI := i12_01_0 w w11 w14
    have hZ := i12_01_0 w w11 w13
    refine wp_region_held_drew (S := fun w' => Far (fun b => b = (w.heap.size + 1) ∨ b = (w.heap.size + 2)) (w14) w') (by kernel_rfl) (Far.of (below_drew _)) (fun hS40 => ?_)
    refine takeA 0 (v := ?_) rfl ?_ ?_
    rotate_left
    · (intro w hSw; (try dsimp only at hSw); replace uc := Far.c6z uc hSw; go_simp; try with_reducible rfl)
    try simp only [Act.put, pu1, pu2, pu3]
    refine takeA 1 (v := ?_) rfl ?_ ?_
    rotate_left
    · (intro w hSw; (try dsimp only at hSw); replace vc := Far.c6z vc hSw; go_simp; try with_reducible rfl)
    try simp only [Act.put, pu1, pu2, pu3]

    refine callA 2 rfl fun K hK => ?_
    go_simp
    refine hK.out _ _ ?_ (fun hS41 => ?_)
    · exact (by refine Far.trans ?_ (Far.of (below_drew _)); (iterate 6 (refine Far.setCell (p := ⟨(w.heap.size + 1), _, none⟩) ?_ (.inl rfl) _)); exact Far.refl _ _)
    clear hK K

    clear sc xc uc vc
    generalize ee : ((((((w14.setCell ⟨(w.heap.size + 1), 0, none⟩ (.slice aL n cap)).setCell ⟨(w.heap.size + 1), 1, none⟩ (.int .i64 (iq : Int))).setCell ⟨(w.heap.size + 1), 2, none⟩ (.int .i64 (deep : Int))).setCell ⟨(w.heap.size + 1), 3, none⟩ (.bool true)).setCell ⟨(w.heap.size + 1), 4, none⟩ (.int .i64 l_)).setCell ⟨(w.heap.size + 1), 5, none⟩ (.int .i64 c_)) = w15_1 at *
    have hq1 := sizeS6 ee
    replace HF := fN6 HF ee
    replace HBs := bS6 HBs ee
    replace HBx := bF6 HBx ee
    replace HBu := bF6 HBu ee
    replace HBv := bF6 HBv ee
    clear ee
    generalize ee : (w15_1.drew) = w15 at *
    have hq2 := sizeD ee
    replace HF := fD HF ee
    replace HBs := bD HBs ee
    replace HBx := bD HBx ee
    replace HBu := bD HBu ee
    replace HBv := bD HBv ee
    clear ee
    have hsa15 : w15.heap.size = w13.heap.size + 0 := by omega
    clear hq1 hq2
    clear hI hZ
    have sc := kc6 HBs; have xc := kc6 HBx; have uc := kc6 HBu; have vc := kc6 HBv
    have hI := i12_01_0 w w11 w15
    have hZ := i12_01_0 w w11 w13
    refine callA 3 rfl fun K hK => ?_
    go_simp
    refine hK.out _ _ ?_ (fun hS42 => ?_)
    · exact (by (iterate 6 (refine Far.setCell (p := ⟨(w.heap.size + 2), _, none⟩) ?_ (.inr rfl) _)); exact hS41)
    clear hK K
    refine wpAnyH_done (by kernel_rfl) ?_ _

    clear sc xc uc vc
    generalize ee : World.setCell _ ⟨(w.heap.size + 2), 5, none⟩ _ = w16
    have hsz16 := sizeS6 ee
    replace HF := fN6 HF ee
    replace HBs := bF6 HBs ee
    replace HBx := bS6 HBx ee
    replace HBu := bF6 HBu ee
    replace HBv := bF6 HBv ee
    clear ee
    clear hI hZ
    go_wp2_with (fail)
    have z := kc6 HBs; have y := kc6 HBx
    refine bodyPost_ret (v := .tuple #[.agg #[.slice aL n cap, .int .i64 (iq : Int), .int .i64 (deep : Int), .bool true, .int .i64 l_, .int .i64 c_], .agg #[.int .i64 kq, .string sq, .int .i64 nq, .slice aq mq cq, .int .i64 uq, .int .i64 vq]]) (by clear HF H HBs HBx HBu HBv; simp [results, Try.results15, go_sem, z, y]) rfl ?_
    exact ⟨_, _, _, _, _, _, _, _, _, _, rfl, refBelow HF.out⟩
  rw [hx] at hr
  first | simp only at hr | simp only [andT] at hr
  clear rc sc xc ic
  refine (HQ.out f (Nat.le_refl _) (i + 1) (deep + 1) _ _ _ _ hd1 (refTok HF.out H.out) hn hx).mono ?_
  rintro _ w11 ⟨ax, mx, cx, rfl, hb, hm⟩
  replace HBr := kB HBr hb
  replace HBs := kB HBs hb
  replace HBx := kB HBx hb
  replace HBi := kB HBi hb
  replace HF := kF HF hb
  have hs11 := hb.size
  clear hb
  have HMx := Lib.hid hm
  clear hm
  simp only [rdV, exV]
  rw [show ((deep + 1 : Nat) : Int) = (deep : Int) + 1 from rfl]
  have hfw : i + 1 < j ∧ j ≤ ts.length := readE_fwd f .pat (i + 1) (deep + 1) x j hx
  clear HBi
  clear hI
  have rc := kc6 HBr; have sc := kc6 HBs; have xc := kc6 HBx
  have hI := i012_0 w w11
  go_wp2_with (fail)
  have HYw : Hid (Mem (NwS (Bt w10.heap.size w11.heap.size) w11.heap.size) w11 _ _) := Lib.hid (memS_bt HMx.out (by omega))
  have HYx : Hid (Mem (NwS (Av w10.heap.size w11.heap.size (w11.heap.size + 1)) w11.heap.size) w11 _ _) := Lib.hid (memS_av (g := w11.heap.size) (k := (w11.heap.size + 1)) HMx.out (by omega) (by omega) (by omega))
  clear HMx
  clear rc sc xc
  generalize ee : World.alloc w11 _ = w12_1
  have hq1 := sizeA ee
  replace HF := fA HF ee
  replace HBr := bA HBr ee
  replace HBs := bA HBs ee
  replace HBx := bA HBx ee
  replace HYw := yA HYw ee
  replace HYx := yA HYx ee
  have HBu := nB ee (w11.heap.size)
  clear ee
  generalize ee : World.alloc w12_1 _ = w12_2
  have hq2 := sizeA ee
  replace HF := fA HF ee
  replace HBr := bA HBr ee
  replace HBs := bA HBs ee
  replace HBx := bA HBx ee
  replace HBu := bA HBu ee
  replace HYw := yA HYw ee
  replace HYx := yA HYx ee
  have HBv := nB ee (w11.heap.size + 1)
  clear ee
  generalize ee : World.alloc w12_2 _ = w12
  have hq3 := sizeA ee
  have HNEW := Lib.hid (builtS1E (A := Av w10.heap.size w11.heap.size (w11.heap.size + 1)) (base := (w11.heap.size + 2)) HYx.out ee (b := w11.heap.size + 2) (by omega) (by omega))
  replace HF := fA HF ee
  replace HBr := bA HBr ee
  replace HBs := bA HBs ee
  replace HBx := bA HBx ee
  replace HBu := bA HBu ee
  replace HBv := bA HBv ee
  replace HYw := yA HYw ee
  replace HYx := yA HYx ee
  have HSl := HNEW
  clear HNEW
  clear ee
  have hsa12 : w12.heap.size = w11.heap.size + 3 := by omega
  clear hq1 hq2 hq3
  clear hI
  clear HYx
  go_loopw [11] (fun v wr => Hid (FarB w.heap.size w.heap.size w wr) ∧ (w11.heap.size + 2) + 1 ≤ wr.heap.size ∧ Hid (Bo wr w.heap.size 47 #[.slice aL n cap, .int .i64 (i : Int), .int .i64 (deep : Int), .bool false, .int .i64 a0, .int .i64 b0]) ∧ Hid (Bo wr (w.heap.size + 1) 47 #[.slice none 0 0, .int .i64 0, .int .i64 0, .bool false, .int .i64 0, .int .i64 0]) ∧ Hid (Bo wr (w.heap.size + 2) 27 #[.int .i64 0, .string ⟨#[]⟩, .int .i64 0, .slice none 0 0, .int .i64 0, .int .i64 0]) ∧ Hid (Bo wr (w11.heap.size + 1) 27 #[.int .i64 x.kind, .string x.name, .int .i64 x.n, .slice ax mx cx, .int .i64 x.line, .int .i64 x.col]) ∧ Hid (Mem (NwS (Bt w10.heap.size w11.heap.size) wr.heap.size) wr (.s 6 (Ex.rows x.args)) (.slice ax mx cx)) ∧ ((∃ (l : List Ex) (jj g : Nat), readE ts g (.pats l) jj (deep + 1) = some r ∧ g ≤ f ∧ Hid (Bo wr w11.heap.size 47 #[.slice aL n cap, .int .i64 (jj : Int), .int .i64 ((deep : Int) + 1), .bool false, .int .i64 a0, .int .i64 b0]) ∧ Hid (OwnS (Av w10.heap.size w11.heap.size (w11.heap.size + 1)) (w11.heap.size + 2) 27 6 wr v (Ex.rows l)) ∧ l[0]? = some x ∧ l.length ≤ jj ∧ jj ≤ ts.length) ∨ (∃ (iq : Nat) (dq l_ c_ : Int) (av : Option Addr) (mv cv : Nat), r = .bad l_ c_ ∧ v = .slice av mv cv ∧ 2 ≤ mv ∧ Hid (Bo wr w11.heap.size 47 #[.slice aL n cap, .int .i64 (iq : Int), .int .i64 dq, .bool true, .int .i64 l_, .int .i64 c_])))) (fun v wr => measP w11.heap.size ts.length v wr)
  case atStart => exact ⟨HF, by omega, HBr, HBs, HBx, HBv, HYw, .inl ⟨[x], j, f, hr, Nat.le_refl _, HBu, HSl, rfl, by simp only [List.length_cons, List.length_nil]; omega, hfw.2⟩⟩
  case round =>
   clear HF HBr HBs HBx HBu HBv HYw HSl hr
   obtain ⟨HF, hsw, HBr, HBs, HBx, HBv, HYw, hgb⟩ := hrel
   rcases hgb with hgb | hgb
   ·
    obtain ⟨l, jj, g, hr, hg, HBu, HSl, hl0, hl1, hl2⟩ := hgb
    have hsm : l.length ≤ 1048576 := by have h1 := H.out.len.1; rw [tkRows_len] at h1; omega
    have hlp : 0 < l.length := by cases l with | nil => cases hl0 | cons _ _ => exact Nat.succ_pos _
    obtain ⟨a1, m1, c1, rfl, hm1, hm2, hm3⟩ := HSl.out.form
    rw [Ex.rows_len] at hm1
    have HM1 := Lib.hid hm1
    have hm4 : m1 ≤ 1048576 := by omega
    clear hm1 hm3
    have hnu : measP w11.heap.size ts.length (.slice a1 m1 c1) wr = ts.length + 2 - m1 := by unfold measP bad4; rw [HBu.out.cell (j := 3) rfl]; simp [lenV]
    have HNU := Lib.hid hnu
    clear hnu
    cases g with
    | zero => rw [readE] at hr; cases hr
    | succ g =>
     rw [readE] at hr
     have rc := kc6 HBr; have sc := kc6 HBs; have xc := kc6 HBx; have uc := kc6 HBu; have vc := kc6 HBv
     have hI := i012_01_0 w w11 wr
     go_wp2_with (fail)
     cases hce : isT ts jj 6 wClose with
     | true =>
      clear rc sc xc uc vc
      refine (isR_ok (s := wClose) _ (refTok HF.out H.out)).mono ?_
      rintro _ w13 ⟨rfl, hb⟩
      replace HBr := kB HBr hb
      replace HBs := kB HBs hb
      replace HBx := kB HBx hb
      replace HBu := kB HBu hb
      replace HBv := kB HBv hb
      replace HYw := kY HYw hb
      replace HSl := kS HSl hb
      replace HF := kF HF hb
      have hs13 := hb.size
      clear hb
      rw [hce]
      simp only [hce, if_true] at hr
      cases hr
      clear hI
      have rc := kc6 HBr; have sc := kc6 HBs; have xc := kc6 HBx; have uc := kc6 HBu; have vc := kc6 HBv
      have hI := i012_01_0 w w11 w13
      go_wp2_with (fail)
      clear rc sc xc uc vc
      refine (takeR_ok _ (refTok HF.out H.out) hce (by decide)).mono ?_
      rintro _ w14 ⟨rfl, hb⟩
      replace HBr := kB HBr hb
      replace HBs := kB HBs hb
      replace HBx := kB HBx hb
      replace HBu := kB HBu hb
      replace HBv := kB HBv hb
      replace HYw := kY HYw hb
      replace HSl := kS HSl hb
      replace HF := kF HF hb
      have hs14 := hb.size
      clear hb
      simp only [rdV]
      by_cases h1 : l.length = 1
      ·
       obtain rfl : m1 = 1 := by have := HM1.out; omega
       have hm9 : ((1 : Int) == 1) = true := rfl
       have HZ : Hid (appE l = x) := Lib.hid (by match l, h1, hl0 with | [e], _, h => simpa [appE] using h)
       clear hI
       have rc := kc6 HBr; have sc := kc6 HBs; have xc := kc6 HBx; have uc := kc6 HBu; have vc := kc6 HBv
       have hI := i012_01_0 w w11 w14
       go_wp2_with (fail)
       clear rc sc xc uc vc
       generalize ee : World.setCell _ ⟨w11.heap.size, 5, none⟩ _ = w15_1
       have hq1 := sizeS6 ee
       replace HF := fN6 HF ee
       replace HBr := bF6 HBr ee
       replace HBs := bF6 HBs ee
       replace HBx := bF6 HBx ee
       replace HBu := bS6 HBu ee
       replace HBv := bF6 HBv ee
       replace HYw := yS6 HYw ee
       replace HSl := sS6 HSl ee
       clear ee
       generalize ee : World.setCell w15_1 _ _ = w15
       have hq2 := sizeS1 ee
       replace HF := fN1 HF ee
       replace HBr := bF1 HBr ee
       replace HBs := bF1 HBs ee
       replace HBx := bF1 HBx ee
       replace HBu : Hid (Bo w15 w11.heap.size 47 #[.slice aL n cap, .int .i64 ((jj : Int) + 1), .int .i64 (deep : Int), .bool false, .int .i64 a0, .int .i64 b0]) := Lib.hid (by rw [← ee]; exact HBu.out.set 2 (.int .i64 (deep : Int)))
       replace HBv := bF1 HBv ee
       replace HYw := yS1 HYw ee
       replace HSl := sS1 HSl ee
       clear ee
       have hsz15 : w15.heap.size = w14.heap.size := by omega
       clear hq1 hq2
       clear hI
       have rc := kc6 HBr; have sc := kc6 HBs; have xc := kc6 HBx; have uc := kc6 HBu; have vc := kc6 HBv
       have hI := i012_01_0 w w11 w15
       have hZ := i012_01_0 w w11 w14
       clear rc sc xc uc vc
       clear hI hZ
       clear HBr
       have sc := kc6 HBs; have xc := kc6 HBx; have uc := kc6 HBu; have vc := kc6 HBv
       have hI := i12_01_0 w w11 w15
       have hZ := i12_01_0 w w11 w14
       refine wp_region_held_drew (S := fun w' => Far (fun b => b = (w.heap.size + 1) ∨ b = (w.heap.size + 2)) (w15) w') (by kernel_rfl) (Far.of (below_drew _)) (fun hS40 => ?_)
       refine takeA 0 (v := ?_) rfl ?_ ?_
       rotate_left
       · (intro w hSw; (try dsimp only at hSw); replace uc := Far.c6z uc hSw; go_simp; try with_reducible rfl)
       try simp only [Act.put, pu1, pu2, pu3]
       refine takeA 1 (v := ?_) rfl ?_ ?_
       rotate_left
       · (intro w hSw; (try dsimp only at hSw); replace vc := Far.c6z vc hSw; go_simp; try with_reducible rfl)
       try simp only [Act.put, pu1, pu2, pu3]

       refine callA 2 rfl fun K hK => ?_
       go_simp
       refine hK.out _ _ ?_ (fun hS41 => ?_)
       · exact (by refine Far.trans ?_ (Far.of (below_drew _)); (iterate 6 (refine Far.setCell (p := ⟨(w.heap.size + 1), _, none⟩) ?_ (.inl rfl) _)); exact Far.refl _ _)
       clear hK K

       clear sc xc uc vc
       generalize ee : ((((((w15.setCell ⟨(w.heap.size + 1), 0, none⟩ (.slice aL n cap)).setCell ⟨(w.heap.size + 1), 1, none⟩ (.int .i64 ((jj : Int) + 1))).setCell ⟨(w.heap.size + 1), 2, none⟩ (.int .i64 (deep : Int))).setCell ⟨(w.heap.size + 1), 3, none⟩ (.bool false)).setCell ⟨(w.heap.size + 1), 4, none⟩ (.int .i64 a0)).setCell ⟨(w.heap.size + 1), 5, none⟩ (.int .i64 b0)) = w16_1 at *
       have hq1 := sizeS6 ee
       replace HF := fN6 HF ee
       replace HBs := bS6 HBs ee
       replace HBx := bF6 HBx ee
       replace HBu := bF6 HBu ee
       replace HBv := bF6 HBv ee
       replace HYw := yS6 HYw ee
       replace HSl := sS6 HSl ee
       clear ee
       generalize ee : (w16_1.drew) = w16 at *
       have hq2 := sizeD ee
       replace HF := fD HF ee
       replace HBs := bD HBs ee
       replace HBx := bD HBx ee
       replace HBu := bD HBu ee
       replace HBv := bD HBv ee
       replace HYw := yD HYw ee
       replace HSl := sD HSl ee
       clear ee
       have hsa16 : w16.heap.size = w14.heap.size + 0 := by omega
       clear hq1 hq2
       clear hI hZ
       have sc := kc6 HBs; have xc := kc6 HBx; have uc := kc6 HBu; have vc := kc6 HBv
       have hI := i12_01_0 w w11 w16
       have hZ := i12_01_0 w w11 w14
       refine callA 3 rfl fun K hK => ?_
       go_simp
       refine hK.out _ _ ?_ (fun hS42 => ?_)
       · exact (by (iterate 6 (refine Far.setCell (p := ⟨(w.heap.size + 2), _, none⟩) ?_ (.inr rfl) _)); exact hS41)
       clear hK K
       refine wpAnyH_done (by kernel_rfl) ?_ _

       clear sc xc uc vc
       generalize ee : World.setCell _ ⟨(w.heap.size + 2), 5, none⟩ _ = w17
       have hsz17 := sizeS6 ee
       replace HF := fN6 HF ee
       replace HBs := bF6 HBs ee
       replace HBx := bS6 HBx ee
       replace HBu := bF6 HBu ee
       replace HBv := bF6 HBv ee
       replace HYw := yS6 HYw ee
       replace HSl := sS6 HSl ee
       clear ee
       clear hI hZ
       go_wp2_with (fail)
       have z := kc6 HBs; have y := kc6 HBx
       refine bodyPost_ret (v := .tuple #[.agg #[.slice aL n cap, .int .i64 ((jj : Int) + 1), .int .i64 (deep : Int), .bool false, .int .i64 a0, .int .i64 b0], .agg #[.int .i64 x.kind, .string x.name, .int .i64 x.n, .slice ax mx cx, .int .i64 x.line, .int .i64 x.col]]) (by clear HF H HBs HBx HBu HBv HYw HSl; simp [results, Try.results15, go_sem, z, y]) rfl ?_
       rw [HZ.out]
       exact ⟨_, _, _, rfl, refBelow HF.out, (bt_nw (base := w.heap.size) HYw.out (by omega))⟩
      have hm9 : ((m1 : Int) == 1) = false := by have := HM1.out; simp; omega
      have HZ : Hid (appE l = .mk 4 .empty 0 l x.line x.col) := Lib.hid (by match l, h1, hl0 with | e :: e2 :: es, _, h => (have h2 : e = x := by simpa using h); rw [← h2]; rfl)
      clear hI
      have rc := kc6 HBr; have sc := kc6 HBs; have xc := kc6 HBx; have uc := kc6 HBu; have vc := kc6 HBv
      have hI := i012_01_0 w w11 w14
      go_wp2_with (fail)
      clear rc sc xc uc vc
      generalize ee : World.setCell _ ⟨w11.heap.size, 5, none⟩ _ = w15_1
      have hq1 := sizeS6 ee
      replace HF := fN6 HF ee
      replace HBr := bF6 HBr ee
      replace HBs := bF6 HBs ee
      replace HBx := bF6 HBx ee
      replace HBu := bS6 HBu ee
      replace HBv := bF6 HBv ee
      replace HYw := yS6 HYw ee
      replace HSl := sS6 HSl ee
      clear ee
      generalize ee : World.setCell w15_1 _ _ = w15
      have hq2 := sizeS1 ee
      replace HF := fN1 HF ee
      replace HBr := bF1 HBr ee
      replace HBs := bF1 HBs ee
      replace HBx := bF1 HBx ee
      replace HBu : Hid (Bo w15 w11.heap.size 47 #[.slice aL n cap, .int .i64 ((jj : Int) + 1), .int .i64 (deep : Int), .bool false, .int .i64 a0, .int .i64 b0]) := Lib.hid (by rw [← ee]; exact HBu.out.set 2 (.int .i64 (deep : Int)))
      replace HBv := bF1 HBv ee
      replace HYw := yS1 HYw ee
      replace HSl := sS1 HSl ee
      clear ee
      have hsz15 : w15.heap.size = w14.heap.size := by omega
      clear hq1 hq2
      clear hI
      have rc := kc6 HBr; have sc := kc6 HBs; have xc := kc6 HBx; have uc := kc6 HBu; have vc := kc6 HBv
      have hI := i012_01_0 w w11 w15
      have hZ := i012_01_0 w w11 w14
      clear rc sc xc uc vc
      clear hI hZ
      clear HBr
      have sc := kc6 HBs; have xc := kc6 HBx; have uc := kc6 HBu; have vc := kc6 HBv
      have hI := i12_01_0 w w11 w15
      have hZ := i12_01_0 w w11 w14
      refine wp_region_held_drew (S := fun w' => Far (fun b => b = (w.heap.size + 1) ∨ b = (w.heap.size + 2)) (w15) w') (by kernel_rfl) (Far.of (below_drew _)) (fun hS40 => ?_)
      refine takeA 0 (v := ?_) rfl ?_ ?_
      rotate_left
      · (intro w hSw; (try dsimp only at hSw); replace uc := Far.c6z uc hSw; replace vc := Far.c6z vc hSw; go_simp; try with_reducible rfl)
      try simp only [Act.put, pu1, pu2, pu3]
      refine takeA 1 (v := ?_) rfl ?_ ?_
      rotate_left
      · (intro w hSw; (try dsimp only at hSw); replace uc := Far.c6z uc hSw; replace vc := Far.c6z vc hSw; go_simp; try with_reducible rfl)
      try simp only [Act.put, pu1, pu2, pu3]
      refine takeA 2 (v := ?_) rfl ?_ ?_
      rotate_left
      · (intro w hSw; (try dsimp only at hSw); replace uc := Far.c6z uc hSw; replace vc := Far.c6z vc hSw; go_simp; try with_reducible rfl)
      try simp only [Act.put, pu1, pu2, pu3]
      refine takeA 3 (v := ?_) rfl ?_ ?_
      rotate_left
      · (intro w hSw; (try dsimp only at hSw); replace uc := Far.c6z uc hSw; replace vc := Far.c6z vc hSw; go_simp; try with_reducible rfl)
      try simp only [Act.put, pu1, pu2, pu3]
      refine takeA 4 (v := ?_) rfl ?_ ?_
      rotate_left
      · (intro w hSw; (try dsimp only at hSw); replace uc := Far.c6z uc hSw; replace vc := Far.c6z vc hSw; go_simp; try with_reducible rfl)
      try simp only [Act.put, pu1, pu2, pu3]

      refine callA 5 rfl fun K hK => ?_
      go_simp
      refine hK.out _ _ ?_ (fun hS41 => ?_)
      · exact (by refine Far.trans ?_ (Far.of (below_drew _)); (iterate 6 (refine Far.setCell (p := ⟨(w.heap.size + 1), _, none⟩) ?_ (.inl rfl) _)); exact Far.refl _ _)
      clear hK K

      clear sc xc uc vc
      generalize ee : ((((((w15.setCell ⟨(w.heap.size + 1), 0, none⟩ (.slice aL n cap)).setCell ⟨(w.heap.size + 1), 1, none⟩ (.int .i64 ((jj : Int) + 1))).setCell ⟨(w.heap.size + 1), 2, none⟩ (.int .i64 (deep : Int))).setCell ⟨(w.heap.size + 1), 3, none⟩ (.bool false)).setCell ⟨(w.heap.size + 1), 4, none⟩ (.int .i64 a0)).setCell ⟨(w.heap.size + 1), 5, none⟩ (.int .i64 b0)) = w16_1 at *
      have hq1 := sizeS6 ee
      replace HF := fN6 HF ee
      replace HBs := bS6 HBs ee
      replace HBx := bF6 HBx ee
      replace HBu := bF6 HBu ee
      replace HBv := bF6 HBv ee
      replace HYw := yS6 HYw ee
      replace HSl := sS6 HSl ee
      clear ee
      generalize ee : (w16_1.drew) = w16 at *
      have hq2 := sizeD ee
      replace HF := fD HF ee
      replace HBs := bD HBs ee
      replace HBx := bD HBx ee
      replace HBu := bD HBu ee
      replace HBv := bD HBv ee
      replace HYw := yD HYw ee
      replace HSl := sD HSl ee
      clear ee
      have hsa16 : w16.heap.size = w14.heap.size + 0 := by omega
      clear hq1 hq2
      clear hI hZ
      have sc := kc6 HBs; have xc := kc6 HBx; have uc := kc6 HBu; have vc := kc6 HBv
      have hI := i12_01_0 w w11 w16
      have hZ := i12_01_0 w w11 w14
      refine callA 6 rfl fun K hK => ?_
      go_simp
      refine hK.out _ _ ?_ (fun hS42 => ?_)
      · exact (by (iterate 6 (refine Far.setCell (p := ⟨(w.heap.size + 2), _, none⟩) ?_ (.inr rfl) _)); exact hS41)
      clear hK K
      refine wpAnyH_done (by kernel_rfl) ?_ _

      clear sc xc uc vc
      generalize ee : World.setCell _ ⟨(w.heap.size + 2), 5, none⟩ _ = w17
      have hsz17 := sizeS6 ee
      replace HF := fN6 HF ee
      replace HBs := bF6 HBs ee
      replace HBx := bS6 HBx ee
      replace HBu := bF6 HBu ee
      replace HBv := bF6 HBv ee
      replace HYw := yS6 HYw ee
      replace HSl := sS6 HSl ee
      clear ee
      clear hI hZ
      go_wp2_with (fail)
      have z := kc6 HBs; have y := kc6 HBx
      refine bodyPost_ret (v := .tuple #[.agg #[.slice aL n cap, .int .i64 ((jj : Int) + 1), .int .i64 (deep : Int), .bool false, .int .i64 a0, .int .i64 b0], .agg #[.int .i64 4, .string ⟨#[]⟩, .int .i64 0, .slice a1 m1 c1, .int .i64 x.line, .int .i64 x.col]]) (by clear HF H HBs HBx HBu HBv HYw HSl; simp [results, Try.results15, go_sem, z, y]) rfl ?_
      rw [HZ.out]
      exact ⟨_, _, _, rfl, refBelow HF.out, (OwnS.nw (base0 := w.heap.size) HSl.out (fun b hb => Nat.le_trans (by omega) hb.1) (by omega))⟩
     | false =>
      clear rc sc xc uc vc
      refine (isR_ok (s := wClose) _ (refTok HF.out H.out)).mono ?_
      rintro _ w13 ⟨rfl, hb⟩
      replace HBr := kB HBr hb
      replace HBs := kB HBs hb
      replace HBx := kB HBx hb
      replace HBu := kB HBu hb
      replace HBv := kB HBv hb
      replace HYw := kY HYw hb
      replace HSl := kS HSl hb
      replace HF := kF HF hb
      have hs13 := hb.size
      clear hb
      rw [hce]
      simp only [hce, Bool.false_eq_true, if_false] at hr
      clear hI
      have rc := kc6 HBr; have sc := kc6 HBs; have xc := kc6 HBx; have uc := kc6 HBu; have vc := kc6 HBv
      have hI := i012_01_0 w w11 w13
      go_wp2_with (fail)
      rcases hy : readE ts g .pat jj (deep + 1) with _ | ⟨y, k⟩ | ⟨l_, c_⟩
      · (rw [hy] at hr; cases hr)
      rotate_left
      ·
       rw [hy] at hr
       first | simp only at hr | simp only [andT] at hr
       cases hr
       have HOW := HSl
       clear rc sc xc uc vc
       refine (HQ.out g (by omega) jj (deep + 1) _ _ _ _ hd1 (refTok HF.out H.out) hn hy).mono ?_
       rintro _ w14 ⟨iq, dq, kq, sq, nq, aq, mq, cq, uq, vq, rfl, hb⟩
       replace HBr := kB HBr hb
       replace HBs := kB HBs hb
       replace HBx := kB HBx hb
       replace HBu := kB HBu hb
       replace HBv := kB HBv hb
       replace HYw := kY HYw hb
       replace HSl := kS HSl hb
       replace HF := kF HF hb
       have hs14 := hb.size
       clear hb
       simp only [rdV]
       clear hI
       have rc := kc6 HBr; have sc := kc6 HBs; have xc := kc6 HBx; have uc := kc6 HBu; have vc := kc6 HBv
       have hI := i012_01_0 w w11 w14
       go_upto_region 16 with (fail)
       clear rc sc xc uc vc
       generalize ee : World.alloc w14 _ = w15_1
       have hq1 := sizeA ee
       replace HF := fA HF ee
       replace HBr := bA HBr ee
       replace HBs := bA HBs ee
       replace HBx := bA HBx ee
       replace HBu := bA HBu ee
       replace HBv := bA HBv ee
       replace HYw := yA HYw ee
       replace HSl := sA HSl ee
       have HBpp := nB ee (w14.heap.size)
       clear ee
       generalize ee : World.alloc w15_1 _ = w15
       have hq2 := sizeA ee
       replace HF := fA HF ee
       replace HBr := bA HBr ee
       replace HBs := bA HBs ee
       replace HBx := bA HBx ee
       replace HBu := bA HBu ee
       replace HBv := bA HBv ee
       replace HBpp := bA HBpp ee
       replace HYw := yA HYw ee
       replace HSl := sA HSl ee
       have HBoo := nB ee (w14.heap.size + 1)
       clear ee
       have hsa15 : w15.heap.size = w14.heap.size + 2 := by omega
       clear hq1 hq2
       clear hI
       have rc := kc6 HBr; have sc := kc6 HBs; have xc := kc6 HBx; have uc := kc6 HBu; have vc := kc6 HBv; have ppc := kc6 HBpp; have ooc := kc6 HBoo
       have hI := i012_01_01_0 w w11 w14 w15
       have hZ := i012_01_012 w w11 w14
       go_upto_region 17 with (fail)
       clear rc sc xc uc vc ppc ooc
       generalize ee : World.setCell _ ⟨w11.heap.size, 5, none⟩ _ = w16
       have hsz16 := sizeS6 ee
       replace HF := fN6 HF ee
       replace HBr := bF6 HBr ee
       replace HBs := bF6 HBs ee
       replace HBx := bF6 HBx ee
       replace HBu := bS6 HBu ee
       replace HBv := bF6 HBv ee
       replace HBpp := bF6 HBpp ee
       replace HBoo := bF6 HBoo ee
       replace HYw := yS6 HYw ee
       replace HSl := sS6 HSl ee
       clear ee
       clear hI hZ
       have rc := kc6 HBr; have sc := kc6 HBs; have xc := kc6 HBx; have uc := kc6 HBu; have vc := kc6 HBv; have ppc := kc6 HBpp; have ooc := kc6 HBoo
       have hI := i012_01_01_0 w w11 w14 w16
       have hZ := i012_01_012 w w11 w14
       go_wp2_with (first | (at_builtin; refine wpList_append_S (y := .slice a1 m1 c1) (new := [rawRow kq sq nq aq mq cq uq vq]) rfl _ _ rfl Try.underlying23 info_ex rfl (by decide) rfl rfl (HSl.out.alloc _) (by simp) (rawRowS HOW.out kq sq nq aq mq cq uq vq ⟨by omega, by omega, by omega⟩ (by omega) (by omega)) (by have := HM1.out; simp only [Ex.rows_len, List.length_cons, List.length_nil]; omega) (by have := HM1.out; simp only [Ex.rows_len, List.length_cons, List.length_nil]; omega) (by rw [World.size_alloc]; omega) ?_; intro vA w9 ho hgr; have HO9 := Lib.hid ho; clear ho; have HG9 := Lib.hid hgr; clear hgr))
       have hob : ∀ k, (Value.slice a1 m1 c1).ownBlock = some k → (w11.heap.size + 2) ≤ k := fun k hk => (HSl.out.lt k hk).1
       clear rc sc xc uc vc ppc ooc
       have hs9 : w16.heap.size + 1 ≤ w9.heap.size := by have h := HG9.out.size; rw [World.size_alloc] at h; exact h
       replace HF := Lib.hid ((HF.out.alloc _).grown HG9.out fun k hk => by have := hob k hk; omega)
       replace HYw := Lib.hid (memS_grown (memS_alloc HYw.out (.cells #[.int .i64 kq, .string sq, .int .i64 nq, .slice aq mq cq, .int .i64 uq, .int .i64 vq] 27)) HG9.out fun k hk => by have := hob k hk; unfold Bt; omega)
       replace HBr := Lib.hid ((HBr.out.alloc _).grown HG9.out fun k hk => by have := hob k hk; omega)
       replace HBs := Lib.hid ((HBs.out.alloc _).grown HG9.out fun k hk => by have := hob k hk; omega)
       replace HBx := Lib.hid ((HBx.out.alloc _).grown HG9.out fun k hk => by have := hob k hk; omega)
       replace HBu := Lib.hid ((HBu.out.alloc _).grown HG9.out fun k hk => by have := hob k hk; omega)
       replace HBv := Lib.hid ((HBv.out.alloc _).grown HG9.out fun k hk => by have := hob k hk; omega)
       obtain ⟨a2, m2, c2, rfl, hm5, _, _⟩ := HO9.out.form
       simp only [List.length_append, Ex.rows_len, List.length_cons, List.length_nil] at hm5
       have hpk : measP w11.heap.size ts.length (.slice a2 m2 c2) w9 = 0 := by unfold measP bad4; rw [HBu.out.cell (j := 3) rfl]; rfl
       go_roundw
       case rel => exact ⟨HF, by omega, HBr, HBs, HBx, HBv, HYw, .inr ⟨_, _, _, _, _, _, _, rfl, rfl, by have := HM1.out; omega, HBu⟩⟩
       case measure => rw [hpk, HNU.out]; have := HM1.out; omega
      rw [hy] at hr
      first | simp only at hr | simp only [andT] at hr
      have HOW := HSl
      clear rc sc xc uc vc
      refine (HQ.out g (by omega) jj (deep + 1) _ _ _ _ hd1 (refTok HF.out H.out) hn hy).mono ?_
      rintro _ w14 ⟨ay, my, cy, rfl, hb, hm⟩
      replace HBr := kB HBr hb
      replace HBs := kB HBs hb
      replace HBx := kB HBx hb
      replace HBu := kB HBu hb
      replace HBv := kB HBv hb
      replace HYw := kY HYw hb
      replace HSl := kS HSl hb
      replace HF := kF HF hb
      have hs14 := hb.size
      clear hb
      have HMy := Lib.hid hm
      clear hm
      simp only [rdV, exV]
      have hfk : jj < k ∧ k ≤ ts.length := readE_fwd g .pat jj (deep + 1) y k hy
      clear hI
      have rc := kc6 HBr; have sc := kc6 HBs; have xc := kc6 HBx; have uc := kc6 HBu; have vc := kc6 HBv
      have hI := i012_01_0 w w11 w14
      go_upto_region 16 with (fail)
      clear rc sc xc uc vc
      generalize ee : World.alloc w14 _ = w15_1
      have hq1 := sizeA ee
      replace HF := fA HF ee
      replace HBr := bA HBr ee
      replace HBs := bA HBs ee
      replace HBx := bA HBx ee
      replace HBu := bA HBu ee
      replace HBv := bA HBv ee
      replace HMy := mA HMy ee
      replace HYw := yA HYw ee
      replace HSl := sA HSl ee
      have HBpp := nB ee (w14.heap.size)
      clear ee
      generalize ee : World.alloc w15_1 _ = w15
      have hq2 := sizeA ee
      replace HF := fA HF ee
      replace HBr := bA HBr ee
      replace HBs := bA HBs ee
      replace HBx := bA HBx ee
      replace HBu := bA HBu ee
      replace HBv := bA HBv ee
      replace HBpp := bA HBpp ee
      replace HMy := mA HMy ee
      replace HYw := yA HYw ee
      replace HSl := sA HSl ee
      have HBoo := nB ee (w14.heap.size + 1)
      clear ee
      have hsa15 : w15.heap.size = w14.heap.size + 2 := by omega
      clear hq1 hq2
      clear hI
      have rc := kc6 HBr; have sc := kc6 HBs; have xc := kc6 HBx; have uc := kc6 HBu; have vc := kc6 HBv; have ppc := kc6 HBpp; have ooc := kc6 HBoo
      have hI := i012_01_01_0 w w11 w14 w15
      have hZ := i012_01_012 w w11 w14
      go_upto_region 17 with (fail)
      clear rc sc xc uc vc ppc ooc
      generalize ee : World.setCell _ ⟨w11.heap.size, 5, none⟩ _ = w16
      have hsz16 := sizeS6 ee
      replace HF := fN6 HF ee
      replace HBr := bF6 HBr ee
      replace HBs := bF6 HBs ee
      replace HBx := bF6 HBx ee
      replace HBu := bS6 HBu ee
      replace HBv := bF6 HBv ee
      replace HBpp := bF6 HBpp ee
      replace HBoo := bF6 HBoo ee
      replace HMy := mS6 HMy ee
      replace HYw := yS6 HYw ee
      replace HSl := sS6 HSl ee
      clear ee
      clear hI hZ
      have rc := kc6 HBr; have sc := kc6 HBs; have xc := kc6 HBx; have uc := kc6 HBu; have vc := kc6 HBv; have ppc := kc6 HBpp; have ooc := kc6 HBoo
      have hI := i012_01_01_0 w w11 w14 w16
      have hZ := i012_01_012 w w11 w14
      go_wp2_with (first | (at_builtin; refine wpList_append_S (y := .slice a1 m1 c1) (new := Ex.rows [y]) rfl _ _ rfl Try.underlying23 info_ex rfl (by decide) rfl rfl (HSl.out.alloc _) (by simp [Ex.rows_eq]) (newRowS HOW.out (fun b h1 h2 => ⟨by omega, by omega, by omega⟩) (by omega) (memNw HMy.out (by omega)) (by omega)) (by have := HM1.out; simp only [Ex.rows_len, List.length_cons, List.length_nil]; omega) (by have := HM1.out; simp only [Ex.rows_len, List.length_cons, List.length_nil]; omega) (by rw [World.size_alloc]; omega) ?_; intro vA w9 ho hgr; have HO9 := Lib.hid ho; clear ho; have HG9 := Lib.hid hgr; clear hgr))
      have hob : ∀ k, (Value.slice a1 m1 c1).ownBlock = some k → (w11.heap.size + 2) ≤ k := fun k hk => (HSl.out.lt k hk).1
      clear rc sc xc uc vc ppc ooc
      have hs9 : w16.heap.size + 1 ≤ w9.heap.size := by have h := HG9.out.size; rw [World.size_alloc] at h; exact h
      replace HF := Lib.hid ((HF.out.alloc _).grown HG9.out fun k hk => by have := hob k hk; omega)
      replace HYw := Lib.hid (memS_grown (memS_alloc HYw.out (.cells #[.int .i64 y.kind, .string y.name, .int .i64 y.n, .slice ay my cy, .int .i64 y.line, .int .i64 y.col] 27)) HG9.out fun k hk => by have := hob k hk; unfold Bt; omega)
      replace HBr := Lib.hid ((HBr.out.alloc _).grown HG9.out fun k hk => by have := hob k hk; omega)
      replace HBs := Lib.hid ((HBs.out.alloc _).grown HG9.out fun k hk => by have := hob k hk; omega)
      replace HBx := Lib.hid ((HBx.out.alloc _).grown HG9.out fun k hk => by have := hob k hk; omega)
      replace HBu := Lib.hid ((HBu.out.alloc _).grown HG9.out fun k hk => by have := hob k hk; omega)
      replace HBv := Lib.hid ((HBv.out.alloc _).grown HG9.out fun k hk => by have := hob k hk; omega)
      have HO8 : Hid (OwnS (Av w10.heap.size w11.heap.size (w11.heap.size + 1)) (w11.heap.size + 2) 27 6 w9 vA (Ex.rows (l ++ [y]))) := Lib.hid (by rw [Ex.rows_app]; exact HO9.out)
      obtain ⟨a2, m2, c2, rfl, hm5, _, _⟩ := HO8.out.form
      rw [Ex.rows_len, List.length_append, List.length_cons, List.length_nil] at hm5
      have hpk : measP w11.heap.size ts.length (.slice a2 m2 c2) w9 = ts.length + 2 - m2 := by unfold measP bad4; rw [HBu.out.cell (j := 3) rfl]; simp [lenV]
      go_roundw
      case rel => exact ⟨HF, by omega, HBr, HBs, HBx, HBv, HYw, .inl ⟨l ++ [y], k, g, hr, by omega, HBu, HO8, by rw [List.getElem?_append_left (by omega)]; exact hl0, by rw [List.length_append, List.length_cons, List.length_nil]; omega, hfk.2⟩⟩
      case measure => rw [hpk, HNU.out]; have := HM1.out; omega
   ·
    obtain ⟨iq, dq, l_, c_, av, mv, cv, rfl, rfl, hmv, HBu⟩ := hgb
    have hm9 : ((mv : Int) == 1) = false := by simp; omega
    have rc := kc6 HBr; have sc := kc6 HBs; have xc := kc6 HBx; have uc := kc6 HBu; have vc := kc6 HBv
    have hI := i012_01_0 w w11 wr
    go_wp2_with (fail)
    clear rc sc xc uc vc
    refine (takeR_bad _ (refTok HF.out H.out)).mono ?_
    rintro _ w13 ⟨rfl, hb⟩
    replace HBr := kB HBr hb
    replace HBs := kB HBs hb
    replace HBx := kB HBx hb
    replace HBu := kB HBu hb
    replace HBv := kB HBv hb
    replace HYw := kY HYw hb
    replace HF := kF HF hb
    have hs13 := hb.size
    clear hb
    simp only [rdV]
    clear hI
    have rc := kc6 HBr; have sc := kc6 HBs; have xc := kc6 HBx; have uc := kc6 HBu; have vc := kc6 HBv
    have hI := i012_01_0 w w11 w13
    go_wp2_with (fail)
    clear rc sc xc uc vc
    generalize ee : World.setCell _ ⟨w11.heap.size, 5, none⟩ _ = w14_1
    have hq1 := sizeS6 ee
    replace HF := fN6 HF ee
    replace HBr := bF6 HBr ee
    replace HBs := bF6 HBs ee
    replace HBx := bF6 HBx ee
    replace HBu := bS6 HBu ee
    replace HBv := bF6 HBv ee
    replace HYw := yS6 HYw ee
    clear ee
    generalize ee : World.setCell w14_1 _ _ = w14
    have hq2 := sizeS1 ee
    replace HF := fN1 HF ee
    replace HBr := bF1 HBr ee
    replace HBs := bF1 HBs ee
    replace HBx := bF1 HBx ee
    replace HBu : Hid (Bo w14 w11.heap.size 47 #[.slice aL n cap, .int .i64 (iq : Int), .int .i64 (deep : Int), .bool true, .int .i64 l_, .int .i64 c_]) := Lib.hid (by rw [← ee]; exact HBu.out.set 2 (.int .i64 (deep : Int)))
    replace HBv := bF1 HBv ee
    replace HYw := yS1 HYw ee
    clear ee
    have hsz14 : w14.heap.size = w13.heap.size := by omega
    clear hq1 hq2
    clear hI
    have rc := kc6 HBr; have sc := kc6 HBs; have xc := kc6 HBx; have uc := kc6 HBu; have vc := kc6 HBv
    have hI := i012_01_0 w w11 w14
    have hZ := i012_01_0 w w11 w13
    clear rc sc xc uc vc
    clear hI hZ
    clear HBr
    have sc := kc6 HBs; have xc := kc6 HBx; have uc := kc6 HBu; have vc := kc6 HBv
    have hI := i12_01_0 w w11 w14
    have hZ := i12_01_0 w w11 w13
    refine wp_region_held_drew (S := fun w' => Far (fun b => b = (w.heap.size + 1) ∨ b = (w.heap.size + 2)) (w14) w') (by kernel_rfl) (Far.of (below_drew _)) (fun hS40 => ?_)
    refine takeA 0 (v := ?_) rfl ?_ ?_
    rotate_left
    · (intro w hSw; (try dsimp only at hSw); replace uc := Far.c6z uc hSw; replace vc := Far.c6z vc hSw; go_simp; try with_reducible rfl)
    try simp only [Act.put, pu1, pu2, pu3]
    refine takeA 1 (v := ?_) rfl ?_ ?_
    rotate_left
    · (intro w hSw; (try dsimp only at hSw); replace uc := Far.c6z uc hSw; replace vc := Far.c6z vc hSw; go_simp; try with_reducible rfl)
    try simp only [Act.put, pu1, pu2, pu3]
    refine takeA 2 (v := ?_) rfl ?_ ?_
    rotate_left
    · (intro w hSw; (try dsimp only at hSw); replace uc := Far.c6z uc hSw; replace vc := Far.c6z vc hSw; go_simp; try with_reducible rfl)
    try simp only [Act.put, pu1, pu2, pu3]
    refine takeA 3 (v := ?_) rfl ?_ ?_
    rotate_left
    · (intro w hSw; (try dsimp only at hSw); replace uc := Far.c6z uc hSw; replace vc := Far.c6z vc hSw; go_simp; try with_reducible rfl)
    try simp only [Act.put, pu1, pu2, pu3]
    refine takeA 4 (v := ?_) rfl ?_ ?_
    rotate_left
    · (intro w hSw; (try dsimp only at hSw); replace uc := Far.c6z uc hSw; replace vc := Far.c6z vc hSw; go_simp; try with_reducible rfl)
    try simp only [Act.put, pu1, pu2, pu3]

    refine callA 5 rfl fun K hK => ?_
    go_simp
    refine hK.out _ _ ?_ (fun hS41 => ?_)
    · exact (by refine Far.trans ?_ (Far.of (below_drew _)); (iterate 6 (refine Far.setCell (p := ⟨(w.heap.size + 1), _, none⟩) ?_ (.inl rfl) _)); exact Far.refl _ _)
    clear hK K

    clear sc xc uc vc
    generalize ee : ((((((w14.setCell ⟨(w.heap.size + 1), 0, none⟩ (.slice aL n cap)).setCell ⟨(w.heap.size + 1), 1, none⟩ (.int .i64 (iq : Int))).setCell ⟨(w.heap.size + 1), 2, none⟩ (.int .i64 (deep : Int))).setCell ⟨(w.heap.size + 1), 3, none⟩ (.bool true)).setCell ⟨(w.heap.size + 1), 4, none⟩ (.int .i64 l_)).setCell ⟨(w.heap.size + 1), 5, none⟩ (.int .i64 c_)) = w15_1 at *
    have hq1 := sizeS6 ee
    replace HF := fN6 HF ee
    replace HBs := bS6 HBs ee
    replace HBx := bF6 HBx ee
    replace HBu := bF6 HBu ee
    replace HBv := bF6 HBv ee
    replace HYw := yS6 HYw ee
    clear ee
    generalize ee : (w15_1.drew) = w15 at *
    have hq2 := sizeD ee
    replace HF := fD HF ee
    replace HBs := bD HBs ee
    replace HBx := bD HBx ee
    replace HBu := bD HBu ee
    replace HBv := bD HBv ee
    replace HYw := yD HYw ee
    clear ee
    have hsa15 : w15.heap.size = w13.heap.size + 0 := by omega
    clear hq1 hq2
    clear hI hZ
    have sc := kc6 HBs; have xc := kc6 HBx; have uc := kc6 HBu; have vc := kc6 HBv
    have hI := i12_01_0 w w11 w15
    have hZ := i12_01_0 w w11 w13
    refine callA 6 rfl fun K hK => ?_
    go_simp
    refine hK.out _ _ ?_ (fun hS42 => ?_)
    · exact (by (iterate 6 (refine Far.setCell (p := ⟨(w.heap.size + 2), _, none⟩) ?_ (.inr rfl) _)); exact hS41)
    clear hK K
    refine wpAnyH_done (by kernel_rfl) ?_ _

    clear sc xc uc vc
    generalize ee : World.setCell _ ⟨(w.heap.size + 2), 5, none⟩ _ = w16
    have hsz16 := sizeS6 ee
    replace HF := fN6 HF ee
    replace HBs := bF6 HBs ee
    replace HBx := bS6 HBx ee
    replace HBu := bF6 HBu ee
    replace HBv := bF6 HBv ee
    replace HYw := yS6 HYw ee
    clear ee
    clear hI hZ
    go_wp2_with (fail)
    have z := kc6 HBs; have y := kc6 HBx
    refine bodyPost_ret (v := .tuple #[.agg #[.slice aL n cap, .int .i64 (iq : Int), .int .i64 (deep : Int), .bool true, .int .i64 l_, .int .i64 c_], .agg #[.int .i64 4, .string ⟨#[]⟩, .int .i64 0, .slice av mv cv, .int .i64 x.line, .int .i64 x.col]]) (by clear HF H HBs HBx HBu HBv HYw; simp [results, Try.results15, go_sem, z, y]) rfl ?_
    exact ⟨_, _, _, _, _, _, _, _, _, _, rfl, refBelow HF.out⟩
end
end Go.Proofs.Ytnmlobakiclgiaa
