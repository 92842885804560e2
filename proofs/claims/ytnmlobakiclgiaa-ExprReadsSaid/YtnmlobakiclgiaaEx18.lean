/-
 The document's reader's rank: operators of a rank. Under what the others do with less fuel.
-/
import Derived.Test.YtnmlobakiclgiaaEx17
import Derived.Deep.Cut
namespace Go.Proofs.Ytnmlobakiclgiaa
open Go.RowKit
section
variable (ts : List Tk) (aL : Option Addr) (n cap : Nat)
def ReadsK (g : Nat) : Prop := ∀ (rank i deep : Nat) (r : Rd1) (a0 b0 : Int) (w : World), 1 ≤ rank → rank ≤ 5 → deep ≤ 40 → MemW w (.s 5 (tkRows ts)) (.slice aL n cap) → n ≤ 1048576 → readE ts g (rkN rank) i deep = some r →
 Calls Try.prog 34 #[rdV aL n cap (i : Int) (deep : Int) false a0 b0, .int .i64 (rank : Int)] w (AnsR aL n cap r deep a0 b0 w)
end
def badQ (q : Nat) (w : World) : Bool :=
 match w.cell? ⟨q, 3, none⟩ with
 | some (.bool b) => b
 | _ => false
section
variable {ts : List Tk} {aL : Option Addr} {n cap : Nat}
attribute [local go_sem] tk_pos tk_text tk_kind0
set_option maxRecDepth 100000 in
set_option maxHeartbeats 20000000 in
theorem rankR_go {f rank i deep : Nat} {r : Rd1} {a0 b0 : Int} (h1 : 1 ≤ rank) (h4 : rank ≤ 4) (h : ∃ f', f' ≤ f ∧ (andT (readE ts f (.left (rank + 1)) i deep) fun x j => moreR ts f' rank x j deep) = some r) (w : World) (hd : deep ≤ 40) (hm : MemW w (.s 5 (tkRows ts)) (.slice aL n cap)) (hn : n ≤ 1048576) (HK : ∀ g, g ≤ f → ReadsK ts aL n cap g) :
  Calls Try.prog 34 #[rdV aL n cap (i : Int) (deep : Int) false a0 b0, .int .i64 (rank : Int)] w (AnsR aL n cap r deep a0 b0 w) := by
 have H := Lib.hid hm
 clear hm
 obtain ⟨f', hf', hr⟩ := h
 have hr4 : ((4 : Int) < (rank : Int)) = False := by simp; omega
 have hov : (rank : Int) + 1 ≤ 9223372036854775807 := by omega
 have HF : Hid (FarB w.heap.size w.heap.size w w) := Lib.hid (FarB.refl _ _ _)
 simp only [rdV]
 go_enter Try.func34, Try.ntmps34
 go_wp2_with (fail)
 generalize ee : World.alloc w _ = w1_1
 have hq1 := sizeA ee
 replace HF := fA HF ee
 have HBr := nB ee (w.heap.size)
 clear ee
 generalize ee : World.alloc w1_1 _ = w1_2
 have hq2 := sizeA ee
 replace HF := fA HF ee
 replace HBr := bA HBr ee
 have HBs := nB ee (w.heap.size + 1)
 clear ee
 generalize ee : World.alloc w1_2 _ = w1
 have hq3 := sizeA ee
 replace HF := fA HF ee
 replace HBr := bA HBr ee
 replace HBs := bA HBs ee
 have HBx := nB ee (w.heap.size + 2)
 clear ee
 have hsa1 : w1.heap.size = w.heap.size + 3 := by omega
 clear hq1 hq2 hq3
 have rc := kc6 HBr; have sc := kc6 HBs; have xc := kc6 HBx
 have hI := i012_0 w w1
 have hZ := i0123 w
 rcases hx : readE ts f (.left (rank + 1)) i deep with _ | ⟨x, j⟩ | ⟨l_, c_⟩
 · (rw [hx] at hr; cases hr)
 rotate_left
 ·
  rw [hx] at hr
  first | simp only at hr | simp only [andT] at hr
  cases hr
  clear rc sc xc
  refine (HK f (Nat.le_refl _) (rank + 1) _ _ _ _ _ _ (by omega) (by omega) hd (refTok HF.out H.out) hn (by rw [rkN, if_neg (by omega)]; exact hx)).mono ?_
  rintro _ w2 ⟨iq, dq, kq, sq, nq, aq, mq, cq, uq, vq, rfl, hb⟩
  replace HBr := kB HBr hb
  replace HBs := kB HBs hb
  replace HBx := kB HBx hb
  replace HF := kF HF hb
  have hs2 := hb.size
  clear hb
  simp only [rdV]
  clear hI hZ
  have rc := kc6 HBr; have sc := kc6 HBs; have xc := kc6 HBx
  have hI := i012_0 w w2
  go_wp2_with (fail)
  clear rc sc xc
  generalize ee : World.alloc w2 _ = w3_1
  have hq1 := sizeA ee
  replace HF := fA HF ee
  replace HBr := bA HBr ee
  replace HBs := bA HBs ee
  replace HBx := bA HBx ee
  have HBu := nB ee (w2.heap.size)
  clear ee
  generalize ee : World.alloc w3_1 _ = w3
  have hq2 := sizeA ee
  replace HF := fA HF ee
  replace HBr := bA HBr ee
  replace HBs := bA HBs ee
  replace HBx := bA HBx ee
  replace HBu := bA HBu ee
  have HBv := nB ee (w2.heap.size + 1)
  clear ee
  have hsa3 : w3.heap.size = w2.heap.size + 2 := by omega
  clear hq1 hq2
  clear hI
  go_loopw [] (fun wr => w3 = wr) (fun _ => 0)
  case atStart => exact rfl
  case round =>
   have hw := hrel
   subst hw
   have rc := kc6 HBr; have sc := kc6 HBs; have xc := kc6 HBx; have uc := kc6 HBu; have vc := kc6 HBv
   have hI := i012_01_0 w w2 w3
   have hZ := i012_012 w w2
   go_wp2_with (fail)
   clear rc sc xc uc vc
   refine (nowR_any _ (refTok HF.out H.out)).mono ?_
   rintro _ w4 ⟨rfl, hb⟩
   replace HBr := kB HBr hb
   replace HBs := kB HBs hb
   replace HBx := kB HBx hb
   replace HBu := kB HBu hb
   replace HBv := kB HBv hb
   replace HF := kF HF hb
   have hs4 := hb.size
   clear hb
   simp only [tkV]
   clear hI hZ
   have rc := kc6 HBr; have sc := kc6 HBs; have xc := kc6 HBx; have uc := kc6 HBu; have vc := kc6 HBv
   have hI := i012_01_0 w w2 w4
   go_wp2_with (fail)
   clear rc sc xc uc vc
   generalize ee : World.alloc w4 _ = w5
   have hsa5 := sizeA ee
   replace HF := fA HF ee
   replace HBr := bA HBr ee
   replace HBs := bA HBs ee
   replace HBx := bA HBx ee
   replace HBu := bA HBu ee
   replace HBv := bA HBv ee
   have HBk := nB ee (w4.heap.size)
   clear ee
   clear hI
   have rc := kc6 HBr; have sc := kc6 HBs; have xc := kc6 HBx; have uc := kc6 HBu; have vc := kc6 HBv; have kc := kc5 HBk
   have hI := i012_01_0_0 w w2 w4 w5
   have hZ := i012_01_01 w w2 w4
   clear rc sc xc uc vc kc
   clear hI hZ
   clear HBr HBk
   have sc := kc6 HBs; have xc := kc6 HBx; have uc := kc6 HBu; have vc := kc6 HBv
   have hI := i12_01_0 w w2 w5
   have hZ := i12_01_1 w w2 w4
   refine wp_region_held_drew (S := fun w' => Far (fun b => b = (w.heap.size + 1) ∨ b = (w.heap.size + 2)) (w5) w') (by kernel_rfl) (Far.of (below_drew _)) (fun hS40 => ?_)
   refine takeA 0 (v := ?_) rfl ?_ ?_
   rotate_left
   · (intro w hSw; (try dsimp only at hSw); replace uc := Far.c6z uc hSw; go_simp; try with_reducible rfl)
   try simp only [Act.put, pu1, pu2, pu3]
   refine takeA 1 (v := ?_) rfl ?_ ?_
   rotate_left
   · (intro w hSw; (try dsimp only at hSw); replace vc := Far.c6z vc hSw; go_simp; try with_reducible rfl)
   try simp only [Act.put, pu1, pu2, pu3]

   refine callA 2 rfl fun K hK => ?_
   go_simp
   refine hK.out _ _ ?_ (fun hS41 => ?_)
   · exact (by refine Far.trans ?_ (Far.of (below_drew _)); (iterate 6 (refine Far.setCell (p := ⟨(w.heap.size + 1), _, none⟩) ?_ (.inl rfl) _)); exact Far.refl _ _)
   clear hK K

   clear sc xc uc vc
   generalize ee : ((((((w5.setCell ⟨(w.heap.size + 1), 0, none⟩ (.slice aL n cap)).setCell ⟨(w.heap.size + 1), 1, none⟩ (.int .i64 (iq : Int))).setCell ⟨(w.heap.size + 1), 2, none⟩ (.int .i64 dq)).setCell ⟨(w.heap.size + 1), 3, none⟩ (.bool true)).setCell ⟨(w.heap.size + 1), 4, none⟩ (.int .i64 l_)).setCell ⟨(w.heap.size + 1), 5, none⟩ (.int .i64 c_)) = w6_1 at *
   have hq1 := sizeS6 ee
   replace HF := fN6 HF ee
   replace HBs := bS6 HBs ee
   replace HBx := bF6 HBx ee
   replace HBu := bF6 HBu ee
   replace HBv := bF6 HBv ee
   clear ee
   generalize ee : (w6_1.drew) = w6 at *
   have hq2 := sizeD ee
   replace HF := fD HF ee
   replace HBs := bD HBs ee
   replace HBx := bD HBx ee
   replace HBu := bD HBu ee
   replace HBv := bD HBv ee
   clear ee
   have hsa6 : w6.heap.size = w4.heap.size + 1 := by omega
   clear hq1 hq2
   clear hI hZ
   have sc := kc6 HBs; have xc := kc6 HBx; have uc := kc6 HBu; have vc := kc6 HBv
   have hI := i12_01_0 w w2 w6
   have hZ := i12_01_1 w w2 w4
   refine callA 3 rfl fun K hK => ?_
   go_simp
   refine hK.out _ _ ?_ (fun hS42 => ?_)
   · exact (by (iterate 6 (refine Far.setCell (p := ⟨(w.heap.size + 2), _, none⟩) ?_ (.inr rfl) _)); exact hS41)
   clear hK K
   refine wpAnyH_done (by kernel_rfl) ?_ _

   clear sc xc uc vc
   generalize ee : World.setCell _ ⟨(w.heap.size + 2), 5, none⟩ _ = w7
   have hsz7 := sizeS6 ee
   replace HF := fN6 HF ee
   replace HBs := bF6 HBs ee
   replace HBx := bS6 HBx ee
   replace HBu := bF6 HBu ee
   replace HBv := bF6 HBv ee
   clear ee
   clear hI hZ
   go_wp2_with (fail)
   have z := kc6 HBs; have y := kc6 HBx
   refine bodyPost_ret (v := .tuple #[.agg #[.slice aL n cap, .int .i64 (iq : Int), .int .i64 dq, .bool true, .int .i64 l_, .int .i64 c_], .agg #[.int .i64 kq, .string sq, .int .i64 nq, .slice aq mq cq, .int .i64 uq, .int .i64 vq]]) (by clear HF H HBs HBx HBu HBv; simp [results, Try.results34, go_sem, z, y]) rfl ?_
   exact ⟨_, _, _, _, _, _, _, _, _, _, rfl, refBelow HF.out⟩
 rw [hx] at hr
 first | simp only at hr | simp only [andT] at hr
 clear rc sc xc
 refine (HK f (Nat.le_refl _) (rank + 1) _ _ _ _ _ _ (by omega) (by omega) hd (refTok HF.out H.out) hn (by rw [rkN, if_neg (by omega)]; exact hx)).mono ?_
 rintro _ w2 ⟨ax, mx, cx, rfl, hb, hm⟩
 replace HBr := kB HBr hb
 replace HBs := kB HBs hb
 replace HBx := kB HBx hb
 replace HF := kF HF hb
 have hs2 := hb.size
 clear hb
 have HMx := Lib.hid hm
 clear hm
 simp only [rdV, exV]
 clear hI hZ
 have rc := kc6 HBr; have sc := kc6 HBs; have xc := kc6 HBx
 have hI := i012_0 w w2
 go_wp2_with (fail)
 have HYx : Hid (Mem (NwS (Av w1.heap.size w2.heap.size (w2.heap.size + 1)) w2.heap.size) w2 _ _) := Lib.hid (memS_av (g := w2.heap.size) (k := (w2.heap.size + 1)) HMx.out (by omega) (by omega) (by omega))
 clear HMx
 clear rc sc xc
 generalize ee : World.alloc w2 _ = w3_1
 have hq1 := sizeA ee
 replace HF := fA HF ee
 replace HBr := bA HBr ee
 replace HBs := bA HBs ee
 replace HBx := bA HBx ee
 replace HYx := yA HYx ee
 have HBu := nB ee (w2.heap.size)
 clear ee
 generalize ee : World.alloc w3_1 _ = w3
 have hq2 := sizeA ee
 replace HF := fA HF ee
 replace HBr := bA HBr ee
 replace HBs := bA HBs ee
 replace HBx := bA HBx ee
 replace HBu := bA HBu ee
 replace HYx := yA HYx ee
 have HBv := nB ee (w2.heap.size + 1)
 clear ee
 have hsa3 : w3.heap.size = w2.heap.size + 2 := by omega
 clear hq1 hq2
 clear hI
 go_loopw [] (fun wr => Hid (FarB w.heap.size w.heap.size w wr) ∧ (w2.heap.size + 1) + 1 ≤ wr.heap.size ∧ Hid (Bo wr w.heap.size 47 #[.slice aL n cap, .int .i64 (i : Int), .int .i64 (deep : Int), .bool false, .int .i64 a0, .int .i64 b0]) ∧ Hid (Bo wr (w.heap.size + 1) 47 #[.slice none 0 0, .int .i64 0, .int .i64 0, .bool false, .int .i64 0, .int .i64 0]) ∧ Hid (Bo wr (w.heap.size + 2) 27 #[.int .i64 0, .string ⟨#[]⟩, .int .i64 0, .slice none 0 0, .int .i64 0, .int .i64 0]) ∧ ((∃ (e : Ex) (jj g : Nat) (ae : Option Addr) (me ce : Nat), moreR ts g rank e jj deep = some r ∧ g ≤ f ∧ Hid (Bo wr w2.heap.size 47 #[.slice aL n cap, .int .i64 (jj : Int), .int .i64 (deep : Int), .bool false, .int .i64 a0, .int .i64 b0]) ∧ Hid (Bo wr (w2.heap.size + 1) 27 #[.int .i64 e.kind, .string e.name, .int .i64 e.n, .slice ae me ce, .int .i64 e.line, .int .i64 e.col]) ∧ Hid (Mem (NwS (Av w1.heap.size w2.heap.size (w2.heap.size + 1)) wr.heap.size) wr (.s 6 (Ex.rows e.args)) (.slice ae me ce))) ∨ (∃ (iq : Nat) (dq l_ c_ kq : Int) (sq : ByteArray) (nq : Int) (aq : Option Addr) (mq cq : Nat) (uq vq : Int), r = .bad l_ c_ ∧ Hid (Bo wr w2.heap.size 47 #[.slice aL n cap, .int .i64 (iq : Int), .int .i64 dq, .bool true, .int .i64 l_, .int .i64 c_]) ∧ Hid (Bo wr (w2.heap.size + 1) 27 #[.int .i64 kq, .string sq, .int .i64 nq, .slice aq mq cq, .int .i64 uq, .int .i64 vq])))) (fun wr => if badQ w2.heap.size wr then 0 else ts.length + 1 - posQ w2.heap.size wr)
 case atStart => exact ⟨HF, by omega, HBr, HBs, HBx, .inl ⟨x, j, f', ax, mx, cx, hr, hf', HBu, HBv, HYx⟩⟩
 case round =>
  clear HF HBr HBs HBx HBu HBv HYx hr
  obtain ⟨HF, hsw, HBr, HBs, HBx, hgb⟩ := hrel
  rcases hgb with hgb | hgb
  ·
   obtain ⟨e, jj, g, ae, me, ce, hr, hg, HBu, HBv, HYe⟩ := hgb
   have hpu : (if badQ w2.heap.size wr then 0 else ts.length + 1 - posQ w2.heap.size wr) = ts.length + 1 - jj := by unfold badQ posQ; rw [HBu.out.cell (j := 1) rfl, HBu.out.cell (j := 3) rfl]; simp
   have HNU := Lib.hid hpu
   clear hpu
   have rc := kc6 HBr; have sc := kc6 HBs; have xc := kc6 HBx; have uc := kc6 HBu; have vc := kc6 HBv
   have hI := i012_01_0 w w2 wr
   go_wp2_with (fail)
   clear rc sc xc uc vc
   refine (nowR_any _ (refTok HF.out H.out)).mono ?_
   rintro _ w4 ⟨rfl, hb⟩
   replace HBr := kB HBr hb
   replace HBs := kB HBs hb
   replace HBx := kB HBx hb
   replace HBu := kB HBu hb
   replace HBv := kB HBv hb
   replace HYe := kY HYe hb
   replace HF := kF HF hb
   have hs4 := hb.size
   clear hb
   simp only [tkV]
   by_cases h6 : (nowT ts jj).k = 6
   rotate_left
   ·
    have e6 : ((nowT ts jj).k != 6) = true := by simp [h6]
    unfold moreR at hr
    rw [if_neg (fun h => h6 h.1)] at hr
    clear hI
    have rc := kc6 HBr; have sc := kc6 HBs; have xc := kc6 HBx; have uc := kc6 HBu; have vc := kc6 HBv
    have hI := i012_01_0 w w2 w4
    go_wp2_with (fail)
    clear rc sc xc uc vc
    generalize ee : World.alloc w4 _ = w5
    have hsa5 := sizeA ee
    replace HF := fA HF ee
    replace HBr := bA HBr ee
    replace HBs := bA HBs ee
    replace HBx := bA HBx ee
    replace HBu := bA HBu ee
    replace HBv := bA HBv ee
    replace HYe := yA HYe ee
    have HBk := nB ee (w4.heap.size)
    clear ee
    clear hI
    have rc := kc6 HBr; have sc := kc6 HBs; have xc := kc6 HBx; have uc := kc6 HBu; have vc := kc6 HBv; have kc := kc5 HBk
    have hI := i012_01_0_0 w w2 w4 w5
    have hZ := i012_01_01 w w2 w4
    have hr : some (Rd1.ok e jj) = some r := hr
    cases hr
    clear rc sc xc uc vc kc
    clear hI hZ
    clear HBr HBk
    have sc := kc6 HBs; have xc := kc6 HBx; have uc := kc6 HBu; have vc := kc6 HBv
    have hI := i12_01_0 w w2 w5
    have hZ := i12_01_1 w w2 w4
    refine wp_region_held_drew (S := fun w' => Far (fun b => b = (w.heap.size + 1) ∨ b = (w.heap.size + 2)) (w5) w') (by kernel_rfl) (Far.of (below_drew _)) (fun hS40 => ?_)
    refine takeA 0 (v := ?_) rfl ?_ ?_
    rotate_left
    · (intro w hSw; (try dsimp only at hSw); replace uc := Far.c6z uc hSw; go_simp; try with_reducible rfl)
    try simp only [Act.put, pu1, pu2, pu3]
    refine takeA 1 (v := ?_) rfl ?_ ?_
    rotate_left
    · (intro w hSw; (try dsimp only at hSw); replace vc := Far.c6z vc hSw; go_simp; try with_reducible rfl)
    try simp only [Act.put, pu1, pu2, pu3]

    refine callA 2 rfl fun K hK => ?_
    go_simp
    refine hK.out _ _ ?_ (fun hS41 => ?_)
    · exact (by refine Far.trans ?_ (Far.of (below_drew _)); (iterate 6 (refine Far.setCell (p := ⟨(w.heap.size + 1), _, none⟩) ?_ (.inl rfl) _)); exact Far.refl _ _)
    clear hK K

    clear sc xc uc vc
    generalize ee : ((((((w5.setCell ⟨(w.heap.size + 1), 0, none⟩ (.slice aL n cap)).setCell ⟨(w.heap.size + 1), 1, none⟩ (.int .i64 (jj : Int))).setCell ⟨(w.heap.size + 1), 2, none⟩ (.int .i64 (deep : Int))).setCell ⟨(w.heap.size + 1), 3, none⟩ (.bool false)).setCell ⟨(w.heap.size + 1), 4, none⟩ (.int .i64 a0)).setCell ⟨(w.heap.size + 1), 5, none⟩ (.int .i64 b0)) = w6_1 at *
    have hq1 := sizeS6 ee
    replace HF := fN6 HF ee
    replace HBs := bS6 HBs ee
    replace HBx := bF6 HBx ee
    replace HBu := bF6 HBu ee
    replace HBv := bF6 HBv ee
    replace HYe := yS6 HYe ee
    clear ee
    generalize ee : (w6_1.drew) = w6 at *
    have hq2 := sizeD ee
    replace HF := fD HF ee
    replace HBs := bD HBs ee
    replace HBx := bD HBx ee
    replace HBu := bD HBu ee
    replace HBv := bD HBv ee
    replace HYe := yD HYe ee
    clear ee
    have hsa6 : w6.heap.size = w4.heap.size + 1 := by omega
    clear hq1 hq2
    clear hI hZ
    have sc := kc6 HBs; have xc := kc6 HBx; have uc := kc6 HBu; have vc := kc6 HBv
    have hI := i12_01_0 w w2 w6
    have hZ := i12_01_1 w w2 w4
    refine callA 3 rfl fun K hK => ?_
    go_simp
    refine hK.out _ _ ?_ (fun hS42 => ?_)
    · exact (by (iterate 6 (refine Far.setCell (p := ⟨(w.heap.size + 2), _, none⟩) ?_ (.inr rfl) _)); exact hS41)
    clear hK K
    refine wpAnyH_done (by kernel_rfl) ?_ _

    clear sc xc uc vc
    generalize ee : World.setCell _ ⟨(w.heap.size + 2), 5, none⟩ _ = w7
    have hsz7 := sizeS6 ee
    replace HF := fN6 HF ee
    replace HBs := bF6 HBs ee
    replace HBx := bS6 HBx ee
    replace HBu := bF6 HBu ee
    replace HBv := bF6 HBv ee
    replace HYe := yS6 HYe ee
    clear ee
    clear hI hZ
    go_wp2_with (fail)
    have z := kc6 HBs; have y := kc6 HBx
    refine bodyPost_ret (v := .tuple #[.agg #[.slice aL n cap, .int .i64 (jj : Int), .int .i64 (deep : Int), .bool false, .int .i64 a0, .int .i64 b0], .agg #[.int .i64 e.kind, .string e.name, .int .i64 e.n, .slice ae me ce, .int .i64 e.line, .int .i64 e.col]]) (by clear HF H HBs HBx HBu HBv HYe; simp [results, Try.results34, go_sem, z, y]) rfl ?_
    exact ⟨_, _, _, rfl, refBelow HF.out, av_nw HYe.out (by omega)⟩
   have e6 : ((nowT ts jj).k != 6) = false := by simp [h6]
   clear hI
   have rc := kc6 HBr; have sc := kc6 HBs; have xc := kc6 HBx; have uc := kc6 HBu; have vc := kc6 HBv
   have hI := i012_01_0 w w2 w4
   go_wp2_with (fail)
   clear rc sc xc uc vc
   generalize ee : World.alloc w4 _ = w5
   have hsa5 := sizeA ee
   replace HF := fA HF ee
   replace HBr := bA HBr ee
   replace HBs := bA HBs ee
   replace HBx := bA HBx ee
   replace HBu := bA HBu ee
   replace HBv := bA HBv ee
   replace HYe := yA HYe ee
   have HBk := nB ee (w4.heap.size)
   clear ee
   clear hI
   have rc := kc6 HBr; have sc := kc6 HBs; have xc := kc6 HBx; have uc := kc6 HBu; have vc := kc6 HBv; have kc := kc5 HBk
   have hI := i012_01_0_0 w w2 w4 w5
   have hZ := i012_01_01 w w2 w4
   refine (rbinds_any (nowT ts jj).s _).mono ?_
   rintro _ _ ⟨rfl, rfl⟩
   by_cases hb : bindsE (nowT ts jj).s = rank
   rotate_left
   ·
    have eb : (((bindsE (nowT ts jj).s : Nat) : Int) != (rank : Int)) = true := by simp; omega
    unfold moreR at hr
    rw [if_neg (fun h => hb h.2)] at hr
    go_wp2_with (fail)
    have hr : some (Rd1.ok e jj) = some r := hr
    cases hr
    clear rc sc xc uc vc kc
    clear hI hZ
    clear HBr HBk
    have sc := kc6 HBs; have xc := kc6 HBx; have uc := kc6 HBu; have vc := kc6 HBv
    have hI := i12_01_0 w w2 w5
    have hZ := i12_01_1 w w2 w4
    refine wp_region_held_drew (S := fun w' => Far (fun b => b = (w.heap.size + 1) ∨ b = (w.heap.size + 2)) (w5) w') (by kernel_rfl) (Far.of (below_drew _)) (fun hS40 => ?_)
    refine takeA 0 (v := ?_) rfl ?_ ?_
    rotate_left
    · (intro w hSw; (try dsimp only at hSw); replace uc := Far.c6z uc hSw; go_simp; try with_reducible rfl)
    try simp only [Act.put, pu1, pu2, pu3]
    refine takeA 1 (v := ?_) rfl ?_ ?_
    rotate_left
    · (intro w hSw; (try dsimp only at hSw); replace vc := Far.c6z vc hSw; go_simp; try with_reducible rfl)
    try simp only [Act.put, pu1, pu2, pu3]

    refine callA 2 rfl fun K hK => ?_
    go_simp
    refine hK.out _ _ ?_ (fun hS41 => ?_)
    · exact (by refine Far.trans ?_ (Far.of (below_drew _)); (iterate 6 (refine Far.setCell (p := ⟨(w.heap.size + 1), _, none⟩) ?_ (.inl rfl) _)); exact Far.refl _ _)
    clear hK K

    clear sc xc uc vc
    generalize ee : ((((((w5.setCell ⟨(w.heap.size + 1), 0, none⟩ (.slice aL n cap)).setCell ⟨(w.heap.size + 1), 1, none⟩ (.int .i64 (jj : Int))).setCell ⟨(w.heap.size + 1), 2, none⟩ (.int .i64 (deep : Int))).setCell ⟨(w.heap.size + 1), 3, none⟩ (.bool false)).setCell ⟨(w.heap.size + 1), 4, none⟩ (.int .i64 a0)).setCell ⟨(w.heap.size + 1), 5, none⟩ (.int .i64 b0)) = w6_1 at *
    have hq1 := sizeS6 ee
    replace HF := fN6 HF ee
    replace HBs := bS6 HBs ee
    replace HBx := bF6 HBx ee
    replace HBu := bF6 HBu ee
    replace HBv := bF6 HBv ee
    replace HYe := yS6 HYe ee
    clear ee
    generalize ee : (w6_1.drew) = w6 at *
    have hq2 := sizeD ee
    replace HF := fD HF ee
    replace HBs := bD HBs ee
    replace HBx := bD HBx ee
    replace HBu := bD HBu ee
    replace HBv := bD HBv ee
    replace HYe := yD HYe ee
    clear ee
    have hsa6 : w6.heap.size = w4.heap.size + 1 := by omega
    clear hq1 hq2
    clear hI hZ
    have sc := kc6 HBs; have xc := kc6 HBx; have uc := kc6 HBu; have vc := kc6 HBv
    have hI := i12_01_0 w w2 w6
    have hZ := i12_01_1 w w2 w4
    refine callA 3 rfl fun K hK => ?_
    go_simp
    refine hK.out _ _ ?_ (fun hS42 => ?_)
    · exact (by (iterate 6 (refine Far.setCell (p := ⟨(w.heap.size + 2), _, none⟩) ?_ (.inr rfl) _)); exact hS41)
    clear hK K
    refine wpAnyH_done (by kernel_rfl) ?_ _

    clear sc xc uc vc
    generalize ee : World.setCell _ ⟨(w.heap.size + 2), 5, none⟩ _ = w7
    have hsz7 := sizeS6 ee
    replace HF := fN6 HF ee
    replace HBs := bF6 HBs ee
    replace HBx := bS6 HBx ee
    replace HBu := bF6 HBu ee
    replace HBv := bF6 HBv ee
    replace HYe := yS6 HYe ee
    clear ee
    clear hI hZ
    go_wp2_with (fail)
    have z := kc6 HBs; have y := kc6 HBx
    refine bodyPost_ret (v := .tuple #[.agg #[.slice aL n cap, .int .i64 (jj : Int), .int .i64 (deep : Int), .bool false, .int .i64 a0, .int .i64 b0], .agg #[.int .i64 e.kind, .string e.name, .int .i64 e.n, .slice ae me ce, .int .i64 e.line, .int .i64 e.col]]) (by clear HF H HBs HBx HBu HBv HYe; simp [results, Try.results34, go_sem, z, y]) rfl ?_
    exact ⟨_, _, _, rfl, refBelow HF.out, av_nw HYe.out (by omega)⟩
   have eb : (((bindsE (nowT ts jj).s : Nat) : Int) != (rank : Int)) = false := by simp; omega
   unfold moreR at hr
   rw [if_pos ⟨h6, hb⟩] at hr
   have hjl : jj < ts.length := now_lt (by rw [h6]; decide)
   have hoj : (jj : Int) + 1 ≤ 9223372036854775807 := by have h1 := H.out.len; rw [tkRows_len] at h1; omega
   by_cases hone : rank = 1
   ·
    have e1 : ((rank : Int) == 1) = true := by simp; omega
    rw [if_pos hone] at hr
    go_wp2_with (fail)
    clear rc sc xc uc vc kc
    generalize ee : World.setCell w5 _ _ = w6
    have hsz6 := sizeS1 ee
    replace HF := fN1 HF ee
    replace HBr := bF1 HBr ee
    replace HBs := bF1 HBs ee
    replace HBx := bF1 HBx ee
    replace HBu : Hid (Bo w6 w2.heap.size 47 #[.slice aL n cap, .int .i64 ((jj : Int) + 1), .int .i64 (deep : Int), .bool false, .int .i64 a0, .int .i64 b0]) := Lib.hid (by rw [← ee]; exact HBu.out.set 1 (.int .i64 ((jj : Int) + 1)))
    replace HBv := bF1 HBv ee
    replace HBk := bF1 HBk ee
    replace HYe := yS1 HYe ee
    clear ee
    clear hI hZ
    have rc := kc6 HBr; have sc := kc6 HBs; have xc := kc6 HBx; have uc := kc6 HBu; have vc := kc6 HBv; have kc := kc5 HBk
    have hI := i012_01_0_0 w w2 w4 w6
    have hZ := i012_01_01 w w2 w4
    rcases hy : readE ts g (rkN 1) (jj + 1) deep with _ | ⟨y, k⟩ | ⟨l_, c_⟩
    · (rw [hy] at hr; cases hr)
    rotate_left
    ·
     rw [hy] at hr
     first | simp only at hr | simp only [andT] at hr
     cases hr
     clear rc sc xc uc vc kc
     refine (HK g hg 1 (jj + 1) _ _ _ _ _ (by omega) (by omega) hd (refTok HF.out H.out) hn hy).mono ?_
     rintro _ w7 ⟨iq, dq, kq, sq, nq, aq, mq, cq, uq, vq, rfl, hb⟩
     replace HBr := kB HBr hb
     replace HBs := kB HBs hb
     replace HBx := kB HBx hb
     replace HBu := kB HBu hb
     replace HBv := kB HBv hb
     replace HBk := kB HBk hb
     replace HYe := kY HYe hb
     replace HF := kF HF hb
     have hs7 := hb.size
     clear hb
     simp only [rdV]
     have h2 : rank ≤ 2 := by omega
     clear hI hZ
     have rc := kc6 HBr; have sc := kc6 HBs; have xc := kc6 HBx; have uc := kc6 HBu; have vc := kc6 HBv; have kc := kc5 HBk
     have hI := i012_01_0_0 w w2 w4 w7
     go_upto_region 12 with (fail)
     clear rc sc xc uc vc kc
     generalize ee : World.alloc w7 _ = w8_1
     have hq1 := sizeA ee
     replace HF := fA HF ee
     replace HBr := bA HBr ee
     replace HBs := bA HBs ee
     replace HBx := bA HBx ee
     replace HBu := bA HBu ee
     replace HBv := bA HBv ee
     replace HBk := bA HBk ee
     replace HYe := yA HYe ee
     have HBp := nB ee (w7.heap.size)
     clear ee
     generalize ee : World.alloc w8_1 _ = w8
     have hq2 := sizeA ee
     replace HF := fA HF ee
     replace HBr := bA HBr ee
     replace HBs := bA HBs ee
     replace HBx := bA HBx ee
     replace HBu := bA HBu ee
     replace HBv := bA HBv ee
     replace HBk := bA HBk ee
     replace HBp := bA HBp ee
     replace HYe := yA HYe ee
     have HBo := nB ee (w7.heap.size + 1)
     clear ee
     have hsa8 : w8.heap.size = w7.heap.size + 2 := by omega
     clear hq1 hq2
     clear hI
     have rc := kc6 HBr; have sc := kc6 HBs; have xc := kc6 HBx; have uc := kc6 HBu; have vc := kc6 HBv; have kc := kc5 HBk; have pc := kc6 HBp; have oc := kc6 HBo
     have hI := i012_01_0_01_0 w w2 w4 w7 w8
     have hZ := i012_01_0_012 w w2 w4 w7
     go_upto_region 13 with (fail)
     clear rc sc xc uc vc kc pc oc
     generalize ee : World.setCell _ ⟨w2.heap.size, 5, none⟩ _ = w9
     have hsz9 := sizeS6 ee
     replace HF := fN6 HF ee
     replace HBr := bF6 HBr ee
     replace HBs := bF6 HBs ee
     replace HBx := bF6 HBx ee
     replace HBu := bS6 HBu ee
     replace HBv := bF6 HBv ee
     replace HBk := bF6 HBk ee
     replace HBp := bF6 HBp ee
     replace HBo := bF6 HBo ee
     replace HYe := yS6 HYe ee
     clear ee
     clear hI hZ
     have rc := kc6 HBr; have sc := kc6 HBs; have xc := kc6 HBx; have uc := kc6 HBu; have vc := kc6 HBv; have kc := kc5 HBk; have pc := kc6 HBp; have oc := kc6 HBo
     have hI := i012_01_0_01_0 w w2 w4 w7 w9
     have hZ := i012_01_0_012 w w2 w4 w7
     go_upto_region 14 with (fail)
     clear rc sc xc uc vc kc pc oc
     generalize ee : World.setCell _ ⟨(w2.heap.size + 1), 5, none⟩ _ = w10_1
     have hq1 := sizeS6 ee
     replace HF := fN6 HF ee
     replace HBr := bF6 HBr ee
     replace HBs := bF6 HBs ee
     replace HBx := bF6 HBx ee
     replace HBu := bF6 HBu ee
     replace HBv := bS6 HBv ee
     replace HBk := bF6 HBk ee
     replace HBp := bF6 HBp ee
     replace HBo := bF6 HBo ee
     replace HYe := yS6 HYe ee
     clear ee
     generalize ee : World.alloc w10_1 _ = w10
     have hq2 := sizeA ee
     replace HF := fA HF ee
     replace HBr := bA HBr ee
     replace HBs := bA HBs ee
     replace HBx := bA HBx ee
     replace HBu := bA HBu ee
     replace HBv := bA HBv ee
     replace HBk := bA HBk ee
     replace HBp := bA HBp ee
     replace HBo := bA HBo ee
     replace HYe := yA HYe ee
     have HBrow := nB ee (w7.heap.size + 2)
     clear ee
     have hsa10 : w10.heap.size = w7.heap.size + 3 := by omega
     clear hq1 hq2
     clear hI hZ
     have rc := kc6 HBr; have sc := kc6 HBs; have xc := kc6 HBx; have uc := kc6 HBu; have vc := kc6 HBv; have kc := kc5 HBk; have pc := kc6 HBp; have oc := kc6 HBo
     have hI := i012_01_0_012_0 w w2 w4 w7 w10
     have hZ := i012_01_0_0123 w w2 w4 w7
     have e2 : ((rank : Int) ≤ 2) = True := by simp; omega
     go_wp2_with (fail)
     clear rc sc xc uc vc kc pc oc
     clear hI hZ
     clear HBr HBk HBp HBo HBrow
     have sc := kc6 HBs; have xc := kc6 HBx; have uc := kc6 HBu; have vc := kc6 HBv
     have hI := i12_01_0 w w2 w10
     have hZ := i12_01_3 w w2 w7
     refine wp_region_held_drew (S := fun w' => Far (fun b => b = (w.heap.size + 1) ∨ b = (w.heap.size + 2)) (w10) w') (by kernel_rfl) (Far.of (below_drew _)) (fun hS40 => ?_)
     refine takeA 0 (v := ?_) rfl ?_ ?_
     rotate_left
     · (intro w hSw; (try dsimp only at hSw); replace uc := Far.c6z uc hSw; go_simp; try with_reducible rfl)
     try simp only [Act.put, pu1, pu2, pu3]
     refine takeA 1 (v := ?_) rfl ?_ ?_
     rotate_left
     · (intro w hSw; (try dsimp only at hSw); replace vc := Far.c6z vc hSw; go_simp; try with_reducible rfl)
     try simp only [Act.put, pu1, pu2, pu3]

     refine callA 2 rfl fun K hK => ?_
     go_simp
     refine hK.out _ _ ?_ (fun hS41 => ?_)
     · exact (by refine Far.trans ?_ (Far.of (below_drew _)); (iterate 6 (refine Far.setCell (p := ⟨(w.heap.size + 1), _, none⟩) ?_ (.inl rfl) _)); exact Far.refl _ _)
     clear hK K

     clear sc xc uc vc
     generalize ee : ((((((w10.setCell ⟨(w.heap.size + 1), 0, none⟩ (.slice aL n cap)).setCell ⟨(w.heap.size + 1), 1, none⟩ (.int .i64 (iq : Int))).setCell ⟨(w.heap.size + 1), 2, none⟩ (.int .i64 dq)).setCell ⟨(w.heap.size + 1), 3, none⟩ (.bool true)).setCell ⟨(w.heap.size + 1), 4, none⟩ (.int .i64 l_)).setCell ⟨(w.heap.size + 1), 5, none⟩ (.int .i64 c_)) = w11_1 at *
     have hq1 := sizeS6 ee
     replace HF := fN6 HF ee
     replace HBs := bS6 HBs ee
     replace HBx := bF6 HBx ee
     replace HBu := bF6 HBu ee
     replace HBv := bF6 HBv ee
     replace HYe := yS6 HYe ee
     clear ee
     generalize ee : (w11_1.drew) = w11 at *
     have hq2 := sizeD ee
     replace HF := fD HF ee
     replace HBs := bD HBs ee
     replace HBx := bD HBx ee
     replace HBu := bD HBu ee
     replace HBv := bD HBv ee
     replace HYe := yD HYe ee
     clear ee
     have hsa11 : w11.heap.size = w7.heap.size + 3 := by omega
     clear hq1 hq2
     clear hI hZ
     have sc := kc6 HBs; have xc := kc6 HBx; have uc := kc6 HBu; have vc := kc6 HBv
     have hI := i12_01_0 w w2 w11
     have hZ := i12_01_3 w w2 w7
     refine callA 3 rfl fun K hK => ?_
     go_simp
     refine hK.out _ _ ?_ (fun hS42 => ?_)
     · exact (by (iterate 6 (refine Far.setCell (p := ⟨(w.heap.size + 2), _, none⟩) ?_ (.inr rfl) _)); exact hS41)
     clear hK K
     refine wpAnyH_done (by kernel_rfl) ?_ _

     clear sc xc uc vc
     generalize ee : World.setCell _ ⟨(w.heap.size + 2), 5, none⟩ _ = w12
     have hsz12 := sizeS6 ee
     replace HF := fN6 HF ee
     replace HBs := bF6 HBs ee
     replace HBx := bS6 HBx ee
     replace HBu := bF6 HBu ee
     replace HBv := bF6 HBv ee
     replace HYe := yS6 HYe ee
     clear ee
     clear hI hZ
     go_wp2_with (fail)
     have z := kc6 HBs; have y := kc6 HBx
     refine bodyPost_ret (v := .tuple #[.agg #[.slice aL n cap, .int .i64 (iq : Int), .int .i64 dq, .bool true, .int .i64 l_, .int .i64 c_], .agg #[.int .i64 5, .string (nowT ts jj).s, .int .i64 0, .slice (some ⟨w7.heap.size + 2, 0, none⟩) 2 2, .int .i64 (nowT ts jj).l, .int .i64 (nowT ts jj).c]]) (by clear HF H HBs HBx HBu HBv HYe; simp [results, Try.results34, go_sem, z, y]) rfl ?_
     exact ⟨_, _, _, _, _, _, _, _, _, _, rfl, refBelow HF.out⟩
    rw [hy] at hr
    first | simp only at hr | simp only [andT] at hr
    have hfk : jj + 1 < k ∧ k ≤ ts.length := readE_fwd g (rkN 1) (jj + 1) deep y k hy
    clear rc sc xc uc vc kc
    refine (HK g hg 1 (jj + 1) _ _ _ _ _ (by omega) (by omega) hd (refTok HF.out H.out) hn hy).mono ?_
    rintro _ w7 ⟨ay, my, cy, rfl, hb, hm⟩
    replace HBr := kB HBr hb
    replace HBs := kB HBs hb
    replace HBx := kB HBx hb
    replace HBu := kB HBu hb
    replace HBv := kB HBv hb
    replace HBk := kB HBk hb
    replace HYe := kY HYe hb
    replace HF := kF HF hb
    have hs7 := hb.size
    clear hb
    have HMy := Lib.hid hm
    clear hm
    simp only [rdV, exV]
    have HYy : Hid (Mem (NwS (Av w1.heap.size w2.heap.size (w2.heap.size + 1)) w7.heap.size) w7 _ _) := Lib.hid (memS_av (g := w2.heap.size) (k := (w2.heap.size + 1)) HMy.out (by omega) (by omega) (by omega))
    clear HMy
    have h2 : rank ≤ 2 := by omega
    clear hI hZ
    have rc := kc6 HBr; have sc := kc6 HBs; have xc := kc6 HBx; have uc := kc6 HBu; have vc := kc6 HBv; have kc := kc5 HBk
    have hI := i012_01_0_0 w w2 w4 w7
    go_upto_region 12 with (fail)
    clear rc sc xc uc vc kc
    generalize ee : World.alloc w7 _ = w8_1
    have hq1 := sizeA ee
    replace HF := fA HF ee
    replace HBr := bA HBr ee
    replace HBs := bA HBs ee
    replace HBx := bA HBx ee
    replace HBu := bA HBu ee
    replace HBv := bA HBv ee
    replace HBk := bA HBk ee
    replace HYe := yA HYe ee
    replace HYy := yA HYy ee
    have HBp := nB ee (w7.heap.size)
    clear ee
    generalize ee : World.alloc w8_1 _ = w8
    have hq2 := sizeA ee
    replace HF := fA HF ee
    replace HBr := bA HBr ee
    replace HBs := bA HBs ee
    replace HBx := bA HBx ee
    replace HBu := bA HBu ee
    replace HBv := bA HBv ee
    replace HBk := bA HBk ee
    replace HBp := bA HBp ee
    replace HYe := yA HYe ee
    replace HYy := yA HYy ee
    have HBo := nB ee (w7.heap.size + 1)
    clear ee
    have hsa8 : w8.heap.size = w7.heap.size + 2 := by omega
    clear hq1 hq2
    clear hI
    have rc := kc6 HBr; have sc := kc6 HBs; have xc := kc6 HBx; have uc := kc6 HBu; have vc := kc6 HBv; have kc := kc5 HBk; have pc := kc6 HBp; have oc := kc6 HBo
    have hI := i012_01_0_01_0 w w2 w4 w7 w8
    have hZ := i012_01_0_012 w w2 w4 w7
    go_upto_region 13 with (fail)
    clear rc sc xc uc vc kc pc oc
    generalize ee : World.setCell _ ⟨w2.heap.size, 5, none⟩ _ = w9
    have hsz9 := sizeS6 ee
    replace HF := fN6 HF ee
    replace HBr := bF6 HBr ee
    replace HBs := bF6 HBs ee
    replace HBx := bF6 HBx ee
    replace HBu := bS6 HBu ee
    replace HBv := bF6 HBv ee
    replace HBk := bF6 HBk ee
    replace HBp := bF6 HBp ee
    replace HBo := bF6 HBo ee
    replace HYe := yS6 HYe ee
    replace HYy := yS6 HYy ee
    clear ee
    clear hI hZ
    have rc := kc6 HBr; have sc := kc6 HBs; have xc := kc6 HBx; have uc := kc6 HBu; have vc := kc6 HBv; have kc := kc5 HBk; have pc := kc6 HBp; have oc := kc6 HBo
    have hI := i012_01_0_01_0 w w2 w4 w7 w9
    have hZ := i012_01_0_012 w w2 w4 w7
    go_upto_region 14 with (fail)
    clear rc sc xc uc vc kc pc oc
    generalize ee : World.setCell _ ⟨(w2.heap.size + 1), 5, none⟩ _ = w10_1
    have hq1 := sizeS6 ee
    replace HF := fN6 HF ee
    replace HBr := bF6 HBr ee
    replace HBs := bF6 HBs ee
    replace HBx := bF6 HBx ee
    replace HBu := bF6 HBu ee
    replace HBv := bS6 HBv ee
    replace HBk := bF6 HBk ee
    replace HBp := bF6 HBp ee
    replace HBo := bF6 HBo ee
    replace HYe := yS6 HYe ee
    replace HYy := yS6 HYy ee
    clear ee
    generalize ee : World.alloc w10_1 _ = w10
    have hq2 := sizeA ee
    have HNEW := Lib.hid (builtS2E (A := Av w1.heap.size w2.heap.size (w2.heap.size + 1)) (base := w7.heap.size + 2) HYe.out HYy.out ee (b := w7.heap.size + 2) (by omega) (by omega))
    replace HF := fA HF ee
    replace HBr := bA HBr ee
    replace HBs := bA HBs ee
    replace HBx := bA HBx ee
    replace HBu := bA HBu ee
    replace HBv := bA HBv ee
    replace HBk := bA HBk ee
    replace HBp := bA HBp ee
    replace HBo := bA HBo ee
    replace HYe := yA HYe ee
    replace HYy := yA HYy ee
    have HSz := HNEW
    clear HNEW
    clear ee
    have hsa10 : w10.heap.size = w7.heap.size + 3 := by omega
    clear hq1 hq2
    clear hI hZ
    have rc := kc6 HBr; have sc := kc6 HBs; have xc := kc6 HBx; have uc := kc6 HBu; have vc := kc6 HBv; have kc := kc5 HBk; have pc := kc6 HBp; have oc := kc6 HBo
    have hI := i012_01_0_01_0 w w2 w4 w7 w10
    have hZ := i012_01_0_013 w w2 w4 w7
    have e2 : ((rank : Int) ≤ 2) = True := by simp; omega
    rw [if_pos h2] at hr
    cases hr
    go_wp2_with (fail)
    clear rc sc xc uc vc kc pc oc
    clear hI hZ
    clear HBr HBk HBp HBo
    have sc := kc6 HBs; have xc := kc6 HBx; have uc := kc6 HBu; have vc := kc6 HBv
    have hI := i12_01_0 w w2 w10
    have hZ := i12_01_3 w w2 w7
    refine wp_region_held_drew (S := fun w' => Far (fun b => b = (w.heap.size + 1) ∨ b = (w.heap.size + 2)) (w10) w') (by kernel_rfl) (Far.of (below_drew _)) (fun hS40 => ?_)
    refine takeA 0 (v := ?_) rfl ?_ ?_
    rotate_left
    · (intro w hSw; (try dsimp only at hSw); replace uc := Far.c6z uc hSw; go_simp; try with_reducible rfl)
    try simp only [Act.put, pu1, pu2, pu3]
    refine takeA 1 (v := ?_) rfl ?_ ?_
    rotate_left
    · (intro w hSw; (try dsimp only at hSw); replace vc := Far.c6z vc hSw; go_simp; try with_reducible rfl)
    try simp only [Act.put, pu1, pu2, pu3]

    refine callA 2 rfl fun K hK => ?_
    go_simp
    refine hK.out _ _ ?_ (fun hS41 => ?_)
    · exact (by refine Far.trans ?_ (Far.of (below_drew _)); (iterate 6 (refine Far.setCell (p := ⟨(w.heap.size + 1), _, none⟩) ?_ (.inl rfl) _)); exact Far.refl _ _)
    clear hK K

    clear sc xc uc vc
    generalize ee : ((((((w10.setCell ⟨(w.heap.size + 1), 0, none⟩ (.slice aL n cap)).setCell ⟨(w.heap.size + 1), 1, none⟩ (.int .i64 (k : Int))).setCell ⟨(w.heap.size + 1), 2, none⟩ (.int .i64 (deep : Int))).setCell ⟨(w.heap.size + 1), 3, none⟩ (.bool false)).setCell ⟨(w.heap.size + 1), 4, none⟩ (.int .i64 a0)).setCell ⟨(w.heap.size + 1), 5, none⟩ (.int .i64 b0)) = w11_1 at *
    have hq1 := sizeS6 ee
    replace HF := fN6 HF ee
    replace HBs := bS6 HBs ee
    replace HBx := bF6 HBx ee
    replace HBu := bF6 HBu ee
    replace HBv := bF6 HBv ee
    replace HYe := yS6 HYe ee
    replace HYy := yS6 HYy ee
    replace HSz := sS6 HSz ee
    clear ee
    generalize ee : (w11_1.drew) = w11 at *
    have hq2 := sizeD ee
    replace HF := fD HF ee
    replace HBs := bD HBs ee
    replace HBx := bD HBx ee
    replace HBu := bD HBu ee
    replace HBv := bD HBv ee
    replace HYe := yD HYe ee
    replace HYy := yD HYy ee
    replace HSz := sD HSz ee
    clear ee
    have hsa11 : w11.heap.size = w7.heap.size + 3 := by omega
    clear hq1 hq2
    clear hI hZ
    have sc := kc6 HBs; have xc := kc6 HBx; have uc := kc6 HBu; have vc := kc6 HBv
    have hI := i12_01_0 w w2 w11
    have hZ := i12_01_3 w w2 w7
    refine callA 3 rfl fun K hK => ?_
    go_simp
    refine hK.out _ _ ?_ (fun hS42 => ?_)
    · exact (by (iterate 6 (refine Far.setCell (p := ⟨(w.heap.size + 2), _, none⟩) ?_ (.inr rfl) _)); exact hS41)
    clear hK K
    refine wpAnyH_done (by kernel_rfl) ?_ _

    clear sc xc uc vc
    generalize ee : World.setCell _ ⟨(w.heap.size + 2), 5, none⟩ _ = w12
    have hsz12 := sizeS6 ee
    replace HF := fN6 HF ee
    replace HBs := bF6 HBs ee
    replace HBx := bS6 HBx ee
    replace HBu := bF6 HBu ee
    replace HBv := bF6 HBv ee
    replace HYe := yS6 HYe ee
    replace HYy := yS6 HYy ee
    replace HSz := sS6 HSz ee
    clear ee
    clear hI hZ
    go_wp2_with (fail)
    have z := kc6 HBs; have y := kc6 HBx
    refine bodyPost_ret (v := .tuple #[.agg #[.slice aL n cap, .int .i64 (k : Int), .int .i64 (deep : Int), .bool false, .int .i64 a0, .int .i64 b0], .agg #[.int .i64 5, .string (nowT ts jj).s, .int .i64 0, .slice (some ⟨w7.heap.size + 2, 0, none⟩) 2 2, .int .i64 (nowT ts jj).l, .int .i64 (nowT ts jj).c]]) (by clear HF H HBs HBx HBu HBv HYe HYy HSz; simp [results, Try.results34, go_sem, z, y]) rfl ?_
    exact ⟨_, _, _, rfl, refBelow HF.out, OwnS.nw HSz.out (fun b hb => Nat.le_trans (by omega) hb.1) (by omega)⟩
   have e1 : ((rank : Int) == 1) = false := by simp; omega
   rw [if_neg hone] at hr
   go_wp2_with (fail)
   clear rc sc xc uc vc kc
   generalize ee : World.setCell w5 _ _ = w6
   have hsz6 := sizeS1 ee
   replace HF := fN1 HF ee
   replace HBr := bF1 HBr ee
   replace HBs := bF1 HBs ee
   replace HBx := bF1 HBx ee
   replace HBu : Hid (Bo w6 w2.heap.size 47 #[.slice aL n cap, .int .i64 ((jj : Int) + 1), .int .i64 (deep : Int), .bool false, .int .i64 a0, .int .i64 b0]) := Lib.hid (by rw [← ee]; exact HBu.out.set 1 (.int .i64 ((jj : Int) + 1)))
   replace HBv := bF1 HBv ee
   replace HBk := bF1 HBk ee
   replace HYe := yS1 HYe ee
   clear ee
   clear hI hZ
   have rc := kc6 HBr; have sc := kc6 HBs; have xc := kc6 HBx; have uc := kc6 HBu; have vc := kc6 HBv; have kc := kc5 HBk
   have hI := i012_01_0_0 w w2 w4 w6
   have hZ := i012_01_01 w w2 w4
   rcases hy : readE ts g (rkN (rank + 1)) (jj + 1) deep with _ | ⟨y, k⟩ | ⟨l_, c_⟩
   · (rw [hy] at hr; cases hr)
   rotate_left
   ·
    rw [hy] at hr
    first | simp only at hr | simp only [andT] at hr
    cases hr
    clear rc sc xc uc vc kc
    refine (HK g hg (rank + 1) (jj + 1) _ _ _ _ _ (by omega) (by omega) hd (refTok HF.out H.out) hn hy).mono ?_
    rintro _ w7 ⟨iq, dq, kq, sq, nq, aq, mq, cq, uq, vq, rfl, hb⟩
    replace HBr := kB HBr hb
    replace HBs := kB HBs hb
    replace HBx := kB HBx hb
    replace HBu := kB HBu hb
    replace HBv := kB HBv hb
    replace HBk := kB HBk hb
    replace HYe := kY HYe hb
    replace HF := kF HF hb
    have hs7 := hb.size
    clear hb
    simp only [rdV]
    clear hI hZ
    have rc := kc6 HBr; have sc := kc6 HBs; have xc := kc6 HBx; have uc := kc6 HBu; have vc := kc6 HBv; have kc := kc5 HBk
    have hI := i012_01_0_0 w w2 w4 w7
    go_upto_region 12 with (fail)
    clear rc sc xc uc vc kc
    generalize ee : World.alloc w7 _ = w8_1
    have hq1 := sizeA ee
    replace HF := fA HF ee
    replace HBr := bA HBr ee
    replace HBs := bA HBs ee
    replace HBx := bA HBx ee
    replace HBu := bA HBu ee
    replace HBv := bA HBv ee
    replace HBk := bA HBk ee
    replace HYe := yA HYe ee
    have HBp := nB ee (w7.heap.size)
    clear ee
    generalize ee : World.alloc w8_1 _ = w8
    have hq2 := sizeA ee
    replace HF := fA HF ee
    replace HBr := bA HBr ee
    replace HBs := bA HBs ee
    replace HBx := bA HBx ee
    replace HBu := bA HBu ee
    replace HBv := bA HBv ee
    replace HBk := bA HBk ee
    replace HBp := bA HBp ee
    replace HYe := yA HYe ee
    have HBo := nB ee (w7.heap.size + 1)
    clear ee
    have hsa8 : w8.heap.size = w7.heap.size + 2 := by omega
    clear hq1 hq2
    clear hI
    have rc := kc6 HBr; have sc := kc6 HBs; have xc := kc6 HBx; have uc := kc6 HBu; have vc := kc6 HBv; have kc := kc5 HBk; have pc := kc6 HBp; have oc := kc6 HBo
    have hI := i012_01_0_01_0 w w2 w4 w7 w8
    have hZ := i012_01_0_012 w w2 w4 w7
    go_upto_region 13 with (fail)
    clear rc sc xc uc vc kc pc oc
    generalize ee : World.setCell _ ⟨w2.heap.size, 5, none⟩ _ = w9
    have hsz9 := sizeS6 ee
    replace HF := fN6 HF ee
    replace HBr := bF6 HBr ee
    replace HBs := bF6 HBs ee
    replace HBx := bF6 HBx ee
    replace HBu := bS6 HBu ee
    replace HBv := bF6 HBv ee
    replace HBk := bF6 HBk ee
    replace HBp := bF6 HBp ee
    replace HBo := bF6 HBo ee
    replace HYe := yS6 HYe ee
    clear ee
    clear hI hZ
    have rc := kc6 HBr; have sc := kc6 HBs; have xc := kc6 HBx; have uc := kc6 HBu; have vc := kc6 HBv; have kc := kc5 HBk; have pc := kc6 HBp; have oc := kc6 HBo
    have hI := i012_01_0_01_0 w w2 w4 w7 w9
    have hZ := i012_01_0_012 w w2 w4 w7
    go_upto_region 14 with (fail)
    clear rc sc xc uc vc kc pc oc
    generalize ee : World.setCell _ ⟨(w2.heap.size + 1), 5, none⟩ _ = w10_1
    have hq1 := sizeS6 ee
    replace HF := fN6 HF ee
    replace HBr := bF6 HBr ee
    replace HBs := bF6 HBs ee
    replace HBx := bF6 HBx ee
    replace HBu := bF6 HBu ee
    replace HBv := bS6 HBv ee
    replace HBk := bF6 HBk ee
    replace HBp := bF6 HBp ee
    replace HBo := bF6 HBo ee
    replace HYe := yS6 HYe ee
    clear ee
    generalize ee : World.alloc w10_1 _ = w10
    have hq2 := sizeA ee
    replace HF := fA HF ee
    replace HBr := bA HBr ee
    replace HBs := bA HBs ee
    replace HBx := bA HBx ee
    replace HBu := bA HBu ee
    replace HBv := bA HBv ee
    replace HBk := bA HBk ee
    replace HBp := bA HBp ee
    replace HBo := bA HBo ee
    replace HYe := yA HYe ee
    have HBrow := nB ee (w7.heap.size + 2)
    clear ee
    have hsa10 : w10.heap.size = w7.heap.size + 3 := by omega
    clear hq1 hq2
    clear hI hZ
    have rc := kc6 HBr; have sc := kc6 HBs; have xc := kc6 HBx; have uc := kc6 HBu; have vc := kc6 HBv; have kc := kc5 HBk; have pc := kc6 HBp; have oc := kc6 HBo
    have hI := i012_01_0_012_0 w w2 w4 w7 w10
    have hZ := i012_01_0_0123 w w2 w4 w7
    by_cases h2 : rank ≤ 2
    rotate_left
    ·
     have e2 : ((rank : Int) ≤ 2) = False := by simp; omega
     go_wp2_with (fail)
     clear rc sc xc uc vc kc pc oc
     have hpk : (if badQ w2.heap.size w10 then 0 else ts.length + 1 - posQ w2.heap.size w10) = 0 := by unfold badQ; rw [HBu.out.cell (j := 3) rfl]; rfl
     go_roundw
     case rel => exact ⟨HF, by omega, HBr, HBs, HBx, .inr ⟨_, _, _, _, _, _, _, _, _, _, _, _, rfl, HBu, HBv⟩⟩
     case measure => rw [hpk, HNU.out]; omega
    have e2 : ((rank : Int) ≤ 2) = True := by simp; omega
    go_wp2_with (fail)
    clear rc sc xc uc vc kc pc oc
    clear hI hZ
    clear HBr HBk HBp HBo HBrow
    have sc := kc6 HBs; have xc := kc6 HBx; have uc := kc6 HBu; have vc := kc6 HBv
    have hI := i12_01_0 w w2 w10
    have hZ := i12_01_3 w w2 w7
    refine wp_region_held_drew (S := fun w' => Far (fun b => b = (w.heap.size + 1) ∨ b = (w.heap.size + 2)) (w10) w') (by kernel_rfl) (Far.of (below_drew _)) (fun hS40 => ?_)
    refine takeA 0 (v := ?_) rfl ?_ ?_
    rotate_left
    · (intro w hSw; (try dsimp only at hSw); replace uc := Far.c6z uc hSw; go_simp; try with_reducible rfl)
    try simp only [Act.put, pu1, pu2, pu3]
    refine takeA 1 (v := ?_) rfl ?_ ?_
    rotate_left
    · (intro w hSw; (try dsimp only at hSw); replace vc := Far.c6z vc hSw; go_simp; try with_reducible rfl)
    try simp only [Act.put, pu1, pu2, pu3]

    refine callA 2 rfl fun K hK => ?_
    go_simp
    refine hK.out _ _ ?_ (fun hS41 => ?_)
    · exact (by refine Far.trans ?_ (Far.of (below_drew _)); (iterate 6 (refine Far.setCell (p := ⟨(w.heap.size + 1), _, none⟩) ?_ (.inl rfl) _)); exact Far.refl _ _)
    clear hK K

    clear sc xc uc vc
    generalize ee : ((((((w10.setCell ⟨(w.heap.size + 1), 0, none⟩ (.slice aL n cap)).setCell ⟨(w.heap.size + 1), 1, none⟩ (.int .i64 (iq : Int))).setCell ⟨(w.heap.size + 1), 2, none⟩ (.int .i64 dq)).setCell ⟨(w.heap.size + 1), 3, none⟩ (.bool true)).setCell ⟨(w.heap.size + 1), 4, none⟩ (.int .i64 l_)).setCell ⟨(w.heap.size + 1), 5, none⟩ (.int .i64 c_)) = w11_1 at *
    have hq1 := sizeS6 ee
    replace HF := fN6 HF ee
    replace HBs := bS6 HBs ee
    replace HBx := bF6 HBx ee
    replace HBu := bF6 HBu ee
    replace HBv := bF6 HBv ee
    replace HYe := yS6 HYe ee
    clear ee
    generalize ee : (w11_1.drew) = w11 at *
    have hq2 := sizeD ee
    replace HF := fD HF ee
    replace HBs := bD HBs ee
    replace HBx := bD HBx ee
    replace HBu := bD HBu ee
    replace HBv := bD HBv ee
    replace HYe := yD HYe ee
    clear ee
    have hsa11 : w11.heap.size = w7.heap.size + 3 := by omega
    clear hq1 hq2
    clear hI hZ
    have sc := kc6 HBs; have xc := kc6 HBx; have uc := kc6 HBu; have vc := kc6 HBv
    have hI := i12_01_0 w w2 w11
    have hZ := i12_01_3 w w2 w7
    refine callA 3 rfl fun K hK => ?_
    go_simp
    refine hK.out _ _ ?_ (fun hS42 => ?_)
    · exact (by (iterate 6 (refine Far.setCell (p := ⟨(w.heap.size + 2), _, none⟩) ?_ (.inr rfl) _)); exact hS41)
    clear hK K
    refine wpAnyH_done (by kernel_rfl) ?_ _

    clear sc xc uc vc
    generalize ee : World.setCell _ ⟨(w.heap.size + 2), 5, none⟩ _ = w12
    have hsz12 := sizeS6 ee
    replace HF := fN6 HF ee
    replace HBs := bF6 HBs ee
    replace HBx := bS6 HBx ee
    replace HBu := bF6 HBu ee
    replace HBv := bF6 HBv ee
    replace HYe := yS6 HYe ee
    clear ee
    clear hI hZ
    go_wp2_with (fail)
    have z := kc6 HBs; have y := kc6 HBx
    refine bodyPost_ret (v := .tuple #[.agg #[.slice aL n cap, .int .i64 (iq : Int), .int .i64 dq, .bool true, .int .i64 l_, .int .i64 c_], .agg #[.int .i64 5, .string (nowT ts jj).s, .int .i64 0, .slice (some ⟨w7.heap.size + 2, 0, none⟩) 2 2, .int .i64 (nowT ts jj).l, .int .i64 (nowT ts jj).c]]) (by clear HF H HBs HBx HBu HBv HYe; simp [results, Try.results34, go_sem, z, y]) rfl ?_
    exact ⟨_, _, _, _, _, _, _, _, _, _, rfl, refBelow HF.out⟩
   rw [hy] at hr
   first | simp only at hr | simp only [andT] at hr
   have hfk : jj + 1 < k ∧ k ≤ ts.length := (by have hy2 := hy; rw [rkN, if_neg (by omega)] at hy2; exact readE_fwd g (.left (rank + 1)) (jj + 1) deep y k hy2)
   clear rc sc xc uc vc kc
   refine (HK g hg (rank + 1) (jj + 1) _ _ _ _ _ (by omega) (by omega) hd (refTok HF.out H.out) hn hy).mono ?_
   rintro _ w7 ⟨ay, my, cy, rfl, hb, hm⟩
   replace HBr := kB HBr hb
   replace HBs := kB HBs hb
   replace HBx := kB HBx hb
   replace HBu := kB HBu hb
   replace HBv := kB HBv hb
   replace HBk := kB HBk hb
   replace HYe := kY HYe hb
   replace HF := kF HF hb
   have hs7 := hb.size
   clear hb
   have HMy := Lib.hid hm
   clear hm
   simp only [rdV, exV]
   have HYy : Hid (Mem (NwS (Av w1.heap.size w2.heap.size (w2.heap.size + 1)) w7.heap.size) w7 _ _) := Lib.hid (memS_av (g := w2.heap.size) (k := (w2.heap.size + 1)) HMy.out (by omega) (by omega) (by omega))
   clear HMy
   clear hI hZ
   have rc := kc6 HBr; have sc := kc6 HBs; have xc := kc6 HBx; have uc := kc6 HBu; have vc := kc6 HBv; have kc := kc5 HBk
   have hI := i012_01_0_0 w w2 w4 w7
   go_upto_region 12 with (fail)
   clear rc sc xc uc vc kc
   generalize ee : World.alloc w7 _ = w8_1
   have hq1 := sizeA ee
   replace HF := fA HF ee
   replace HBr := bA HBr ee
   replace HBs := bA HBs ee
   replace HBx := bA HBx ee
   replace HBu := bA HBu ee
   replace HBv := bA HBv ee
   replace HBk := bA HBk ee
   replace HYe := yA HYe ee
   replace HYy := yA HYy ee
   have HBp := nB ee (w7.heap.size)
   clear ee
   generalize ee : World.alloc w8_1 _ = w8
   have hq2 := sizeA ee
   replace HF := fA HF ee
   replace HBr := bA HBr ee
   replace HBs := bA HBs ee
   replace HBx := bA HBx ee
   replace HBu := bA HBu ee
   replace HBv := bA HBv ee
   replace HBk := bA HBk ee
   replace HBp := bA HBp ee
   replace HYe := yA HYe ee
   replace HYy := yA HYy ee
   have HBo := nB ee (w7.heap.size + 1)
   clear ee
   have hsa8 : w8.heap.size = w7.heap.size + 2 := by omega
   clear hq1 hq2
   clear hI
   have rc := kc6 HBr; have sc := kc6 HBs; have xc := kc6 HBx; have uc := kc6 HBu; have vc := kc6 HBv; have kc := kc5 HBk; have pc := kc6 HBp; have oc := kc6 HBo
   have hI := i012_01_0_01_0 w w2 w4 w7 w8
   have hZ := i012_01_0_012 w w2 w4 w7
   go_upto_region 13 with (fail)
   clear rc sc xc uc vc kc pc oc
   generalize ee : World.setCell _ ⟨w2.heap.size, 5, none⟩ _ = w9
   have hsz9 := sizeS6 ee
   replace HF := fN6 HF ee
   replace HBr := bF6 HBr ee
   replace HBs := bF6 HBs ee
   replace HBx := bF6 HBx ee
   replace HBu := bS6 HBu ee
   replace HBv := bF6 HBv ee
   replace HBk := bF6 HBk ee
   replace HBp := bF6 HBp ee
   replace HBo := bF6 HBo ee
   replace HYe := yS6 HYe ee
   replace HYy := yS6 HYy ee
   clear ee
   clear hI hZ
   have rc := kc6 HBr; have sc := kc6 HBs; have xc := kc6 HBx; have uc := kc6 HBu; have vc := kc6 HBv; have kc := kc5 HBk; have pc := kc6 HBp; have oc := kc6 HBo
   have hI := i012_01_0_01_0 w w2 w4 w7 w9
   have hZ := i012_01_0_012 w w2 w4 w7
   go_upto_region 14 with (fail)
   clear rc sc xc uc vc kc pc oc
   generalize ee : World.setCell _ ⟨(w2.heap.size + 1), 5, none⟩ _ = w10_1
   have hq1 := sizeS6 ee
   replace HF := fN6 HF ee
   replace HBr := bF6 HBr ee
   replace HBs := bF6 HBs ee
   replace HBx := bF6 HBx ee
   replace HBu := bF6 HBu ee
   replace HBv := bS6 HBv ee
   replace HBk := bF6 HBk ee
   replace HBp := bF6 HBp ee
   replace HBo := bF6 HBo ee
   replace HYe := yS6 HYe ee
   replace HYy := yS6 HYy ee
   clear ee
   generalize ee : World.alloc w10_1 _ = w10
   have hq2 := sizeA ee
   have HNEW := Lib.hid (builtS2E (A := Av w1.heap.size w2.heap.size (w2.heap.size + 1)) (base := w7.heap.size + 2) HYe.out HYy.out ee (b := w7.heap.size + 2) (by omega) (by omega))
   replace HF := fA HF ee
   replace HBr := bA HBr ee
   replace HBs := bA HBs ee
   replace HBx := bA HBx ee
   replace HBu := bA HBu ee
   replace HBv := bA HBv ee
   replace HBk := bA HBk ee
   replace HBp := bA HBp ee
   replace HBo := bA HBo ee
   replace HYe := yA HYe ee
   replace HYy := yA HYy ee
   have HSz := HNEW
   clear HNEW
   clear ee
   have hsa10 : w10.heap.size = w7.heap.size + 3 := by omega
   clear hq1 hq2
   clear hI hZ
   have rc := kc6 HBr; have sc := kc6 HBs; have xc := kc6 HBx; have uc := kc6 HBu; have vc := kc6 HBv; have kc := kc5 HBk; have pc := kc6 HBp; have oc := kc6 HBo
   have hI := i012_01_0_01_0 w w2 w4 w7 w10
   have hZ := i012_01_0_013 w w2 w4 w7
   by_cases h2 : rank ≤ 2
   rotate_left
   ·
    have e2 : ((rank : Int) ≤ 2) = False := by simp; omega
    rw [if_neg h2] at hr
    go_wp2_with (fail)
    clear rc sc xc uc vc kc pc oc
    have hpk : (if badQ w2.heap.size w10 then 0 else ts.length + 1 - posQ w2.heap.size w10) = ts.length + 1 - k := by unfold badQ posQ; rw [HBu.out.cell (j := 1) rfl, HBu.out.cell (j := 3) rfl]; simp
    cases g with
    | zero => rw [readE] at hr; cases hr
    | succ g =>
     rw [left_more (by omega)] at hr
     go_roundw
     case rel => exact ⟨HF, by omega, HBr, HBs, HBx, .inl ⟨_, k, g, _, _, _, hr, by omega, HBu, HBv, Lib.hid (OwnS.same HSz.out fun b hb => ⟨by omega, by omega, by omega⟩)⟩⟩
     case measure => rw [hpk, HNU.out]; omega
   have e2 : ((rank : Int) ≤ 2) = True := by simp; omega
   rw [if_pos h2] at hr
   cases hr
   go_wp2_with (fail)
   clear rc sc xc uc vc kc pc oc
   clear hI hZ
   clear HBr HBk HBp HBo
   have sc := kc6 HBs; have xc := kc6 HBx; have uc := kc6 HBu; have vc := kc6 HBv
   have hI := i12_01_0 w w2 w10
   have hZ := i12_01_3 w w2 w7
   refine wp_region_held_drew (S := fun w' => Far (fun b => b = (w.heap.size + 1) ∨ b = (w.heap.size + 2)) (w10) w') (by kernel_rfl) (Far.of (below_drew _)) (fun hS40 => ?_)
   refine takeA 0 (v := ?_) rfl ?_ ?_
   rotate_left
   · (intro w hSw; (try dsimp only at hSw); replace uc := Far.c6z uc hSw; go_simp; try with_reducible rfl)
   try simp only [Act.put, pu1, pu2, pu3]
   refine takeA 1 (v := ?_) rfl ?_ ?_
   rotate_left
   · (intro w hSw; (try dsimp only at hSw); replace vc := Far.c6z vc hSw; go_simp; try with_reducible rfl)
   try simp only [Act.put, pu1, pu2, pu3]

   refine callA 2 rfl fun K hK => ?_
   go_simp
   refine hK.out _ _ ?_ (fun hS41 => ?_)
   · exact (by refine Far.trans ?_ (Far.of (below_drew _)); (iterate 6 (refine Far.setCell (p := ⟨(w.heap.size + 1), _, none⟩) ?_ (.inl rfl) _)); exact Far.refl _ _)
   clear hK K

   clear sc xc uc vc
   generalize ee : ((((((w10.setCell ⟨(w.heap.size + 1), 0, none⟩ (.slice aL n cap)).setCell ⟨(w.heap.size + 1), 1, none⟩ (.int .i64 (k : Int))).setCell ⟨(w.heap.size + 1), 2, none⟩ (.int .i64 (deep : Int))).setCell ⟨(w.heap.size + 1), 3, none⟩ (.bool false)).setCell ⟨(w.heap.size + 1), 4, none⟩ (.int .i64 a0)).setCell ⟨(w.heap.size + 1), 5, none⟩ (.int .i64 b0)) = w11_1 at *
   have hq1 := sizeS6 ee
   replace HF := fN6 HF ee
   replace HBs := bS6 HBs ee
   replace HBx := bF6 HBx ee
   replace HBu := bF6 HBu ee
   replace HBv := bF6 HBv ee
   replace HYe := yS6 HYe ee
   replace HYy := yS6 HYy ee
   replace HSz := sS6 HSz ee
   clear ee
   generalize ee : (w11_1.drew) = w11 at *
   have hq2 := sizeD ee
   replace HF := fD HF ee
   replace HBs := bD HBs ee
   replace HBx := bD HBx ee
   replace HBu := bD HBu ee
   replace HBv := bD HBv ee
   replace HYe := yD HYe ee
   replace HYy := yD HYy ee
   replace HSz := sD HSz ee
   clear ee
   have hsa11 : w11.heap.size = w7.heap.size + 3 := by omega
   clear hq1 hq2
   clear hI hZ
   have sc := kc6 HBs; have xc := kc6 HBx; have uc := kc6 HBu; have vc := kc6 HBv
   have hI := i12_01_0 w w2 w11
   have hZ := i12_01_3 w w2 w7
   refine callA 3 rfl fun K hK => ?_
   go_simp
   refine hK.out _ _ ?_ (fun hS42 => ?_)
   · exact (by (iterate 6 (refine Far.setCell (p := ⟨(w.heap.size + 2), _, none⟩) ?_ (.inr rfl) _)); exact hS41)
   clear hK K
   refine wpAnyH_done (by kernel_rfl) ?_ _

   clear sc xc uc vc
   generalize ee : World.setCell _ ⟨(w.heap.size + 2), 5, none⟩ _ = w12
   have hsz12 := sizeS6 ee
   replace HF := fN6 HF ee
   replace HBs := bF6 HBs ee
   replace HBx := bS6 HBx ee
   replace HBu := bF6 HBu ee
   replace HBv := bF6 HBv ee
   replace HYe := yS6 HYe ee
   replace HYy := yS6 HYy ee
   replace HSz := sS6 HSz ee
   clear ee
   clear hI hZ
   go_wp2_with (fail)
   have z := kc6 HBs; have y := kc6 HBx
   refine bodyPost_ret (v := .tuple #[.agg #[.slice aL n cap, .int .i64 (k : Int), .int .i64 (deep : Int), .bool false, .int .i64 a0, .int .i64 b0], .agg #[.int .i64 5, .string (nowT ts jj).s, .int .i64 0, .slice (some ⟨w7.heap.size + 2, 0, none⟩) 2 2, .int .i64 (nowT ts jj).l, .int .i64 (nowT ts jj).c]]) (by clear HF H HBs HBx HBu HBv HYe HYy HSz; simp [results, Try.results34, go_sem, z, y]) rfl ?_
   exact ⟨_, _, _, rfl, refBelow HF.out, OwnS.nw HSz.out (fun b hb => Nat.le_trans (by omega) hb.1) (by omega)⟩
  ·
   obtain ⟨iq, dq, l_, c_, kq, sq, nq, aq, mq, cq, uq, vq, rfl, HBu, HBv⟩ := hgb
   have rc := kc6 HBr; have sc := kc6 HBs; have xc := kc6 HBx; have uc := kc6 HBu; have vc := kc6 HBv
   have hI := i012_01_0 w w2 wr
   go_wp2_with (fail)
   clear rc sc xc uc vc
   refine (nowR_any _ (refTok HF.out H.out)).mono ?_
   rintro _ w4 ⟨rfl, hb⟩
   replace HBr := kB HBr hb
   replace HBs := kB HBs hb
   replace HBx := kB HBx hb
   replace HBu := kB HBu hb
   replace HBv := kB HBv hb
   replace HF := kF HF hb
   have hs4 := hb.size
   clear hb
   simp only [tkV]
   clear hI
   have rc := kc6 HBr; have sc := kc6 HBs; have xc := kc6 HBx; have uc := kc6 HBu; have vc := kc6 HBv
   have hI := i012_01_0 w w2 w4
   go_wp2_with (fail)
   clear rc sc xc uc vc
   generalize ee : World.alloc w4 _ = w5
   have hsa5 := sizeA ee
   replace HF := fA HF ee
   replace HBr := bA HBr ee
   replace HBs := bA HBs ee
   replace HBx := bA HBx ee
   replace HBu := bA HBu ee
   replace HBv := bA HBv ee
   have HBk := nB ee (w4.heap.size)
   clear ee
   clear hI
   have rc := kc6 HBr; have sc := kc6 HBs; have xc := kc6 HBx; have uc := kc6 HBu; have vc := kc6 HBv; have kc := kc5 HBk
   have hI := i012_01_0_0 w w2 w4 w5
   have hZ := i012_01_01 w w2 w4
   clear rc sc xc uc vc kc
   clear hI hZ
   clear HBr HBk
   have sc := kc6 HBs; have xc := kc6 HBx; have uc := kc6 HBu; have vc := kc6 HBv
   have hI := i12_01_0 w w2 w5
   have hZ := i12_01_1 w w2 w4
   refine wp_region_held_drew (S := fun w' => Far (fun b => b = (w.heap.size + 1) ∨ b = (w.heap.size + 2)) (w5) w') (by kernel_rfl) (Far.of (below_drew _)) (fun hS40 => ?_)
   refine takeA 0 (v := ?_) rfl ?_ ?_
   rotate_left
   · (intro w hSw; (try dsimp only at hSw); replace uc := Far.c6z uc hSw; go_simp; try with_reducible rfl)
   try simp only [Act.put, pu1, pu2, pu3]
   refine takeA 1 (v := ?_) rfl ?_ ?_
   rotate_left
   · (intro w hSw; (try dsimp only at hSw); replace vc := Far.c6z vc hSw; go_simp; try with_reducible rfl)
   try simp only [Act.put, pu1, pu2, pu3]

   refine callA 2 rfl fun K hK => ?_
   go_simp
   refine hK.out _ _ ?_ (fun hS41 => ?_)
   · exact (by refine Far.trans ?_ (Far.of (below_drew _)); (iterate 6 (refine Far.setCell (p := ⟨(w.heap.size + 1), _, none⟩) ?_ (.inl rfl) _)); exact Far.refl _ _)
   clear hK K

   clear sc xc uc vc
   generalize ee : ((((((w5.setCell ⟨(w.heap.size + 1), 0, none⟩ (.slice aL n cap)).setCell ⟨(w.heap.size + 1), 1, none⟩ (.int .i64 (iq : Int))).setCell ⟨(w.heap.size + 1), 2, none⟩ (.int .i64 dq)).setCell ⟨(w.heap.size + 1), 3, none⟩ (.bool true)).setCell ⟨(w.heap.size + 1), 4, none⟩ (.int .i64 l_)).setCell ⟨(w.heap.size + 1), 5, none⟩ (.int .i64 c_)) = w6_1 at *
   have hq1 := sizeS6 ee
   replace HF := fN6 HF ee
   replace HBs := bS6 HBs ee
   replace HBx := bF6 HBx ee
   replace HBu := bF6 HBu ee
   replace HBv := bF6 HBv ee
   clear ee
   generalize ee : (w6_1.drew) = w6 at *
   have hq2 := sizeD ee
   replace HF := fD HF ee
   replace HBs := bD HBs ee
   replace HBx := bD HBx ee
   replace HBu := bD HBu ee
   replace HBv := bD HBv ee
   clear ee
   have hsa6 : w6.heap.size = w4.heap.size + 1 := by omega
   clear hq1 hq2
   clear hI hZ
   have sc := kc6 HBs; have xc := kc6 HBx; have uc := kc6 HBu; have vc := kc6 HBv
   have hI := i12_01_0 w w2 w6
   have hZ := i12_01_1 w w2 w4
   refine callA 3 rfl fun K hK => ?_
   go_simp
   refine hK.out _ _ ?_ (fun hS42 => ?_)
   · exact (by (iterate 6 (refine Far.setCell (p := ⟨(w.heap.size + 2), _, none⟩) ?_ (.inr rfl) _)); exact hS41)
   clear hK K
   refine wpAnyH_done (by kernel_rfl) ?_ _

   clear sc xc uc vc
   generalize ee : World.setCell _ ⟨(w.heap.size + 2), 5, none⟩ _ = w7
   have hsz7 := sizeS6 ee
   replace HF := fN6 HF ee
   replace HBs := bF6 HBs ee
   replace HBx := bS6 HBx ee
   replace HBu := bF6 HBu ee
   replace HBv := bF6 HBv ee
   clear ee
   clear hI hZ
   go_wp2_with (fail)
   have z := kc6 HBs; have y := kc6 HBx
   refine bodyPost_ret (v := .tuple #[.agg #[.slice aL n cap, .int .i64 (iq : Int), .int .i64 dq, .bool true, .int .i64 l_, .int .i64 c_], .agg #[.int .i64 kq, .string sq, .int .i64 nq, .slice aq mq cq, .int .i64 uq, .int .i64 vq]]) (by clear HF H HBs HBx HBu HBv; simp [results, Try.results34, go_sem, z, y]) rfl ?_
   exact ⟨_, _, _, _, _, _, _, _, _, _, rfl, refBelow HF.out⟩
set_option maxRecDepth 100000 in
set_option maxHeartbeats 20000000 in
theorem rankR_five {i deep : Nat} {r : Rd1} {a0 b0 : Int} (w : World) (hm : MemW w (.s 5 (tkRows ts)) (.slice aL n cap)) (HA : ∀ w2 : World, MemW w2 (.s 5 (tkRows ts)) (.slice aL n cap) → Calls Try.prog 52 #[rdV aL n cap (i : Int) (deep : Int) false a0 b0] w2 (AnsR aL n cap r deep a0 b0 w2)) :
  Calls Try.prog 34 #[rdV aL n cap (i : Int) (deep : Int) false a0 b0, .int .i64 5] w (AnsR aL n cap r deep a0 b0 w) := by
 have H := Lib.hid hm
 clear hm
 have HF : Hid (FarB w.heap.size w.heap.size w w) := Lib.hid (FarB.refl _ _ _)
 simp only [rdV]
 go_enter Try.func34, Try.ntmps34
 go_wp2_with (fail)
 generalize ee : World.alloc w _ = w1_1
 have hq1 := sizeA ee
 replace HF := fA HF ee
 have HBr := nB ee (w.heap.size)
 clear ee
 generalize ee : World.alloc w1_1 _ = w1_2
 have hq2 := sizeA ee
 replace HF := fA HF ee
 replace HBr := bA HBr ee
 have HBs := nB ee (w.heap.size + 1)
 clear ee
 generalize ee : World.alloc w1_2 _ = w1
 have hq3 := sizeA ee
 replace HF := fA HF ee
 replace HBr := bA HBr ee
 replace HBs := bA HBs ee
 have HBx := nB ee (w.heap.size + 2)
 clear ee
 have hsa1 : w1.heap.size = w.heap.size + 3 := by omega
 clear hq1 hq2 hq3
 have rc := kc6 HBr; have sc := kc6 HBs; have xc := kc6 HBx
 have hI := i012_0 w w1
 have hZ := i0123 w
 cases r with
 | bad l_ c_ =>
  clear rc sc xc
  refine (HA _ (refTok HF.out H.out)).mono ?_
  rintro _ w2 ⟨iq, dq, kq, sq, nq, aq, mq, cq, uq, vq, rfl, hb⟩
  replace HBr := kB HBr hb
  replace HBs := kB HBs hb
  replace HBx := kB HBx hb
  replace HF := kF HF hb
  have hs2 := hb.size
  clear hb
  simp only [rdV]
  clear hI hZ
  have rc := kc6 HBr; have sc := kc6 HBs; have xc := kc6 HBx
  have hI := i012_0 w w2
  go_wp2_with (fail)
  clear rc sc xc
  generalize ee : World.setCell _ ⟨(w.heap.size + 1), 5, none⟩ _ = w3_1
  have hq1 := sizeS6 ee
  replace HF := fN6 HF ee
  replace HBr := bF6 HBr ee
  replace HBs := bS6 HBs ee
  replace HBx := bF6 HBx ee
  clear ee
  generalize ee : World.setCell _ ⟨(w.heap.size + 2), 5, none⟩ _ = w3
  have hq2 := sizeS6 ee
  replace HF := fN6 HF ee
  replace HBr := bF6 HBr ee
  replace HBs := bF6 HBs ee
  replace HBx := bS6 HBx ee
  clear ee
  have hsz3 : w3.heap.size = w2.heap.size := by omega
  clear hq1 hq2
  clear hI
  go_wp2_with (fail)
  have z := kc6 HBs; have y := kc6 HBx
  refine bodyPost_ret (v := .tuple #[.agg #[.slice aL n cap, .int .i64 (iq : Int), .int .i64 dq, .bool true, .int .i64 l_, .int .i64 c_], .agg #[.int .i64 kq, .string sq, .int .i64 nq, .slice aq mq cq, .int .i64 uq, .int .i64 vq]]) (by clear HF H HBr HBs HBx; simp [results, Try.results34, go_sem, z, y]) rfl ?_
  exact ⟨_, _, _, _, _, _, _, _, _, _, rfl, refBelow HF.out⟩
 | ok x j =>
  clear rc sc xc
  refine (HA _ (refTok HF.out H.out)).mono ?_
  rintro _ w2 ⟨ax, mx, cx, rfl, hb, hm⟩
  replace HBr := kB HBr hb
  replace HBs := kB HBs hb
  replace HBx := kB HBx hb
  replace HF := kF HF hb
  have hs2 := hb.size
  clear hb
  have HMx := Lib.hid hm
  clear hm
  simp only [rdV, exV]
  clear hI hZ
  have rc := kc6 HBr; have sc := kc6 HBs; have xc := kc6 HBx
  have hI := i012_0 w w2
  go_wp2_with (fail)
  clear rc sc xc
  generalize ee : World.setCell _ ⟨(w.heap.size + 1), 5, none⟩ _ = w3_1
  have hq1 := sizeS6 ee
  replace HF := fN6 HF ee
  replace HBr := bF6 HBr ee
  replace HBs := bS6 HBs ee
  replace HBx := bF6 HBx ee
  replace HMx := mS6 HMx ee
  clear ee
  generalize ee : World.setCell _ ⟨(w.heap.size + 2), 5, none⟩ _ = w3
  have hq2 := sizeS6 ee
  replace HF := fN6 HF ee
  replace HBr := bF6 HBr ee
  replace HBs := bF6 HBs ee
  replace HBx := bS6 HBx ee
  replace HMx := mS6 HMx ee
  clear ee
  have hsz3 : w3.heap.size = w2.heap.size := by omega
  clear hq1 hq2
  clear hI
  go_wp2_with (fail)
  have z := kc6 HBs; have y := kc6 HBx
  refine bodyPost_ret (v := .tuple #[.agg #[.slice aL n cap, .int .i64 (j : Int), .int .i64 (deep : Int), .bool false, .int .i64 a0, .int .i64 b0], .agg #[.int .i64 x.kind, .string x.name, .int .i64 x.n, .slice ax mx cx, .int .i64 x.line, .int .i64 x.col]]) (by clear HF H HBr HBs HBx HMx; simp [results, Try.results34, go_sem, z, y]) rfl ?_
  exact ⟨_, _, _, rfl, refBelow HF.out, memNw HMx.out (by omega)⟩
theorem rank_reads (f : Nat) (HK : ∀ g, g ≤ f → ReadsK ts aL n cap g) (HA : ∀ (i deep : Nat) (r : Rd1) (a0 b0 : Int) (w : World), deep ≤ 40 → MemW w (.s 5 (tkRows ts)) (.slice aL n cap) → n ≤ 1048576 → (andT (readE ts f .atom i deep) fun x j => readE ts f (.apps [x]) j deep) = some r → Calls Try.prog 52 #[rdV aL n cap (i : Int) (deep : Int) false a0 b0] w (AnsR aL n cap r deep a0 b0 w)) : ReadsK ts aL n cap (f + 1) := by
  intro rank i deep r a0 b0 w h1 h5 hd hm hn hr
  unfold rkN at hr
  by_cases e1 : rank = 1
  · rw [if_pos e1] at hr
    subst e1
    rw [or_more] at hr
    exact rankR_go (Nat.le_refl _) (by omega) ⟨f, Nat.le_refl _, hr⟩ w hd hm hn HK
  · rw [if_neg e1, readE] at hr
    by_cases e5 : 4 < rank
    · obtain rfl : rank = 5 := by omega
      rw [if_pos (by omega)] at hr
      exact rankR_five w hm fun w2 h2 => HA i deep r a0 b0 w2 hd h2 hn hr
    · rw [if_neg e5] at hr
      cases f with
      | zero => simp [readE, andT] at hr
      | succ f =>
        have e : (fun x j => readE ts (f + 1) (.more rank x) j deep) = fun x j => moreR ts f rank x j deep := by
          funext x j
          exact left_more (by omega)
        rw [e] at hr
        exact rankR_go h1 (by omega) ⟨f, by omega, hr⟩ w hd hm hn HK
end
end Go.Proofs.Ytnmlobakiclgiaa
