/-
 The document's reader's app: an App. Under what atom does with less fuel.
-/
import Derived.Test.YtnmlobakiclgiaaEx17
import Derived.Deep.Cut
namespace Go.Proofs.Ytnmlobakiclgiaa
open Go.RowKit
section
variable {ts : List Tk} {aL : Option Addr} {n cap : Nat}
attribute [local go_sem] tk_pos tk_text tk_kind0
def bad4 (q : Nat) (w : World) : Bool :=
 match w.cell? ⟨q, 3, none⟩ with
 | some (.bool b) => b
 | _ => false
set_option maxRecDepth 100000 in
set_option maxHeartbeats 20000000 in
theorem appR_reads {f i deep : Nat} {r : Rd1} {a0 b0 : Int} (w : World) (hd : deep ≤ 40) (hm : MemW w (.s 5 (tkRows ts)) (.slice aL n cap)) (hn : n ≤ 1048576) (hr : (andT (readE ts f .atom i deep) fun x j => readE ts f (.apps [x]) j deep) = some r) (HT : ∀ g, g ≤ f → ReadsR ts aL n cap 67 .atom g) :
  Calls Try.prog 52 #[rdV aL n cap (i : Int) (deep : Int) false a0 b0] w (AnsR aL n cap r deep a0 b0 w) := by
 have H := Lib.hid hm
 clear hm
 have HF : Hid (FarB w.heap.size w.heap.size w w) := Lib.hid (FarB.refl _ _ _)
 simp only [rdV]
 go_enter Try.func52, Try.ntmps52
 go_wp2_with (fail)
 generalize ee : World.alloc w _ = w1_1
 have hq1 := sizeA ee
 replace HF := fA HF ee
 have HBr := nB ee (w.heap.size)
 clear ee
 generalize ee : World.alloc w1_1 _ = w1_2
 have hq2 := sizeA ee
 replace HF := fA HF ee
 replace HBr := bA HBr ee
 have HBs := nB ee (w.heap.size + 1)
 clear ee
 generalize ee : World.alloc w1_2 _ = w1
 have hq3 := sizeA ee
 replace HF := fA HF ee
 replace HBr := bA HBr ee
 replace HBs := bA HBs ee
 have HBx := nB ee (w.heap.size + 2)
 clear ee
 have hsa1 : w1.heap.size = w.heap.size + 3 := by omega
 clear hq1 hq2 hq3
 have rc := kc6 HBr; have sc := kc6 HBs; have xc := kc6 HBx
 have hI := i012_0 w w1
 have hZ := i0123 w
 rcases hx : readE ts f .atom i deep with _ | ⟨x, j⟩ | ⟨l_, c_⟩
 · (rw [hx] at hr; cases hr)
 rotate_left
 ·
  rw [hx] at hr
  first | simp only at hr | simp only [andT] at hr
  cases hr
  clear rc sc xc
  refine (HT f (Nat.le_refl _) i _ _ _ _ _ hd (refTok HF.out H.out) hn hx).mono ?_
  rintro _ w2 ⟨iq, dq, kq, sq, nq, aq, mq, cq, uq, vq, rfl, hb⟩
  replace HBr := kB HBr hb
  replace HBs := kB HBs hb
  replace HBx := kB HBx hb
  replace HF := kF HF hb
  have hs2 := hb.size
  clear hb
  simp only [rdV]
  clear hI hZ
  have rc := kc6 HBr; have sc := kc6 HBs; have xc := kc6 HBx
  have hI := i012_0 w w2
  go_wp2_with (fail)
  clear rc sc xc
  generalize ee : World.alloc w2 _ = w3_1
  have hq1 := sizeA ee
  replace HF := fA HF ee
  replace HBr := bA HBr ee
  replace HBs := bA HBs ee
  replace HBx := bA HBx ee
  have HBt := nB ee (w2.heap.size)
  clear ee
  generalize ee : World.alloc w3_1 _ = w3_2
  have hq2 := sizeA ee
  replace HF := fA HF ee
  replace HBr := bA HBr ee
  replace HBs := bA HBs ee
  replace HBx := bA HBx ee
  replace HBt := bA HBt ee
  have HBe := nB ee (w2.heap.size + 1)
  clear ee
  generalize ee : World.alloc w3_2 _ = w3
  have hq3 := sizeA ee
  replace HF := fA HF ee
  replace HBr := bA HBr ee
  replace HBs := bA HBs ee
  replace HBx := bA HBx ee
  replace HBt := bA HBt ee
  replace HBe := bA HBe ee
  have HBg := nB ee (w2.heap.size + 2)
  clear ee
  have hsa3 : w3.heap.size = w2.heap.size + 3 := by omega
  clear hq1 hq2 hq3
  clear hI
  go_loopw [6] (fun v wr => v = .slice (some ⟨(w2.heap.size + 2), 0, none⟩) 1 1 ∧ w3 = wr) (fun _ _ => 0)
  case atStart => exact ⟨rfl, rfl⟩
  case round =>
   obtain ⟨hv, hw⟩ := hrel
   subst hv
   subst hw
   have rc := kc6 HBr; have sc := kc6 HBs; have xc := kc6 HBx; have tc := kc6 HBt; have ec := kc6 HBe; have gc := kc6 HBg
   have hI := i012_012_0 w w2 w3
   have hZ := i012_0123 w w2
   go_wp2_with (fail)
   clear rc sc xc tc ec gc
   clear hI hZ
   clear HBr HBg
   have sc := kc6 HBs; have xc := kc6 HBx; have tc := kc6 HBt; have ec := kc6 HBe
   have hI := i12_01_0 w w2 w3
   have hZ := i12_013 w w2
   refine wp_region_held_drew (S := fun w' => Far (fun b => b = (w.heap.size + 1) ∨ b = (w.heap.size + 2)) (w3) w') (by kernel_rfl) (Far.of (below_drew _)) (fun hS40 => ?_)
   refine takeA 0 (v := ?_) rfl ?_ ?_
   rotate_left
   · (intro w hSw; (try dsimp only at hSw); replace tc := Far.c6z tc hSw; go_simp; try with_reducible rfl)
   try simp only [Act.put, pu1, pu2, pu3]
   refine takeA 1 (v := ?_) rfl ?_ ?_
   rotate_left
   · (intro w hSw; (try dsimp only at hSw); replace ec := Far.c6z ec hSw; go_simp; try with_reducible rfl)
   try simp only [Act.put, pu1, pu2, pu3]

   refine callA 2 rfl fun K hK => ?_
   go_simp
   refine hK.out _ _ ?_ (fun hS41 => ?_)
   · exact (by refine Far.trans ?_ (Far.of (below_drew _)); (iterate 6 (refine Far.setCell (p := ⟨(w.heap.size + 1), _, none⟩) ?_ (.inl rfl) _)); exact Far.refl _ _)
   clear hK K

   clear sc xc tc ec
   generalize ee : ((((((w3.setCell ⟨(w.heap.size + 1), 0, none⟩ (.slice aL n cap)).setCell ⟨(w.heap.size + 1), 1, none⟩ (.int .i64 (iq : Int))).setCell ⟨(w.heap.size + 1), 2, none⟩ (.int .i64 dq)).setCell ⟨(w.heap.size + 1), 3, none⟩ (.bool true)).setCell ⟨(w.heap.size + 1), 4, none⟩ (.int .i64 l_)).setCell ⟨(w.heap.size + 1), 5, none⟩ (.int .i64 c_)) = w4_1 at *
   have hq1 := sizeS6 ee
   replace HF := fN6 HF ee
   replace HBs := bS6 HBs ee
   replace HBx := bF6 HBx ee
   replace HBt := bF6 HBt ee
   replace HBe := bF6 HBe ee
   clear ee
   generalize ee : (w4_1.drew) = w4 at *
   have hq2 := sizeD ee
   replace HF := fD HF ee
   replace HBs := bD HBs ee
   replace HBx := bD HBx ee
   replace HBt := bD HBt ee
   replace HBe := bD HBe ee
   clear ee
   have hsa4 : w4.heap.size = w2.heap.size + 3 := by omega
   clear hq1 hq2
   clear hI hZ
   have sc := kc6 HBs; have xc := kc6 HBx; have tc := kc6 HBt; have ec := kc6 HBe
   have hI := i12_01_0 w w2 w4
   have hZ := i12_013 w w2
   refine callA 3 rfl fun K hK => ?_
   go_simp
   refine hK.out _ _ ?_ (fun hS42 => ?_)
   · exact (by (iterate 6 (refine Far.setCell (p := ⟨(w.heap.size + 2), _, none⟩) ?_ (.inr rfl) _)); exact hS41)
   clear hK K
   refine wpAnyH_done (by kernel_rfl) ?_ _

   clear sc xc tc ec
   generalize ee : World.setCell _ ⟨(w.heap.size + 2), 5, none⟩ _ = w5
   have hsz5 := sizeS6 ee
   replace HF := fN6 HF ee
   replace HBs := bF6 HBs ee
   replace HBx := bS6 HBx ee
   replace HBt := bF6 HBt ee
   replace HBe := bF6 HBe ee
   clear ee
   clear hI hZ
   go_wp2_with (fail)
   have z := kc6 HBs; have y := kc6 HBx
   refine bodyPost_ret (v := .tuple #[.agg #[.slice aL n cap, .int .i64 (iq : Int), .int .i64 dq, .bool true, .int .i64 l_, .int .i64 c_], .agg #[.int .i64 kq, .string sq, .int .i64 nq, .slice aq mq cq, .int .i64 uq, .int .i64 vq]]) (by clear HF H HBs HBx HBt HBe; simp [results, Try.results52, go_sem, z, y]) rfl ?_
   exact ⟨_, _, _, _, _, _, _, _, _, _, rfl, refBelow HF.out⟩
 rw [hx] at hr
 first | simp only at hr | simp only [andT] at hr
 clear rc sc xc
 refine (HT f (Nat.le_refl _) i _ _ _ _ _ hd (refTok HF.out H.out) hn hx).mono ?_
 rintro _ w2 ⟨ax, mx, cx, rfl, hb, hm⟩
 replace HBr := kB HBr hb
 replace HBs := kB HBs hb
 replace HBx := kB HBx hb
 replace HF := kF HF hb
 have hs2 := hb.size
 clear hb
 have HMx := Lib.hid hm
 clear hm
 simp only [rdV, exV]
 have hfw : i < j ∧ j ≤ ts.length := readE_fwd f .atom i deep x j hx
 clear hI hZ
 have rc := kc6 HBr; have sc := kc6 HBs; have xc := kc6 HBx
 have hI := i012_0 w w2
 go_wp2_with (fail)
 have HYw : Hid (Mem (NwS (Bt w1.heap.size w2.heap.size) w2.heap.size) w2 _ _) := Lib.hid (memS_bt HMx.out (by omega))
 have HYx : Hid (Mem (NwS (Av w1.heap.size w2.heap.size (w2.heap.size + 1)) w2.heap.size) w2 _ _) := Lib.hid (memS_av (g := w2.heap.size) (k := (w2.heap.size + 1)) HMx.out (by omega) (by omega) (by omega))
 clear HMx
 clear rc sc xc
 generalize ee : World.alloc w2 _ = w3_1
 have hq1 := sizeA ee
 replace HF := fA HF ee
 replace HBr := bA HBr ee
 replace HBs := bA HBs ee
 replace HBx := bA HBx ee
 replace HYw := yA HYw ee
 replace HYx := yA HYx ee
 have HBu := nB ee (w2.heap.size)
 clear ee
 generalize ee : World.alloc w3_1 _ = w3_2
 have hq2 := sizeA ee
 replace HF := fA HF ee
 replace HBr := bA HBr ee
 replace HBs := bA HBs ee
 replace HBx := bA HBx ee
 replace HBu := bA HBu ee
 replace HYw := yA HYw ee
 replace HYx := yA HYx ee
 have HBv := nB ee (w2.heap.size + 1)
 clear ee
 generalize ee : World.alloc w3_2 _ = w3
 have hq3 := sizeA ee
 have HNEW := Lib.hid (builtS1E (A := Av w1.heap.size w2.heap.size (w2.heap.size + 1)) (base := (w2.heap.size + 2)) HYx.out ee (b := w2.heap.size + 2) (by omega) (by omega))
 replace HF := fA HF ee
 replace HBr := bA HBr ee
 replace HBs := bA HBs ee
 replace HBx := bA HBx ee
 replace HBu := bA HBu ee
 replace HBv := bA HBv ee
 replace HYw := yA HYw ee
 replace HYx := yA HYx ee
 have HSl := HNEW
 clear HNEW
 clear ee
 have hsa3 : w3.heap.size = w2.heap.size + 3 := by omega
 clear hq1 hq2 hq3
 clear hI
 clear HYx
 go_loopw [6] (fun v wr => Hid (FarB w.heap.size w.heap.size w wr) ∧ (w2.heap.size + 2) + 1 ≤ wr.heap.size ∧ Hid (Bo wr w.heap.size 47 #[.slice aL n cap, .int .i64 (i : Int), .int .i64 (deep : Int), .bool false, .int .i64 a0, .int .i64 b0]) ∧ Hid (Bo wr (w.heap.size + 1) 47 #[.slice none 0 0, .int .i64 0, .int .i64 0, .bool false, .int .i64 0, .int .i64 0]) ∧ Hid (Bo wr (w.heap.size + 2) 27 #[.int .i64 0, .string ⟨#[]⟩, .int .i64 0, .slice none 0 0, .int .i64 0, .int .i64 0]) ∧ Hid (Bo wr (w2.heap.size + 1) 27 #[.int .i64 x.kind, .string x.name, .int .i64 x.n, .slice ax mx cx, .int .i64 x.line, .int .i64 x.col]) ∧ Hid (Mem (NwS (Bt w1.heap.size w2.heap.size) wr.heap.size) wr (.s 6 (Ex.rows x.args)) (.slice ax mx cx)) ∧ ((∃ (l : List Ex) (jj g : Nat), readE ts g (.apps l) jj deep = some r ∧ g ≤ f ∧ Hid (Bo wr w2.heap.size 47 #[.slice aL n cap, .int .i64 (jj : Int), .int .i64 (deep : Int), .bool false, .int .i64 a0, .int .i64 b0]) ∧ Hid (OwnS (Av w1.heap.size w2.heap.size (w2.heap.size + 1)) (w2.heap.size + 2) 27 6 wr v (Ex.rows l)) ∧ l[0]? = some x ∧ l.length ≤ jj ∧ jj ≤ ts.length) ∨ (∃ (iq : Nat) (dq l_ c_ : Int) (av : Option Addr) (mv cv : Nat), r = .bad l_ c_ ∧ v = .slice av mv cv ∧ 2 ≤ mv ∧ Hid (Bo wr w2.heap.size 47 #[.slice aL n cap, .int .i64 (iq : Int), .int .i64 dq, .bool true, .int .i64 l_, .int .i64 c_])))) (fun v wr => if bad4 w2.heap.size wr then 0 else ts.length + 2 - lenV v)
 case atStart => exact ⟨HF, by omega, HBr, HBs, HBx, HBv, HYw, .inl ⟨[x], j, f, hr, Nat.le_refl _, HBu, HSl, rfl, by simp only [List.length_cons, List.length_nil]; omega, hfw.2⟩⟩
 case round =>
  clear HF HBr HBs HBx HBu HBv HYw HSl hr
  obtain ⟨HF, hsw, HBr, HBs, HBx, HBv, HYw, hgb⟩ := hrel
  rcases hgb with hgb | hgb
  ·
   obtain ⟨l, jj, g, hr, hg, HBu, HSl, hl0, hl1, hl2⟩ := hgb
   have hsm : l.length ≤ 1048576 := by have h1 := H.out.len.1; rw [tkRows_len] at h1; omega
   have hlp : 0 < l.length := by cases l with | nil => cases hl0 | cons _ _ => exact Nat.succ_pos _
   obtain ⟨a1, m1, c1, rfl, hm1, hm2, hm3⟩ := HSl.out.form
   rw [Ex.rows_len] at hm1
   have HM1 := Lib.hid hm1
   have hm4 : m1 ≤ 1048576 := by omega
   clear hm1 hm3
   have hnu : (if bad4 w2.heap.size wr then 0 else ts.length + 2 - lenV (.slice a1 m1 c1)) = ts.length + 2 - m1 := by unfold bad4; rw [HBu.out.cell (j := 3) rfl]; simp [lenV]
   have HNU := Lib.hid hnu
   clear hnu
   have rc := kc6 HBr; have sc := kc6 HBs; have xc := kc6 HBx; have uc := kc6 HBu; have vc := kc6 HBv
   have hI := i012_01_0 w w2 wr
   go_wp2_with (fail)
   clear rc sc xc uc vc
   refine (nowR_any _ (refTok HF.out H.out)).mono ?_
   rintro _ w4 ⟨rfl, hb⟩
   replace HBr := kB HBr hb
   replace HBs := kB HBs hb
   replace HBx := kB HBx hb
   replace HBu := kB HBu hb
   replace HBv := kB HBv hb
   replace HYw := kY HYw hb
   replace HSl := kS HSl hb
   replace HF := kF HF hb
   have hs4 := hb.size
   clear hb
   simp only [tkV]
   clear hI
   have rc := kc6 HBr; have sc := kc6 HBs; have xc := kc6 HBx; have uc := kc6 HBu; have vc := kc6 HBv
   have hI := i012_01_0 w w2 w4
   go_wp2_with (fail)
   cases hst : startsE (nowT ts jj) with
   | false =>
    clear rc sc xc uc vc
    refine (rstarts_any (nowT ts jj) _).mono ?_
    rintro _ w5 ⟨rfl, hb⟩
    replace HBr := kB HBr hb
    replace HBs := kB HBs hb
    replace HBx := kB HBx hb
    replace HBu := kB HBu hb
    replace HBv := kB HBv hb
    replace HYw := kY HYw hb
    replace HSl := kS HSl hb
    replace HF := kF HF hb
    have hs5 := hb.size
    clear hb
    rw [hst]
    cases g with
    | zero => rw [readE] at hr; cases hr
    | succ g =>
     rw [readE] at hr
     simp only [hst, Bool.false_eq_true, if_false] at hr
     cases hr
     by_cases h1 : l.length = 1
     ·
      obtain rfl : m1 = 1 := by have := HM1.out; omega
      have hm9 : ((1 : Int) == 1) = true := rfl
      have HZ : Hid (appE l = x) := Lib.hid (by match l, h1, hl0 with | [e], _, h => simpa [appE] using h)
      clear hI
      have rc := kc6 HBr; have sc := kc6 HBs; have xc := kc6 HBx; have uc := kc6 HBu; have vc := kc6 HBv
      have hI := i012_01_0 w w2 w5
      go_wp2_with (fail)
      clear rc sc xc uc vc
      clear hI
      clear HBr
      have sc := kc6 HBs; have xc := kc6 HBx; have uc := kc6 HBu; have vc := kc6 HBv
      have hI := i12_01_0 w w2 w5
      refine wp_region_held_drew (S := fun w' => Far (fun b => b = (w.heap.size + 1) ∨ b = (w.heap.size + 2)) (w5) w') (by kernel_rfl) (Far.of (below_drew _)) (fun hS40 => ?_)
      refine takeA 0 (v := ?_) rfl ?_ ?_
      rotate_left
      · (intro w hSw; (try dsimp only at hSw); replace uc := Far.c6z uc hSw; go_simp; try with_reducible rfl)
      try simp only [Act.put, pu1, pu2, pu3]
      refine takeA 1 (v := ?_) rfl ?_ ?_
      rotate_left
      · (intro w hSw; (try dsimp only at hSw); replace vc := Far.c6z vc hSw; go_simp; try with_reducible rfl)
      try simp only [Act.put, pu1, pu2, pu3]

      refine callA 2 rfl fun K hK => ?_
      go_simp
      refine hK.out _ _ ?_ (fun hS41 => ?_)
      · exact (by refine Far.trans ?_ (Far.of (below_drew _)); (iterate 6 (refine Far.setCell (p := ⟨(w.heap.size + 1), _, none⟩) ?_ (.inl rfl) _)); exact Far.refl _ _)
      clear hK K

      clear sc xc uc vc
      generalize ee : ((((((w5.setCell ⟨(w.heap.size + 1), 0, none⟩ (.slice aL n cap)).setCell ⟨(w.heap.size + 1), 1, none⟩ (.int .i64 (jj : Int))).setCell ⟨(w.heap.size + 1), 2, none⟩ (.int .i64 (deep : Int))).setCell ⟨(w.heap.size + 1), 3, none⟩ (.bool false)).setCell ⟨(w.heap.size + 1), 4, none⟩ (.int .i64 a0)).setCell ⟨(w.heap.size + 1), 5, none⟩ (.int .i64 b0)) = w6_1 at *
      have hq1 := sizeS6 ee
      replace HF := fN6 HF ee
      replace HBs := bS6 HBs ee
      replace HBx := bF6 HBx ee
      replace HBu := bF6 HBu ee
      replace HBv := bF6 HBv ee
      replace HYw := yS6 HYw ee
      replace HSl := sS6 HSl ee
      clear ee
      generalize ee : (w6_1.drew) = w6 at *
      have hq2 := sizeD ee
      replace HF := fD HF ee
      replace HBs := bD HBs ee
      replace HBx := bD HBx ee
      replace HBu := bD HBu ee
      replace HBv := bD HBv ee
      replace HYw := yD HYw ee
      replace HSl := sD HSl ee
      clear ee
      have hsa6 : w6.heap.size = w5.heap.size + 0 := by omega
      clear hq1 hq2
      clear hI
      have sc := kc6 HBs; have xc := kc6 HBx; have uc := kc6 HBu; have vc := kc6 HBv
      have hI := i12_01_0 w w2 w6
      have hZ := i12_01_0 w w2 w5
      refine callA 3 rfl fun K hK => ?_
      go_simp
      refine hK.out _ _ ?_ (fun hS42 => ?_)
      · exact (by (iterate 6 (refine Far.setCell (p := ⟨(w.heap.size + 2), _, none⟩) ?_ (.inr rfl) _)); exact hS41)
      clear hK K
      refine wpAnyH_done (by kernel_rfl) ?_ _

      clear sc xc uc vc
      generalize ee : World.setCell _ ⟨(w.heap.size + 2), 5, none⟩ _ = w7
      have hsz7 := sizeS6 ee
      replace HF := fN6 HF ee
      replace HBs := bF6 HBs ee
      replace HBx := bS6 HBx ee
      replace HBu := bF6 HBu ee
      replace HBv := bF6 HBv ee
      replace HYw := yS6 HYw ee
      replace HSl := sS6 HSl ee
      clear ee
      clear hI hZ
      go_wp2_with (fail)
      have z := kc6 HBs; have y := kc6 HBx
      refine bodyPost_ret (v := .tuple #[.agg #[.slice aL n cap, .int .i64 (jj : Int), .int .i64 (deep : Int), .bool false, .int .i64 a0, .int .i64 b0], .agg #[.int .i64 x.kind, .string x.name, .int .i64 x.n, .slice ax mx cx, .int .i64 x.line, .int .i64 x.col]]) (by clear HF H HBs HBx HBu HBv HYw HSl; simp [results, Try.results52, go_sem, z, y]) rfl ?_
      rw [HZ.out]
      exact ⟨_, _, _, rfl, refBelow HF.out, (bt_nw (base := w.heap.size) HYw.out (by omega))⟩
     have hm9 : ((m1 : Int) == 1) = false := by have := HM1.out; simp; omega
     have HZ : Hid (appE l = .mk 4 .empty 0 l x.line x.col) := Lib.hid (by match l, h1, hl0 with | e :: e2 :: es, _, h => (have h2 : e = x := by simpa using h); rw [← h2]; rfl)
     clear hI
     have rc := kc6 HBr; have sc := kc6 HBs; have xc := kc6 HBx; have uc := kc6 HBu; have vc := kc6 HBv
     have hI := i012_01_0 w w2 w5
     go_wp2_with (fail)
     clear rc sc xc uc vc
     clear hI
     clear HBr
     have sc := kc6 HBs; have xc := kc6 HBx; have uc := kc6 HBu; have vc := kc6 HBv
     have hI := i12_01_0 w w2 w5
     refine wp_region_held_drew (S := fun w' => Far (fun b => b = (w.heap.size + 1) ∨ b = (w.heap.size + 2)) (w5) w') (by kernel_rfl) (Far.of (below_drew _)) (fun hS40 => ?_)
     refine takeA 0 (v := ?_) rfl ?_ ?_
     rotate_left
     · (intro w hSw; (try dsimp only at hSw); replace uc := Far.c6z uc hSw; replace vc := Far.c6z vc hSw; go_simp; try with_reducible rfl)
     try simp only [Act.put, pu1, pu2, pu3]
     refine takeA 1 (v := ?_) rfl ?_ ?_
     rotate_left
     · (intro w hSw; (try dsimp only at hSw); replace uc := Far.c6z uc hSw; replace vc := Far.c6z vc hSw; go_simp; try with_reducible rfl)
     try simp only [Act.put, pu1, pu2, pu3]
     refine takeA 2 (v := ?_) rfl ?_ ?_
     rotate_left
     · (intro w hSw; (try dsimp only at hSw); replace uc := Far.c6z uc hSw; replace vc := Far.c6z vc hSw; go_simp; try with_reducible rfl)
     try simp only [Act.put, pu1, pu2, pu3]
     refine takeA 3 (v := ?_) rfl ?_ ?_
     rotate_left
     · (intro w hSw; (try dsimp only at hSw); replace uc := Far.c6z uc hSw; replace vc := Far.c6z vc hSw; go_simp; try with_reducible rfl)
     try simp only [Act.put, pu1, pu2, pu3]
     refine takeA 4 (v := ?_) rfl ?_ ?_
     rotate_left
     · (intro w hSw; (try dsimp only at hSw); replace uc := Far.c6z uc hSw; replace vc := Far.c6z vc hSw; go_simp; try with_reducible rfl)
     try simp only [Act.put, pu1, pu2, pu3]

     refine callA 5 rfl fun K hK => ?_
     go_simp
     refine hK.out _ _ ?_ (fun hS41 => ?_)
     · exact (by refine Far.trans ?_ (Far.of (below_drew _)); (iterate 6 (refine Far.setCell (p := ⟨(w.heap.size + 1), _, none⟩) ?_ (.inl rfl) _)); exact Far.refl _ _)
     clear hK K

     clear sc xc uc vc
     generalize ee : ((((((w5.setCell ⟨(w.heap.size + 1), 0, none⟩ (.slice aL n cap)).setCell ⟨(w.heap.size + 1), 1, none⟩ (.int .i64 (jj : Int))).setCell ⟨(w.heap.size + 1), 2, none⟩ (.int .i64 (deep : Int))).setCell ⟨(w.heap.size + 1), 3, none⟩ (.bool false)).setCell ⟨(w.heap.size + 1), 4, none⟩ (.int .i64 a0)).setCell ⟨(w.heap.size + 1), 5, none⟩ (.int .i64 b0)) = w6_1 at *
     have hq1 := sizeS6 ee
     replace HF := fN6 HF ee
     replace HBs := bS6 HBs ee
     replace HBx := bF6 HBx ee
     replace HBu := bF6 HBu ee
     replace HBv := bF6 HBv ee
     replace HYw := yS6 HYw ee
     replace HSl := sS6 HSl ee
     clear ee
     generalize ee : (w6_1.drew) = w6 at *
     have hq2 := sizeD ee
     replace HF := fD HF ee
     replace HBs := bD HBs ee
     replace HBx := bD HBx ee
     replace HBu := bD HBu ee
     replace HBv := bD HBv ee
     replace HYw := yD HYw ee
     replace HSl := sD HSl ee
     clear ee
     have hsa6 : w6.heap.size = w5.heap.size + 0 := by omega
     clear hq1 hq2
     clear hI
     have sc := kc6 HBs; have xc := kc6 HBx; have uc := kc6 HBu; have vc := kc6 HBv
     have hI := i12_01_0 w w2 w6
     have hZ := i12_01_0 w w2 w5
     refine callA 6 rfl fun K hK => ?_
     go_simp
     refine hK.out _ _ ?_ (fun hS42 => ?_)
     · exact (by (iterate 6 (refine Far.setCell (p := ⟨(w.heap.size + 2), _, none⟩) ?_ (.inr rfl) _)); exact hS41)
     clear hK K
     refine wpAnyH_done (by kernel_rfl) ?_ _

     clear sc xc uc vc
     generalize ee : World.setCell _ ⟨(w.heap.size + 2), 5, none⟩ _ = w7
     have hsz7 := sizeS6 ee
     replace HF := fN6 HF ee
     replace HBs := bF6 HBs ee
     replace HBx := bS6 HBx ee
     replace HBu := bF6 HBu ee
     replace HBv := bF6 HBv ee
     replace HYw := yS6 HYw ee
     replace HSl := sS6 HSl ee
     clear ee
     clear hI hZ
     go_wp2_with (fail)
     have z := kc6 HBs; have y := kc6 HBx
     refine bodyPost_ret (v := .tuple #[.agg #[.slice aL n cap, .int .i64 (jj : Int), .int .i64 (deep : Int), .bool false, .int .i64 a0, .int .i64 b0], .agg #[.int .i64 4, .string ⟨#[]⟩, .int .i64 0, .slice a1 m1 c1, .int .i64 x.line, .int .i64 x.col]]) (by clear HF H HBs HBx HBu HBv HYw HSl; simp [results, Try.results52, go_sem, z, y]) rfl ?_
     rw [HZ.out]
     exact ⟨_, _, _, rfl, refBelow HF.out, (OwnS.nw (base0 := w.heap.size) HSl.out (fun b hb => Nat.le_trans (by omega) hb.1) (by omega))⟩
   | true =>
    clear rc sc xc uc vc
    refine (rstarts_any (nowT ts jj) _).mono ?_
    rintro _ w5 ⟨rfl, hb⟩
    replace HBr := kB HBr hb
    replace HBs := kB HBs hb
    replace HBx := kB HBx hb
    replace HBu := kB HBu hb
    replace HBv := kB HBv hb
    replace HYw := kY HYw hb
    replace HSl := kS HSl hb
    replace HF := kF HF hb
    have hs5 := hb.size
    clear hb
    rw [hst]
    cases g with
    | zero => rw [readE] at hr; cases hr
    | succ g =>
     rw [readE] at hr
     simp only [hst, if_true] at hr
     clear hI
     have rc := kc6 HBr; have sc := kc6 HBs; have xc := kc6 HBx; have uc := kc6 HBu; have vc := kc6 HBv
     have hI := i012_01_0 w w2 w5
     go_wp2_with (fail)
     rcases hy : readE ts g .atom jj deep with _ | ⟨y, k⟩ | ⟨l_, c_⟩
     · (rw [hy] at hr; cases hr)
     rotate_left
     ·
      rw [hy] at hr
      first | simp only at hr | simp only [andT] at hr
      cases hr
      have HOW := HSl
      clear rc sc xc uc vc
      refine (HT g (by omega) jj _ _ _ _ _ hd (refTok HF.out H.out) hn hy).mono ?_
      rintro _ w6 ⟨iq, dq, kq, sq, nq, aq, mq, cq, uq, vq, rfl, hb⟩
      replace HBr := kB HBr hb
      replace HBs := kB HBs hb
      replace HBx := kB HBx hb
      replace HBu := kB HBu hb
      replace HBv := kB HBv hb
      replace HYw := kY HYw hb
      replace HSl := kS HSl hb
      replace HF := kF HF hb
      have hs6 := hb.size
      clear hb
      simp only [rdV]
      clear hI
      have rc := kc6 HBr; have sc := kc6 HBs; have xc := kc6 HBx; have uc := kc6 HBu; have vc := kc6 HBv
      have hI := i012_01_0 w w2 w6
      go_upto_region 5 with (fail)
      clear rc sc xc uc vc
      generalize ee : World.alloc w6 _ = w7_1
      have hq1 := sizeA ee
      replace HF := fA HF ee
      replace HBr := bA HBr ee
      replace HBs := bA HBs ee
      replace HBx := bA HBx ee
      replace HBu := bA HBu ee
      replace HBv := bA HBv ee
      replace HYw := yA HYw ee
      replace HSl := sA HSl ee
      have HBp := nB ee (w6.heap.size)
      clear ee
      generalize ee : World.alloc w7_1 _ = w7
      have hq2 := sizeA ee
      replace HF := fA HF ee
      replace HBr := bA HBr ee
      replace HBs := bA HBs ee
      replace HBx := bA HBx ee
      replace HBu := bA HBu ee
      replace HBv := bA HBv ee
      replace HBp := bA HBp ee
      replace HYw := yA HYw ee
      replace HSl := sA HSl ee
      have HBo := nB ee (w6.heap.size + 1)
      clear ee
      have hsa7 : w7.heap.size = w6.heap.size + 2 := by omega
      clear hq1 hq2
      clear hI
      have rc := kc6 HBr; have sc := kc6 HBs; have xc := kc6 HBx; have uc := kc6 HBu; have vc := kc6 HBv; have pc := kc6 HBp; have oc := kc6 HBo
      have hI := i012_01_01_0 w w2 w6 w7
      have hZ := i012_01_012 w w2 w6
      go_upto_region 6 with (fail)
      clear rc sc xc uc vc pc oc
      generalize ee : World.setCell _ ⟨w2.heap.size, 5, none⟩ _ = w8
      have hsz8 := sizeS6 ee
      replace HF := fN6 HF ee
      replace HBr := bF6 HBr ee
      replace HBs := bF6 HBs ee
      replace HBx := bF6 HBx ee
      replace HBu := bS6 HBu ee
      replace HBv := bF6 HBv ee
      replace HBp := bF6 HBp ee
      replace HBo := bF6 HBo ee
      replace HYw := yS6 HYw ee
      replace HSl := sS6 HSl ee
      clear ee
      clear hI hZ
      have rc := kc6 HBr; have sc := kc6 HBs; have xc := kc6 HBx; have uc := kc6 HBu; have vc := kc6 HBv; have pc := kc6 HBp; have oc := kc6 HBo
      have hI := i012_01_01_0 w w2 w6 w8
      have hZ := i012_01_012 w w2 w6
      go_wp2_with (first | (at_builtin; refine wpList_append_S (y := .slice a1 m1 c1) (new := [rawRow kq sq nq aq mq cq uq vq]) rfl _ _ rfl Try.underlying23 info_ex rfl (by decide) rfl rfl (HSl.out.alloc _) (by simp) (rawRowS HOW.out kq sq nq aq mq cq uq vq ⟨by omega, by omega, by omega⟩ (by omega) (by omega)) (by have := HM1.out; simp only [Ex.rows_len, List.length_cons, List.length_nil]; omega) (by have := HM1.out; simp only [Ex.rows_len, List.length_cons, List.length_nil]; omega) (by rw [World.size_alloc]; omega) ?_; intro v9 w9 ho hgr; have HO9 := Lib.hid ho; clear ho; have HG9 := Lib.hid hgr; clear hgr))
      have hob : ∀ k, (Value.slice a1 m1 c1).ownBlock = some k → (w2.heap.size + 2) ≤ k := fun k hk => (HSl.out.lt k hk).1
      clear rc sc xc uc vc pc oc
      have hs9 : w8.heap.size + 1 ≤ w9.heap.size := by have h := HG9.out.size; rw [World.size_alloc] at h; exact h
      replace HF := Lib.hid ((HF.out.alloc _).grown HG9.out fun k hk => by have := hob k hk; omega)
      replace HYw := Lib.hid (memS_grown (memS_alloc HYw.out (.cells #[.int .i64 kq, .string sq, .int .i64 nq, .slice aq mq cq, .int .i64 uq, .int .i64 vq] 27)) HG9.out fun k hk => by have := hob k hk; unfold Bt; omega)
      replace HBr := Lib.hid ((HBr.out.alloc _).grown HG9.out fun k hk => by have := hob k hk; omega)
      replace HBs := Lib.hid ((HBs.out.alloc _).grown HG9.out fun k hk => by have := hob k hk; omega)
      replace HBx := Lib.hid ((HBx.out.alloc _).grown HG9.out fun k hk => by have := hob k hk; omega)
      replace HBu := Lib.hid ((HBu.out.alloc _).grown HG9.out fun k hk => by have := hob k hk; omega)
      replace HBv := Lib.hid ((HBv.out.alloc _).grown HG9.out fun k hk => by have := hob k hk; omega)
      obtain ⟨a2, m2, c2, rfl, hm5, _, _⟩ := HO9.out.form
      simp only [List.length_append, Ex.rows_len, List.length_cons, List.length_nil] at hm5
      have hpk : (if bad4 w2.heap.size w9 then 0 else ts.length + 2 - lenV (.slice a2 m2 c2)) = 0 := by unfold bad4; rw [HBu.out.cell (j := 3) rfl]; rfl
      go_roundw
      case rel => exact ⟨HF, by omega, HBr, HBs, HBx, HBv, HYw, .inr ⟨_, _, _, _, _, _, _, rfl, rfl, by have := HM1.out; omega, HBu⟩⟩
      case measure => rw [hpk, HNU.out]; have := HM1.out; omega
     rw [hy] at hr
     first | simp only at hr | simp only [andT] at hr
     have HOW := HSl
     clear rc sc xc uc vc
     refine (HT g (by omega) jj _ _ _ _ _ hd (refTok HF.out H.out) hn hy).mono ?_
     rintro _ w6 ⟨ay, my, cy, rfl, hb, hm⟩
     replace HBr := kB HBr hb
     replace HBs := kB HBs hb
     replace HBx := kB HBx hb
     replace HBu := kB HBu hb
     replace HBv := kB HBv hb
     replace HYw := kY HYw hb
     replace HSl := kS HSl hb
     replace HF := kF HF hb
     have hs6 := hb.size
     clear hb
     have HMy := Lib.hid hm
     clear hm
     simp only [rdV, exV]
     have hfk : jj < k ∧ k ≤ ts.length := readE_fwd g .atom jj deep y k hy
     clear hI
     have rc := kc6 HBr; have sc := kc6 HBs; have xc := kc6 HBx; have uc := kc6 HBu; have vc := kc6 HBv
     have hI := i012_01_0 w w2 w6
     go_upto_region 5 with (fail)
     clear rc sc xc uc vc
     generalize ee : World.alloc w6 _ = w7_1
     have hq1 := sizeA ee
     replace HF := fA HF ee
     replace HBr := bA HBr ee
     replace HBs := bA HBs ee
     replace HBx := bA HBx ee
     replace HBu := bA HBu ee
     replace HBv := bA HBv ee
     replace HMy := mA HMy ee
     replace HYw := yA HYw ee
     replace HSl := sA HSl ee
     have HBp := nB ee (w6.heap.size)
     clear ee
     generalize ee : World.alloc w7_1 _ = w7
     have hq2 := sizeA ee
     replace HF := fA HF ee
     replace HBr := bA HBr ee
     replace HBs := bA HBs ee
     replace HBx := bA HBx ee
     replace HBu := bA HBu ee
     replace HBv := bA HBv ee
     replace HBp := bA HBp ee
     replace HMy := mA HMy ee
     replace HYw := yA HYw ee
     replace HSl := sA HSl ee
     have HBo := nB ee (w6.heap.size + 1)
     clear ee
     have hsa7 : w7.heap.size = w6.heap.size + 2 := by omega
     clear hq1 hq2
     clear hI
     have rc := kc6 HBr; have sc := kc6 HBs; have xc := kc6 HBx; have uc := kc6 HBu; have vc := kc6 HBv; have pc := kc6 HBp; have oc := kc6 HBo
     have hI := i012_01_01_0 w w2 w6 w7
     have hZ := i012_01_012 w w2 w6
     go_upto_region 6 with (fail)
     clear rc sc xc uc vc pc oc
     generalize ee : World.setCell _ ⟨w2.heap.size, 5, none⟩ _ = w8
     have hsz8 := sizeS6 ee
     replace HF := fN6 HF ee
     replace HBr := bF6 HBr ee
     replace HBs := bF6 HBs ee
     replace HBx := bF6 HBx ee
     replace HBu := bS6 HBu ee
     replace HBv := bF6 HBv ee
     replace HBp := bF6 HBp ee
     replace HBo := bF6 HBo ee
     replace HMy := mS6 HMy ee
     replace HYw := yS6 HYw ee
     replace HSl := sS6 HSl ee
     clear ee
     clear hI hZ
     have rc := kc6 HBr; have sc := kc6 HBs; have xc := kc6 HBx; have uc := kc6 HBu; have vc := kc6 HBv; have pc := kc6 HBp; have oc := kc6 HBo
     have hI := i012_01_01_0 w w2 w6 w8
     have hZ := i012_01_012 w w2 w6
     go_wp2_with (first | (at_builtin; refine wpList_append_S (y := .slice a1 m1 c1) (new := Ex.rows [y]) rfl _ _ rfl Try.underlying23 info_ex rfl (by decide) rfl rfl (HSl.out.alloc _) (by simp [Ex.rows_eq]) (newRowS HOW.out (fun b h1 h2 => ⟨by omega, by omega, by omega⟩) (by omega) (memNw HMy.out (by omega)) (by omega)) (by have := HM1.out; simp only [Ex.rows_len, List.length_cons, List.length_nil]; omega) (by have := HM1.out; simp only [Ex.rows_len, List.length_cons, List.length_nil]; omega) (by rw [World.size_alloc]; omega) ?_; intro v9 w9 ho hgr; have HO9 := Lib.hid ho; clear ho; have HG9 := Lib.hid hgr; clear hgr))
     have hob : ∀ k, (Value.slice a1 m1 c1).ownBlock = some k → (w2.heap.size + 2) ≤ k := fun k hk => (HSl.out.lt k hk).1
     clear rc sc xc uc vc pc oc
     have hs9 : w8.heap.size + 1 ≤ w9.heap.size := by have h := HG9.out.size; rw [World.size_alloc] at h; exact h
     replace HF := Lib.hid ((HF.out.alloc _).grown HG9.out fun k hk => by have := hob k hk; omega)
     replace HYw := Lib.hid (memS_grown (memS_alloc HYw.out (.cells #[.int .i64 y.kind, .string y.name, .int .i64 y.n, .slice ay my cy, .int .i64 y.line, .int .i64 y.col] 27)) HG9.out fun k hk => by have := hob k hk; unfold Bt; omega)
     replace HBr := Lib.hid ((HBr.out.alloc _).grown HG9.out fun k hk => by have := hob k hk; omega)
     replace HBs := Lib.hid ((HBs.out.alloc _).grown HG9.out fun k hk => by have := hob k hk; omega)
     replace HBx := Lib.hid ((HBx.out.alloc _).grown HG9.out fun k hk => by have := hob k hk; omega)
     replace HBu := Lib.hid ((HBu.out.alloc _).grown HG9.out fun k hk => by have := hob k hk; omega)
     replace HBv := Lib.hid ((HBv.out.alloc _).grown HG9.out fun k hk => by have := hob k hk; omega)
     have HO8 : Hid (OwnS (Av w1.heap.size w2.heap.size (w2.heap.size + 1)) (w2.heap.size + 2) 27 6 w9 v9 (Ex.rows (l ++ [y]))) := Lib.hid (by rw [Ex.rows_app]; exact HO9.out)
     obtain ⟨a2, m2, c2, rfl, hm5, _, _⟩ := HO8.out.form
     rw [Ex.rows_len, List.length_append, List.length_cons, List.length_nil] at hm5
     have hpk : (if bad4 w2.heap.size w9 then 0 else ts.length + 2 - lenV (.slice a2 m2 c2)) = ts.length + 2 - m2 := by unfold bad4; rw [HBu.out.cell (j := 3) rfl]; simp [lenV]
     go_roundw
     case rel => exact ⟨HF, by omega, HBr, HBs, HBx, HBv, HYw, .inl ⟨l ++ [y], k, g, hr, by omega, HBu, HO8, by rw [List.getElem?_append_left (by omega)]; exact hl0, by rw [List.length_append, List.length_cons, List.length_nil]; omega, hfk.2⟩⟩
     case measure => rw [hpk, HNU.out]; have := HM1.out; omega
  ·
   obtain ⟨iq, dq, l_, c_, av, mv, cv, rfl, rfl, hmv, HBu⟩ := hgb
   have hm9 : ((mv : Int) == 1) = false := by simp; omega
   have rc := kc6 HBr; have sc := kc6 HBs; have xc := kc6 HBx; have uc := kc6 HBu; have vc := kc6 HBv
   have hI := i012_01_0 w w2 wr
   go_wp2_with (fail)
   clear rc sc xc uc vc
   clear hI
   clear HBr
   have sc := kc6 HBs; have xc := kc6 HBx; have uc := kc6 HBu; have vc := kc6 HBv
   have hI := i12_01_0 w w2 wr
   refine wp_region_held_drew (S := fun w' => Far (fun b => b = (w.heap.size + 1) ∨ b = (w.heap.size + 2)) (wr) w') (by kernel_rfl) (Far.of (below_drew _)) (fun hS40 => ?_)
   refine takeA 0 (v := ?_) rfl ?_ ?_
   rotate_left
   · (intro w hSw; (try dsimp only at hSw); replace uc := Far.c6z uc hSw; replace vc := Far.c6z vc hSw; go_simp; try with_reducible rfl)
   try simp only [Act.put, pu1, pu2, pu3]
   refine takeA 1 (v := ?_) rfl ?_ ?_
   rotate_left
   · (intro w hSw; (try dsimp only at hSw); replace uc := Far.c6z uc hSw; replace vc := Far.c6z vc hSw; go_simp; try with_reducible rfl)
   try simp only [Act.put, pu1, pu2, pu3]
   refine takeA 2 (v := ?_) rfl ?_ ?_
   rotate_left
   · (intro w hSw; (try dsimp only at hSw); replace uc := Far.c6z uc hSw; replace vc := Far.c6z vc hSw; go_simp; try with_reducible rfl)
   try simp only [Act.put, pu1, pu2, pu3]
   refine takeA 3 (v := ?_) rfl ?_ ?_
   rotate_left
   · (intro w hSw; (try dsimp only at hSw); replace uc := Far.c6z uc hSw; replace vc := Far.c6z vc hSw; go_simp; try with_reducible rfl)
   try simp only [Act.put, pu1, pu2, pu3]
   refine takeA 4 (v := ?_) rfl ?_ ?_
   rotate_left
   · (intro w hSw; (try dsimp only at hSw); replace uc := Far.c6z uc hSw; replace vc := Far.c6z vc hSw; go_simp; try with_reducible rfl)
   try simp only [Act.put, pu1, pu2, pu3]

   refine callA 5 rfl fun K hK => ?_
   go_simp
   refine hK.out _ _ ?_ (fun hS41 => ?_)
   · exact (by refine Far.trans ?_ (Far.of (below_drew _)); (iterate 6 (refine Far.setCell (p := ⟨(w.heap.size + 1), _, none⟩) ?_ (.inl rfl) _)); exact Far.refl _ _)
   clear hK K

   clear sc xc uc vc
   generalize ee : ((((((wr.setCell ⟨(w.heap.size + 1), 0, none⟩ (.slice aL n cap)).setCell ⟨(w.heap.size + 1), 1, none⟩ (.int .i64 (iq : Int))).setCell ⟨(w.heap.size + 1), 2, none⟩ (.int .i64 dq)).setCell ⟨(w.heap.size + 1), 3, none⟩ (.bool true)).setCell ⟨(w.heap.size + 1), 4, none⟩ (.int .i64 l_)).setCell ⟨(w.heap.size + 1), 5, none⟩ (.int .i64 c_)) = w4_1 at *
   have hq1 := sizeS6 ee
   replace HF := fN6 HF ee
   replace HBs := bS6 HBs ee
   replace HBx := bF6 HBx ee
   replace HBu := bF6 HBu ee
   replace HBv := bF6 HBv ee
   replace HYw := yS6 HYw ee
   clear ee
   generalize ee : (w4_1.drew) = w4 at *
   have hq2 := sizeD ee
   replace HF := fD HF ee
   replace HBs := bD HBs ee
   replace HBx := bD HBx ee
   replace HBu := bD HBu ee
   replace HBv := bD HBv ee
   replace HYw := yD HYw ee
   clear ee
   have hsa4 : w4.heap.size = wr.heap.size + 0 := by omega
   clear hq1 hq2
   clear hI
   have sc := kc6 HBs; have xc := kc6 HBx; have uc := kc6 HBu; have vc := kc6 HBv
   have hI := i12_01_0 w w2 w4
   have hZ := i12_01_0 w w2 wr
   refine callA 6 rfl fun K hK => ?_
   go_simp
   refine hK.out _ _ ?_ (fun hS42 => ?_)
   · exact (by (iterate 6 (refine Far.setCell (p := ⟨(w.heap.size + 2), _, none⟩) ?_ (.inr rfl) _)); exact hS41)
   clear hK K
   refine wpAnyH_done (by kernel_rfl) ?_ _

   clear sc xc uc vc
   generalize ee : World.setCell _ ⟨(w.heap.size + 2), 5, none⟩ _ = w5
   have hsz5 := sizeS6 ee
   replace HF := fN6 HF ee
   replace HBs := bF6 HBs ee
   replace HBx := bS6 HBx ee
   replace HBu := bF6 HBu ee
   replace HBv := bF6 HBv ee
   replace HYw := yS6 HYw ee
   clear ee
   clear hI hZ
   go_wp2_with (fail)
   have z := kc6 HBs; have y := kc6 HBx
   refine bodyPost_ret (v := .tuple #[.agg #[.slice aL n cap, .int .i64 (iq : Int), .int .i64 dq, .bool true, .int .i64 l_, .int .i64 c_], .agg #[.int .i64 4, .string ⟨#[]⟩, .int .i64 0, .slice av mv cv, .int .i64 x.line, .int .i64 x.col]]) (by clear HF H HBs HBx HBu HBv HYw; simp [results, Try.results52, go_sem, z, y]) rfl ?_
   exact ⟨_, _, _, _, _, _, _, _, _, _, rfl, refBelow HF.out⟩
end
end Go.Proofs.Ytnmlobakiclgiaa
