/-
 The document's Parse: the expression of a text, or where it is wrong. No condition but sizes.
-/
import Derived.Test.YtnmlobakiclgiaaEx27
import Derived.Test.YtnmlobakiclgiaaEx23
namespace Go.Proofs.Ytnmlobakiclgiaa
open Go.RowKit
def RParseAns (r : Pr1) (W : World) (e : Ending) (w' : World) : Prop :=
 match r with
 | .ok x => ∃ a m c, e = .returned (.tuple #[exV x a m c, .int .i64 0, .agg #[.int .i64 0, .int .i64 0]]) ∧ Below W.heap.size W w' ∧ Mem (Nw 0 W.heap.size w'.heap.size) w' (.s 6 (Ex.rows x.args)) (.slice a m c)
 | .bad k l c => e = .returned (.tuple #[.agg #[.int .i64 0, .string ⟨#[]⟩, .int .i64 0, .slice none 0 0, .int .i64 0, .int .i64 0], .int .i64 k, .agg #[.int .i64 l, .int .i64 c]]) ∧ Below W.heap.size W w'
attribute [local go_sem] tk_pos tk_text tk_kind0
theorem rexpr0 {ts : List Tk} {aL : Option Addr} {n cap F : Nat} {r : Rd1} (w : World) (hm : MemW w (.s 5 (tkRows ts)) (.slice aL n cap)) (hn : n ≤ 1048576) (hr : readE ts F .expr 0 0 = some r) :
  Calls Try.prog 14 #[.agg #[.slice aL n cap, .int .i64 0, .int .i64 0, .bool false, .int .i64 0, .int .i64 0]] w (AnsR aL n cap r 0 0 0 w) :=
 (allRR ts aL n cap F).ex 0 0 r 0 0 w (Nat.zero_le _) hm hn hr
set_option maxRecDepth 100000 in
set_option maxHeartbeats 20000000 in
theorem rparse_any (s : ByteArray) (w : World) (hs : s.size ≤ 1000000) : Calls Try.prog 8 #[.string s] w (RParseAns (parseE s) w) := by
 obtain ⟨rp, hrp⟩ : ∃ rp, parseE s = rp := ⟨_, rfl⟩
 rw [hrp]
 have HF : Hid (FarB w.heap.size w.heap.size w w) := Lib.hid (FarB.refl _ _ _)
 have H := Lib.hid True.intro
 go_enter Try.func8, Try.ntmps8
 go_wp2_with (fail)
 generalize ee : (w.alloc (.cells #[.int .i64 0, .string ⟨#[]⟩, .int .i64 0, .slice none 0 0, .int .i64 0, .int .i64 0] 27)) = w1_1 at *
 have hq1 := sizeA ee
 replace HF := fA HF ee
 have HBx := nB ee (w.heap.size)
 clear ee
 generalize ee : (w1_1.alloc (.cells #[.int .i64 0, .int .i64 0] 25)) = w1 at *
 have hq2 := sizeA ee
 replace HF := fA HF ee
 replace HBx := bA HBx ee
 have HBf := nB ee (w.heap.size + 1)
 clear ee
 have hsa1 : w1.heap.size = w.heap.size + 2 := by omega
 clear hq1 hq2
 have xc := kc6 HBx; have fc := kc2 HBf
 have hI := i01_0 w w1
 have hZ := i012 w
 clear xc fc
 refine (rscan_any s _ hs).mono ?_
 rintro _ w2 ⟨a1, n1, cap1, rfl, hb, hR⟩
 replace HBx := kB HBx hb
 replace HBf := kB HBf hb
 replace HF := kF HF hb
 have hs2 := hb.size
 clear hb
 have HR := Lib.hid hR
 clear hR
 obtain ⟨ke, le, ce, toks, hlx⟩ : ∃ ke le ce toks, lexes s = (ke, le, ce, toks) := ⟨_, _, _, _, rfl⟩
 rw [hlx] at HR
 rw [hlx]
 simp only at HR ⊢
 have HLX := Lib.hid hlx
 clear hlx
 by_cases hke : ke = 0
 rotate_left
 ·
  clear hI hZ
  have xc := kc6 HBx; have fc := kc2 HBf
  have hI := i01_0 w w2
  go_upto_region 2 with (fail)
  clear xc fc
  generalize ee : (w2.alloc (.cells #[.int .i64 le, .int .i64 ce] 25)) = w3 at *
  have hsa3 := sizeA ee
  replace HF := fA HF ee
  replace HBx := bA HBx ee
  replace HBf := bA HBf ee
  have HBg := nB ee (w2.heap.size)
  clear ee
  clear hI
  have xc := kc6 HBx; have fc := kc2 HBf; have gc := kc2 HBg
  have hI := i01_0_0 w w2 w3
  have hZ := i01_01 w w2
  have e0 : (ke != 0) = true := by simp [hke]
  have hrb : rp = .bad ke le ce := by rw [← hrp, parseE, HLX.out, if_neg hke]
  clear hke
  subst hrb
  go_wp2_with (fail)
  refine wp_region_held_drew (S := fun w' => Far (fun b => b = w.heap.size ∨ b = (w.heap.size + 1)) (w3) w') (by kernel_rfl) (Far.of (below_drew _)) (fun hS40 => ?_)
  refine takeA 0 (v := ?_) rfl ?_ ?_
  rotate_left
  · (intro w hSw; (try dsimp only at hSw); replace gc := Far.c2z gc hSw; go_simp; try with_reducible rfl)
  try simp only [Act.put, pu1, pu2, pu3]
  refine takeA 1 (v := ?_) rfl ?_ ?_
  rotate_left
  · (intro w hSw; (try dsimp only at hSw); replace gc := Far.c2z gc hSw; go_simp; try with_reducible rfl)
  try simp only [Act.put, pu1, pu2, pu3]
  refine takeA 2 (v := ?_) rfl ?_ ?_
  rotate_left
  · (intro w hSw; (try dsimp only at hSw); replace gc := Far.c2z gc hSw; go_simp; try with_reducible rfl)
  try simp only [Act.put, pu1, pu2, pu3]

  refine callA 3 rfl fun K hK => ?_
  go_simp
  refine hK.out _ _ ?_ (fun hS41 => ?_)
  · exact (by refine Far.trans ?_ (Far.of (below_drew _)); (iterate 6 (refine Far.setCell (p := ⟨w.heap.size, _, none⟩) ?_ (.inl rfl) _)); exact Far.refl _ _)
  clear hK K

  clear xc fc gc
  generalize ee : ((((((w3.setCell ⟨w.heap.size, 0, none⟩ (.int .i64 0)).setCell ⟨w.heap.size, 1, none⟩ (.string ⟨#[]⟩)).setCell ⟨w.heap.size, 2, none⟩ (.int .i64 0)).setCell ⟨w.heap.size, 3, none⟩ (.slice none 0 0)).setCell ⟨w.heap.size, 4, none⟩ (.int .i64 0)).setCell ⟨w.heap.size, 5, none⟩ (.int .i64 0)) = w4_1 at *
  have hq1 := sizeS6 ee
  replace HF := fN6 HF ee
  replace HBx := bS6 HBx ee
  replace HBf := bF6 HBf ee
  replace HBg := bF6 HBg ee
  clear ee
  generalize ee : (w4_1.drew) = w4 at *
  have hq2 := sizeD ee
  replace HF := fD HF ee
  replace HBx := bD HBx ee
  replace HBf := bD HBf ee
  replace HBg := bD HBg ee
  clear ee
  have hsa4 : w4.heap.size = w2.heap.size + 1 := by omega
  clear hq1 hq2
  clear hI hZ
  have xc := kc6 HBx; have fc := kc2 HBf; have gc := kc2 HBg
  have hI := i01_0_0 w w2 w4
  have hZ := i01_01 w w2
  refine takeA 4 (v := ?_) rfl ?_ ?_
  rotate_left
  · (intro w hSw; (try dsimp only at hSw); go_simp; try with_reducible rfl)
  try simp only [Act.put, pu1, pu2, pu3]
  refine callA 5 rfl fun K hK => ?_
  go_simp
  refine hK.out _ _ ?_ (fun hS42 => ?_)
  · exact (by (iterate 2 (refine Far.setCell (p := ⟨(w.heap.size + 1), _, none⟩) ?_ (.inr rfl) _)); exact hS41)
  clear hK K
  refine wpAnyH_done (by kernel_rfl) ?_ _

  clear xc fc gc
  generalize ee : ((w4.setCell ⟨(w.heap.size + 1), 0, none⟩ (.int .i64 le)).setCell ⟨(w.heap.size + 1), 1, none⟩ (.int .i64 ce)) = w5 at *
  have hsz5 := sizeS2 ee
  replace HF := fN2 HF ee
  replace HBx := bF2 HBx ee
  replace HBf := bS2 HBf ee
  replace HBg := bF2 HBg ee
  clear ee
  clear hI hZ
  go_wp2_with (fail)
  have y := kc6 HBx; have z := kc2 HBf
  refine bodyPost_ret (v := .tuple #[.agg #[.int .i64 0, .string ⟨#[]⟩, .int .i64 0, .slice none 0 0, .int .i64 0, .int .i64 0], .int .i64 ke, .agg #[.int .i64 le, .int .i64 ce]]) (by clear HF H HBx HBf HBg; simp [results, Try.results8, go_sem, y, z]) rfl ?_
  exact ⟨rfl, refBelow HF.out⟩
 subst hke
 have hl0 : (lexes s).1 = 0 := by rw [HLX.out]
 have HRP := Lib.hid hrp
 clear hrp
 obtain ⟨us, ue, hue, hu0, hul⟩ := lex_parts hl0
 rw [HLX.out] at hue
 simp only at hue
 have HM := Lib.hid (rd_mem HR.out (by rw [hue]; simp))
 have hn1 : toks.length = n1 := by have h := HR.out.1; rw [tokVs_len] at h; omega
 have HN1 := Lib.hid hn1
 have hne1 : n1 ≤ 8193 := by rw [← hn1, hue]; exact hul
 clear hue hu0 hul HR hn1
 clear hI hZ
 have xc := kc6 HBx; have fc := kc2 HBf
 have hI := i01_0 w w2
 go_upto_region 2 with (fail)
 replace HM := Lib.hid (MemW.alloc HM.out (.cells #[.int .i64 le, .int .i64 ce] 25))
 clear xc fc
 generalize ee : (w2.alloc (.cells #[.int .i64 le, .int .i64 ce] 25)) = w3 at *
 have hsa3 := sizeA ee
 replace HF := fA HF ee
 replace HBx := bA HBx ee
 replace HBf := bA HBf ee
 have HBg := nB ee (w2.heap.size)
 clear ee
 clear hI
 have xc := kc6 HBx; have fc := kc2 HBf; have gc := kc2 HBg
 have hI := i01_0_0 w w2 w3
 have hZ := i01_01 w w2
 go_wp2_with (fail)
 clear xc fc gc
 have HYm : Hid (Mem (NwS (Bt 0 w3.heap.size) w3.heap.size) w3 _ _) := Lib.hid (HM.out.mono (fun _ hb => ⟨⟨Nat.zero_le _, hb⟩, hb⟩) fun _ _ => rfl)
 clear HM
 go_loopw [8, 26] (fun v vi wr => ∃ k : Nat, vi = .int .i64 k ∧ k ≤ n1 ∧ Hid (FarB w.heap.size w.heap.size w wr) ∧ w3.heap.size ≤ wr.heap.size ∧ Hid (Mem (NwS (Bt 0 w3.heap.size) wr.heap.size) wr (.s 5 (tkRows (toks.map tkOf))) (.slice a1 n1 cap1)) ∧ Hid (Bo wr w.heap.size 27 #[.int .i64 0, .string ⟨#[]⟩, .int .i64 0, .slice none 0 0, .int .i64 0, .int .i64 0]) ∧ Hid (Bo wr (w.heap.size + 1) 25 #[.int .i64 0, .int .i64 0]) ∧ Hid (Bo wr w2.heap.size 25 #[.int .i64 le, .int .i64 ce]) ∧ Hid (OwnS (fun _ => True) w3.heap.size 43 5 wr v (tkRows (((toks.take k).filter keepT).map tkOf)))) (fun _ vi _ => n1 - (intOf vi).toNat)
 case atStart => exact ⟨0, rfl, Nat.zero_le _, HF, Nat.le_refl _, HYm, HBx, HBf, HBg, Lib.hid (OwnS.nil _ _ _ _ _)⟩
 case round =>
  clear HF HBx HBf HBg HYm
  obtain ⟨k, rfl, hk, HF, hsw, HYm, HBx, HBf, HBg, HSl⟩ := hrel
  obtain ⟨a2, m2, c2, rfl, hm1, hm2, hm3⟩ := HSl.out.form
  rw [tkRows_len, List.length_map] at hm1
  have hm4 : m2 ≤ 8193 := by have h1 := List.length_filter_le keepT (toks.take k); rw [List.length_take] at h1; have := HN1.out; omega
  have HM1 := Lib.hid hm1
  clear hm1 hm3
  by_cases hlt : k < n1
  ·
   have hltz : (k : Int) < (n1 : Int) := by omega
   have hkt : k < toks.length := by have := HN1.out; omega
   obtain ⟨b9, o9, t9, rfl, hb9, Ht9, x0, x1, x2, x3, x4⟩ := tk_at HYm.out k hlt
   have XT : Hid (tkOf toks[k] = t9) := Lib.hid (by have h := Ht9.out; rw [List.getElem?_map, List.getElem?_eq_getElem hkt] at h; exact Option.some.inj h)
   clear Ht9
   have XK : Hid (keepT toks[k] = !decide (t9.k = 1)) := Lib.hid (by rw [← XT.out]; rfl)
   by_cases hi1 : t9.k = 1
   ·
    have e1 : (t9.k != 1) = false := by simp [hi1]
    have HF2 : Hid ((toks.take (k + 1)).filter keepT = (toks.take k).filter keepT) := Lib.hid (by rw [filt_succ hkt, XK.out]; simp [hi1])
    clear hi1
    clear hI hZ
    have xc := kc6 HBx; have fc := kc2 HBf; have gc := kc2 HBg
    have hI := i01_0_0 w w2 wr
    go_wp2_with (fail)
    go_roundw
    case rel => exact ⟨k + 1, by go_num, by omega, Lib.hid (HF.out.alloc (.cells #[.int .i64 t9.k, .string t9.s, .int .i64 t9.n, .int .i64 t9.l, .int .i64 t9.c] 43)), by rw [World.size_alloc]; omega, Lib.hid (memS_alloc HYm.out _), HBx.out.alloc _, HBf.out.alloc _, HBg.out.alloc _, Lib.hid (by rw [HF2.out]; exact HSl.out.alloc _)⟩
    case measure => simp [intOf] <;> omega
   have e1 : (t9.k != 1) = true := by simp [hi1]
   have HF2 : Hid (tkRows (((toks.take (k + 1)).filter keepT).map tkOf) = tkRows (((toks.take k).filter keepT).map tkOf) ++ tkRows [t9]) := Lib.hid (by rw [filt_succ hkt, XK.out]; simp [hi1, tkRows, XT.out])
   clear hi1
   clear hI hZ
   have xc := kc6 HBx; have fc := kc2 HBf; have gc := kc2 HBg
   have hI := i01_0_0 w w2 wr
   go_upto_region 8 with (fail)
   replace HSl := Lib.hid (HSl.out.alloc (.cells #[.int .i64 t9.k, .string t9.s, .int .i64 t9.n, .int .i64 t9.l, .int .i64 t9.c] 43))
   clear xc fc gc
   generalize ee : (wr.alloc (.cells #[.int .i64 t9.k, .string t9.s, .int .i64 t9.n, .int .i64 t9.l, .int .i64 t9.c] 43)) = w4 at *
   have hsa4 := sizeA ee
   replace HF := fA HF ee
   replace HBx := bA HBx ee
   replace HBf := bA HBf ee
   replace HBg := bA HBg ee
   replace HYm := yA HYm ee
   have HBt := nB ee (wr.heap.size)
   clear ee
   clear hI
   have xc := kc6 HBx; have fc := kc2 HBf; have gc := kc2 HBg; have tc := kc5 HBt
   have hI := i01_0_0_0 w w2 wr w4
   have hZ := i01_0_01 w w2 wr
   go_wp2_with (first | (at_builtin; refine wpList_append_S (y := .slice a2 m2 c2) (new := tkRows [t9]) rfl _ _ rfl Try.underlying41 info_tokE rfl (by decide) rfl rfl (HSl.out.alloc _) (by simp [tkRows]) (tkRowS HSl.out t9 (Nat.le_refl _) (by omega)) (by have := HM1.out; simp only [tkRows_len, List.length_map, List.length_cons, List.length_nil]; omega) (by have := HM1.out; simp only [tkRows_len, List.length_map, List.length_cons, List.length_nil]; omega) (by rw [World.size_alloc]; omega) ?_; intro v9 w9 ho hgr; have HO9 := Lib.hid ho; clear ho; have HG9 := Lib.hid hgr; clear hgr))
   have hob : ∀ k, (Value.slice a2 m2 c2).ownBlock = some k → w3.heap.size ≤ k := fun k hk => (HSl.out.lt k hk).1
   clear xc fc gc tc
   have hs9 : w4.heap.size + 1 ≤ w9.heap.size := by have h := HG9.out.size; rw [World.size_alloc] at h; exact h
   replace HF := Lib.hid ((HF.out.alloc _).grown HG9.out fun k hk => by have := hob k hk; omega)
   replace HBx := Lib.hid ((HBx.out.alloc _).grown HG9.out fun k hk => by have := hob k hk; omega)
   replace HBf := Lib.hid ((HBf.out.alloc _).grown HG9.out fun k hk => by have := hob k hk; omega)
   replace HBg := Lib.hid ((HBg.out.alloc _).grown HG9.out fun k hk => by have := hob k hk; omega)
   replace HYm := Lib.hid (memS_grown (memS_alloc HYm.out (.cells #[.int .i64 t9.k, .string t9.s, .int .i64 t9.n, .int .i64 t9.l, .int .i64 t9.c] 43)) HG9.out fun k hk => by have := hob k hk; unfold Bt; omega)
   go_roundw
   case rel => exact ⟨k + 1, by go_num, by omega, HF, by omega, HYm, HBx, HBf, HBg, Lib.hid (by rw [HF2.out]; exact HO9.out)⟩
   case measure => simp [intOf] <;> omega
  clear HYm
  obtain rfl : k = n1 := by omega
  have hltz : ¬ (k : Int) < (k : Int) := by omega
  have HTS : Hid (((toks.take k).filter keepT).map tkOf = toksE s) := Lib.hid (by unfold toksE; rw [HLX.out, List.take_of_length_le (by rw [HN1.out]; exact Nat.le_refl _)])
  rw [HTS.out] at HSl
  obtain ⟨r, hr, hrj⟩ := parse_parts hl0
  have HRJ := Lib.hid hrj
  have HR0 := Lib.hid hr
  clear hrj hr
  clear hI hZ
  have xc := kc6 HBx; have fc := kc2 HBf; have gc := kc2 HBg
  have hI := i01_0_0 w w2 wr
  go_wp2_with (fail)
  cases r with
  | bad l_ c_ =>
   clear xc fc gc
   have h9 := rexpr0 (F := fuelE s) (r := .bad l_ c_) wr (HSl.out.mem.mono (fun _ hb => hb.2) fun _ _ => rfl) (Nat.le_trans hm4 (by decide)) HR0.out
   refine h9.mono ?_
   clear h9
   rintro _ w4 ⟨iq, dq, kq, sq, nq, aq, mq, cq, uq, vq, rfl, hb⟩
   replace HBx := kB HBx hb
   replace HBf := kB HBf hb
   replace HBg := kB HBg hb
   replace HF := kF HF hb
   have hs4 := hb.size
   clear hb
   simp only [rdV]
   have hrb : rp = .bad 1 l_ c_ := by rw [← HRP.out, parseE, if_pos hl0, HR0.out]
   clear HR0
   subst hrb
   clear HRP
   clear hI
   have xc := kc6 HBx; have fc := kc2 HBf; have gc := kc2 HBg
   have hI := i01_0_0 w w2 w4
   go_upto_region 12 with (fail)
   clear xc fc gc
   generalize ee : (w4.alloc (.cells #[.slice a2 m2 c2, .int .i64 (iq : Int), .int .i64 dq, .bool true, .int .i64 l_, .int .i64 c_] 47)) = w5_1 at *
   have hq1 := sizeA ee
   replace HF := fA HF ee
   replace HBx := bA HBx ee
   replace HBf := bA HBf ee
   replace HBg := bA HBg ee
   have HBu := nB ee (w4.heap.size)
   clear ee
   generalize ee : (w5_1.alloc (.cells #[.int .i64 kq, .string sq, .int .i64 nq, .slice aq mq cq, .int .i64 uq, .int .i64 vq] 27)) = w5 at *
   have hq2 := sizeA ee
   replace HF := fA HF ee
   replace HBx := bA HBx ee
   replace HBf := bA HBf ee
   replace HBg := bA HBg ee
   replace HBu := bA HBu ee
   have HBv := nB ee (w4.heap.size + 1)
   clear ee
   have hsa5 : w5.heap.size = w4.heap.size + 2 := by omega
   clear hq1 hq2
   clear hI
   have xc := kc6 HBx; have fc := kc2 HBf; have gc := kc2 HBg; have uc := kc6 HBu; have vc := kc6 HBv
   have hI := i01_0_01_0 w w2 w4 w5
   have hZ := i01_0_012 w w2 w4
   go_wp2_with (fail)
   refine wp_region_held_drew (S := fun w' => Far (fun b => b = w.heap.size ∨ b = (w.heap.size + 1)) (w5) w') (by kernel_rfl) (Far.of (below_drew _)) (fun hS40 => ?_)
   refine takeA 0 (v := ?_) rfl ?_ ?_
   rotate_left
   · (intro w hSw; (try dsimp only at hSw); replace uc := Far.c6z uc hSw; go_simp; try with_reducible rfl)
   try simp only [Act.put, pu1, pu2, pu3]
   refine takeA 1 (v := ?_) rfl ?_ ?_
   rotate_left
   · (intro w hSw; (try dsimp only at hSw); replace uc := Far.c6z uc hSw; go_simp; try with_reducible rfl)
   try simp only [Act.put, pu1, pu2, pu3]
   refine takeA 2 (v := ?_) rfl ?_ ?_
   rotate_left
   · (intro w hSw; (try dsimp only at hSw); replace uc := Far.c6z uc hSw; go_simp; try with_reducible rfl)
   try simp only [Act.put, pu1, pu2, pu3]

   refine callA 3 rfl fun K hK => ?_
   go_simp
   refine hK.out _ _ ?_ (fun hS41 => ?_)
   · exact (by refine Far.trans ?_ (Far.of (below_drew _)); (iterate 6 (refine Far.setCell (p := ⟨w.heap.size, _, none⟩) ?_ (.inl rfl) _)); exact Far.refl _ _)
   clear hK K

   clear xc fc gc uc vc
   generalize ee : ((((((w5.setCell ⟨w.heap.size, 0, none⟩ (.int .i64 0)).setCell ⟨w.heap.size, 1, none⟩ (.string ⟨#[]⟩)).setCell ⟨w.heap.size, 2, none⟩ (.int .i64 0)).setCell ⟨w.heap.size, 3, none⟩ (.slice none 0 0)).setCell ⟨w.heap.size, 4, none⟩ (.int .i64 0)).setCell ⟨w.heap.size, 5, none⟩ (.int .i64 0)) = w6_1 at *
   have hq1 := sizeS6 ee
   replace HF := fN6 HF ee
   replace HBx := bS6 HBx ee
   replace HBf := bF6 HBf ee
   replace HBg := bF6 HBg ee
   replace HBu := bF6 HBu ee
   replace HBv := bF6 HBv ee
   clear ee
   generalize ee : (w6_1.drew) = w6 at *
   have hq2 := sizeD ee
   replace HF := fD HF ee
   replace HBx := bD HBx ee
   replace HBf := bD HBf ee
   replace HBg := bD HBg ee
   replace HBu := bD HBu ee
   replace HBv := bD HBv ee
   clear ee
   have hsa6 : w6.heap.size = w4.heap.size + 2 := by omega
   clear hq1 hq2
   clear hI hZ
   have xc := kc6 HBx; have fc := kc2 HBf; have gc := kc2 HBg; have uc := kc6 HBu; have vc := kc6 HBv
   have hI := i01_0_01_0 w w2 w4 w6
   have hZ := i01_0_012 w w2 w4
   refine takeA 4 (v := ?_) rfl ?_ ?_
   rotate_left
   · (intro w hSw; (try dsimp only at hSw); go_simp; try with_reducible rfl)
   try simp only [Act.put, pu1, pu2, pu3]
   refine callA 5 rfl fun K hK => ?_
   go_simp
   refine hK.out _ _ ?_ (fun hS42 => ?_)
   · exact (by (iterate 2 (refine Far.setCell (p := ⟨(w.heap.size + 1), _, none⟩) ?_ (.inr rfl) _)); exact hS41)
   clear hK K
   refine wpAnyH_done (by kernel_rfl) ?_ _

   clear xc fc gc uc vc
   generalize ee : ((w6.setCell ⟨(w.heap.size + 1), 0, none⟩ (.int .i64 l_)).setCell ⟨(w.heap.size + 1), 1, none⟩ (.int .i64 c_)) = w7 at *
   have hsz7 := sizeS2 ee
   replace HF := fN2 HF ee
   replace HBx := bF2 HBx ee
   replace HBf := bS2 HBf ee
   replace HBg := bF2 HBg ee
   replace HBu := bF2 HBu ee
   replace HBv := bF2 HBv ee
   clear ee
   clear hI hZ
   go_wp2_with (fail)
   have y := kc6 HBx; have z := kc2 HBf
   refine bodyPost_ret (v := .tuple #[.agg #[.int .i64 0, .string ⟨#[]⟩, .int .i64 0, .slice none 0 0, .int .i64 0, .int .i64 0], .int .i64 1, .agg #[.int .i64 l_, .int .i64 c_]]) (by clear HF H HBx HBf HBg HBu HBv; simp [results, Try.results8, go_sem, y, z]) rfl ?_
   exact ⟨rfl, refBelow HF.out⟩
  | ok x j =>
   clear xc fc gc
   have HSM : Hid (MemW wr (.s 5 (tkRows (toksE s))) (.slice a2 m2 c2)) := Lib.hid (HSl.out.mem.mono (fun _ hb => hb.2) fun _ _ => rfl)
   have h9 := rexpr0 (F := fuelE s) (r := .ok x j) wr (HSl.out.mem.mono (fun _ hb => hb.2) fun _ _ => rfl) (Nat.le_trans hm4 (by decide)) HR0.out
   refine h9.mono ?_
   clear h9
   rintro _ w4 ⟨ax, mx, cx, rfl, hb, hm⟩
   replace HSM := Lib.hid (MemW.keep HSM.out hb)
   replace HBx := kB HBx hb
   replace HBf := kB HBf hb
   replace HBg := kB HBg hb
   replace HF := kF HF hb
   have hs4 := hb.size
   clear hb
   have HMx := Lib.hid hm
   clear hm
   simp only [rdV, exV]
   clear hI
   have xc := kc6 HBx; have fc := kc2 HBf; have gc := kc2 HBg
   have hI := i01_0_0 w w2 w4
   go_upto_region 12 with (fail)
   replace HSM := Lib.hid (MemW.alloc HSM.out (.cells #[.slice a2 m2 c2, .int .i64 (j : Int), .int .i64 0, .bool false, .int .i64 0, .int .i64 0] 47))
   replace HSM := Lib.hid (MemW.alloc HSM.out (.cells #[.int .i64 x.kind, .string x.name, .int .i64 x.n, .slice ax mx cx, .int .i64 x.line, .int .i64 x.col] 27))
   clear xc fc gc
   generalize ee : (w4.alloc (.cells #[.slice a2 m2 c2, .int .i64 (j : Int), .int .i64 0, .bool false, .int .i64 0, .int .i64 0] 47)) = w5_1 at *
   have hq1 := sizeA ee
   replace HF := fA HF ee
   replace HBx := bA HBx ee
   replace HBf := bA HBf ee
   replace HBg := bA HBg ee
   replace HMx := mA HMx ee
   have HBu := nB ee (w4.heap.size)
   clear ee
   generalize ee : (w5_1.alloc (.cells #[.int .i64 x.kind, .string x.name, .int .i64 x.n, .slice ax mx cx, .int .i64 x.line, .int .i64 x.col] 27)) = w5 at *
   have hq2 := sizeA ee
   replace HF := fA HF ee
   replace HBx := bA HBx ee
   replace HBf := bA HBf ee
   replace HBg := bA HBg ee
   replace HBu := bA HBu ee
   replace HMx := mA HMx ee
   have HBv := nB ee (w4.heap.size + 1)
   clear ee
   have hsa5 : w5.heap.size = w4.heap.size + 2 := by omega
   clear hq1 hq2
   clear hI
   have xc := kc6 HBx; have fc := kc2 HBf; have gc := kc2 HBg; have uc := kc6 HBu; have vc := kc6 HBv
   have hI := i01_0_01_0 w w2 w4 w5
   have hZ := i01_0_012 w w2 w4
   go_wp2_with (fail)
   clear xc fc gc uc vc
   refine (nowR_any (ts := toksE s) _ HSM.out).mono ?_
   rintro _ w6 ⟨rfl, hb⟩
   replace HSM := Lib.hid (MemW.keep HSM.out hb)
   replace HBx := kB HBx hb
   replace HBf := kB HBf hb
   replace HBg := kB HBg hb
   replace HBu := kB HBu hb
   replace HBv := kB HBv hb
   replace HMx := kM HMx hb
   replace HF := kF HF hb
   have hs6 := hb.size
   clear hb
   simp only [tkV]
   by_cases hk0 : (nowT (toksE s) j).k = 0
   ·
    have hrb : rp = .ok x := by rw [← HRP.out, parseE, if_pos hl0, HR0.out]; simp only; rw [if_pos hk0]
    clear HR0 HRP
    subst hrb
    have e9 : ((nowT (toksE s) j).k != 0) = false := by simp [hk0]
    clear hk0
    clear hI hZ
    have xc := kc6 HBx; have fc := kc2 HBf; have gc := kc2 HBg; have uc := kc6 HBu; have vc := kc6 HBv
    have hI := i01_0_01_0 w w2 w4 w6
    go_wp2_with (fail)
    clear xc fc gc uc vc
    generalize ee : ((((((w6.setCell ⟨w.heap.size, 0, none⟩ (.int .i64 x.kind)).setCell ⟨w.heap.size, 1, none⟩ (.string x.name)).setCell ⟨w.heap.size, 2, none⟩ (.int .i64 x.n)).setCell ⟨w.heap.size, 3, none⟩ (.slice ax mx cx)).setCell ⟨w.heap.size, 4, none⟩ (.int .i64 x.line)).setCell ⟨w.heap.size, 5, none⟩ (.int .i64 x.col)) = w7_1 at *
    have hq1 := sizeS6 ee
    replace HF := fN6 HF ee
    replace HBx := bS6 HBx ee
    replace HBf := bF6 HBf ee
    replace HBg := bF6 HBg ee
    replace HBu := bF6 HBu ee
    replace HBv := bF6 HBv ee
    replace HMx := mS6 HMx ee
    clear ee
    generalize ee : ((w7_1.setCell ⟨(w.heap.size + 1), 0, none⟩ (.int .i64 0)).setCell ⟨(w.heap.size + 1), 1, none⟩ (.int .i64 0)) = w7 at *
    have hq2 := sizeS2 ee
    replace HF := fN2 HF ee
    replace HBx := bF2 HBx ee
    replace HBf := bS2 HBf ee
    replace HBg := bF2 HBg ee
    replace HBu := bF2 HBu ee
    replace HBv := bF2 HBv ee
    replace HMx := mS2 HMx ee
    clear ee
    have hsz7 : w7.heap.size = w6.heap.size := by omega
    clear hq1 hq2
    clear hI
    go_wp2_with (fail)
    have y := kc6 HBx; have z := kc2 HBf
    refine bodyPost_ret (v := .tuple #[.agg #[.int .i64 x.kind, .string x.name, .int .i64 x.n, .slice ax mx cx, .int .i64 x.line, .int .i64 x.col], .int .i64 0, .agg #[.int .i64 0, .int .i64 0]]) (by clear HF H HBx HBf HBg HBu HBv HMx; simp [results, Try.results8, go_sem, y, z]) rfl ?_
    exact ⟨_, _, _, rfl, refBelow HF.out, memNw HMx.out (by omega)⟩
   have hrb : rp = .bad 1 (nowT (toksE s) j).l (nowT (toksE s) j).c := by rw [← HRP.out, parseE, if_pos hl0, HR0.out]; simp only; rw [if_neg hk0]
   clear HR0 HRP
   subst hrb
   have e9 : ((nowT (toksE s) j).k != 0) = true := by simp [hk0]
   clear hk0
   clear hI hZ
   have xc := kc6 HBx; have fc := kc2 HBf; have gc := kc2 HBg; have uc := kc6 HBu; have vc := kc6 HBv
   have hI := i01_0_01_0 w w2 w4 w6
   go_wp2_with (fail)
   clear HMx
   clear xc fc gc uc vc
   refine (failR_ok (ts := toksE s) _ HSM.out).mono ?_
   rintro _ w7 ⟨rfl, hb⟩
   replace HBx := kB HBx hb
   replace HBf := kB HBf hb
   replace HBg := kB HBg hb
   replace HBu := kB HBu hb
   replace HBv := kB HBv hb
   replace HF := kF HF hb
   have hs7 := hb.size
   clear hb
   simp only [rdV]
   clear hI
   have xc := kc6 HBx; have fc := kc2 HBf; have gc := kc2 HBg; have uc := kc6 HBu; have vc := kc6 HBv
   have hI := i01_0_01_0 w w2 w4 w7
   go_upto_region 14 with (fail)
   clear xc fc gc uc vc
   generalize ee : ((((((w7.setCell ⟨w4.heap.size, 0, none⟩ (.slice a2 m2 c2)).setCell ⟨w4.heap.size, 1, none⟩ (.int .i64 (j : Int))).setCell ⟨w4.heap.size, 2, none⟩ (.int .i64 0)).setCell ⟨w4.heap.size, 3, none⟩ (.bool true)).setCell ⟨w4.heap.size, 4, none⟩ (.int .i64 (nowT (toksE s) j).l)).setCell ⟨w4.heap.size, 5, none⟩ (.int .i64 (nowT (toksE s) j).c)) = w8 at *
   have hsz8 := sizeS6 ee
   replace HF := fN6 HF ee
   replace HBx := bF6 HBx ee
   replace HBf := bF6 HBf ee
   replace HBg := bF6 HBg ee
   replace HBu := bS6 HBu ee
   replace HBv := bF6 HBv ee
   clear ee
   clear hI
   have xc := kc6 HBx; have fc := kc2 HBf; have gc := kc2 HBg; have uc := kc6 HBu; have vc := kc6 HBv
   have hI := i01_0_01_0 w w2 w4 w8
   have hZ := i01_0_01_0 w w2 w4 w7
   go_wp2_with (fail)
   refine wp_region_held_drew (S := fun w' => Far (fun b => b = w.heap.size ∨ b = (w.heap.size + 1)) (w8) w') (by kernel_rfl) (Far.of (below_drew _)) (fun hS40 => ?_)
   refine takeA 0 (v := ?_) rfl ?_ ?_
   rotate_left
   · (intro w hSw; (try dsimp only at hSw); replace uc := Far.c6z uc hSw; go_simp; try with_reducible rfl)
   try simp only [Act.put, pu1, pu2, pu3]
   refine takeA 1 (v := ?_) rfl ?_ ?_
   rotate_left
   · (intro w hSw; (try dsimp only at hSw); replace uc := Far.c6z uc hSw; go_simp; try with_reducible rfl)
   try simp only [Act.put, pu1, pu2, pu3]
   refine takeA 2 (v := ?_) rfl ?_ ?_
   rotate_left
   · (intro w hSw; (try dsimp only at hSw); replace uc := Far.c6z uc hSw; go_simp; try with_reducible rfl)
   try simp only [Act.put, pu1, pu2, pu3]

   refine callA 3 rfl fun K hK => ?_
   go_simp
   refine hK.out _ _ ?_ (fun hS41 => ?_)
   · exact (by refine Far.trans ?_ (Far.of (below_drew _)); (iterate 6 (refine Far.setCell (p := ⟨w.heap.size, _, none⟩) ?_ (.inl rfl) _)); exact Far.refl _ _)
   clear hK K

   clear xc fc gc uc vc
   generalize ee : ((((((w8.setCell ⟨w.heap.size, 0, none⟩ (.int .i64 0)).setCell ⟨w.heap.size, 1, none⟩ (.string ⟨#[]⟩)).setCell ⟨w.heap.size, 2, none⟩ (.int .i64 0)).setCell ⟨w.heap.size, 3, none⟩ (.slice none 0 0)).setCell ⟨w.heap.size, 4, none⟩ (.int .i64 0)).setCell ⟨w.heap.size, 5, none⟩ (.int .i64 0)) = w9_1 at *
   have hq1 := sizeS6 ee
   replace HF := fN6 HF ee
   replace HBx := bS6 HBx ee
   replace HBf := bF6 HBf ee
   replace HBg := bF6 HBg ee
   replace HBu := bF6 HBu ee
   replace HBv := bF6 HBv ee
   clear ee
   generalize ee : (w9_1.drew) = w9 at *
   have hq2 := sizeD ee
   replace HF := fD HF ee
   replace HBx := bD HBx ee
   replace HBf := bD HBf ee
   replace HBg := bD HBg ee
   replace HBu := bD HBu ee
   replace HBv := bD HBv ee
   clear ee
   have hsa9 : w9.heap.size = w7.heap.size + 0 := by omega
   clear hq1 hq2
   clear hI hZ
   have xc := kc6 HBx; have fc := kc2 HBf; have gc := kc2 HBg; have uc := kc6 HBu; have vc := kc6 HBv
   have hI := i01_0_01_0 w w2 w4 w9
   have hZ := i01_0_01_0 w w2 w4 w7
   refine takeA 4 (v := ?_) rfl ?_ ?_
   rotate_left
   · (intro w hSw; (try dsimp only at hSw); go_simp; try with_reducible rfl)
   try simp only [Act.put, pu1, pu2, pu3]
   refine callA 5 rfl fun K hK => ?_
   go_simp
   refine hK.out _ _ ?_ (fun hS42 => ?_)
   · exact (by (iterate 2 (refine Far.setCell (p := ⟨(w.heap.size + 1), _, none⟩) ?_ (.inr rfl) _)); exact hS41)
   clear hK K
   refine wpAnyH_done (by kernel_rfl) ?_ _

   clear xc fc gc uc vc
   generalize ee : ((w9.setCell ⟨(w.heap.size + 1), 0, none⟩ (.int .i64 (nowT (toksE s) j).l)).setCell ⟨(w.heap.size + 1), 1, none⟩ (.int .i64 (nowT (toksE s) j).c)) = w10 at *
   have hsz10 := sizeS2 ee
   replace HF := fN2 HF ee
   replace HBx := bF2 HBx ee
   replace HBf := bS2 HBf ee
   replace HBg := bF2 HBg ee
   replace HBu := bF2 HBu ee
   replace HBv := bF2 HBv ee
   clear ee
   clear hI hZ
   go_wp2_with (fail)
   have y := kc6 HBx; have z := kc2 HBf
   refine bodyPost_ret (v := .tuple #[.agg #[.int .i64 0, .string ⟨#[]⟩, .int .i64 0, .slice none 0 0, .int .i64 0, .int .i64 0], .int .i64 1, .agg #[.int .i64 (nowT (toksE s) j).l, .int .i64 (nowT (toksE s) j).c]]) (by clear HF H HBx HBf HBg HBu HBv; simp [results, Try.results8, go_sem, y, z]) rfl ?_
   exact ⟨rfl, refBelow HF.out⟩
end Go.Proofs.Ytnmlobakiclgiaa
