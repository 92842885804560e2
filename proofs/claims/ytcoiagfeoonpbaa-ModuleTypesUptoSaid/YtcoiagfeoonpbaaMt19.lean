/-
 The document's reader's typ and types: types. No condition but how the tokens lie.
-/
import Derived.Test.YtcoiagfeoonpbaaMt16
import Derived.Test.YtcoiagfeoonpbaaMt17
import Derived.Test.YtcoiagfeoonpbaaMt11
import Derived.Deep.Cut
namespace Go.Proofs.Ytcoiagfeoonpbaa
open Go.RowKit
def RTAns (aL : Option Addr) (n cap : Nat) (x : Tm) (s' : MS) (deep : Int) (W : World) (e : Ending) (w' : World) : Prop :=
 ∃ a m c, e = .returned (.tuple #[rdS aL n cap s' deep, tmV x a m c]) ∧ Below W.heap.size W w' ∧ Mem (Nw 0 W.heap.size w'.heap.size) w' (.s 4 (Tm.rows x.args)) (.slice a m c)
def RLAns (aL : Option Addr) (n cap : Nat) (l : List Tm) (s' : MS) (deep : Int) (W : World) (e : Ending) (w' : World) : Prop :=
 ∃ a m c, e = .returned (.tuple #[rdS aL n cap s' deep, .slice a m c]) ∧ Below W.heap.size W w' ∧ Mem (Nw 0 W.heap.size w'.heap.size) w' (.s 4 (Tm.rows l)) (.slice a m c)
section
variable (ts : List Tk) (aL : Option Addr) (n cap : Nat)
def ReadsRT (f : Nat) : Prop := ∀ (at' : Bool) (s : MS) (deep : Nat) (x : Tm) (s' : MS) (w : World), deep ≤ 40 → (at' = true → s.ok = true) → typeM ts f (if at' then .atom else .typ) deep s = some (x, s') → MemW w (.s 5 (tkRows ts)) (.slice aL n cap) → n ≤ 1048576 → Calls Try.prog 35 #[rdS aL n cap s (deep : Int), .bool at'] w (RTAns aL n cap x s' (deep : Int) w)
def ReadsRL (f : Nat) : Prop := ∀ (s : MS) (deep : Nat) (x : Tm) (s' : MS) (w : World), deep ≤ 40 → typeM ts f (.atoms []) deep s = some (x, s') → MemW w (.s 5 (tkRows ts)) (.slice aL n cap) → n ≤ 1048576 → Calls Try.prog 68 #[rdS aL n cap s (deep : Int)] w (RLAns aL n cap x.args s' (deep : Int) w)
end
section
variable {ts : List Tk} {aL : Option Addr} {n cap : Nat}
theorem row_appG {base : Nat} {w : World} {t : TypeId} {sz : Nat} {y : Value} {rs : List (List At)} {W : World} {r : List At} {cs : Array Value} (h : OwnD 0 base t sz W y rs) (hb : base ≤ W.heap.size) (hs : W.heap.size ≤ w.heap.size) (hr : All2 (Mem (Nw 0 W.heap.size w.heap.size) w) r cs.toList) (hsz : cs.toList.length = sz) {g : Nat} (hg : w.heap.size = g) :
  Mem (fun b => Nw 0 base (w.alloc (.cells cs t)).heap.size b ∧ y.ownBlock ≠ some b) (w.alloc (.cells cs t)) (.s sz [r]) (.slice (some ⟨g, 0, none⟩) 1 1) := by
 subst hg
 exact row_app h hb hs hr hsz
theorem yS4 {w w' : World} {g : Nat} {A : Nat → Prop} {x : At} {y : Value} {v0 v1 v2 v3 : Value} (h : Hid (Mem (NwS A w.heap.size) w x y)) (e : ((((w.setCell ⟨g, 0, none⟩ v0).setCell ⟨g, 1, none⟩ v1).setCell ⟨g, 2, none⟩ v2).setCell ⟨g, 3, none⟩ v3) = w') (hg : ¬ A g := by first | (unfold Av; omega) | (unfold Bt; omega)) : Hid (Mem (NwS A w'.heap.size) w' x y) := Lib.hid (e ▸ memS_set (memS_set (memS_set (memS_set h.out hg 0 v0) hg 1 v1) hg 2 v2) hg 3 v3)
attribute [local go_sem] tk_pos tk_text tk_kind0
set_option maxRecDepth 100000 in
set_option maxHeartbeats 20000000 in
theorem typR_bad {i : Nat} {p : Int × Int} {d : Int} (at' : Bool) (w : World) (h : MemW w (.s 5 (tkRows ts)) (.slice aL n cap))  :
  Calls Try.prog 35 #[rdV aL n cap (i : Int) d true p.1 p.2, .bool at'] w (RTAns aL n cap noTm ⟨i, some p⟩ d w) := by
 have H := Lib.hid h
 clear h
 have HF : Hid (FarB w.heap.size w.heap.size w w) := Lib.hid (FarB.refl _ _ _)
 simp only [rdV]
 go_enter Try.func35, Try.ntmps35
 go_wp2_with (fail)
 generalize ee : World.alloc w _ = w1_1
 have hq1 := sizeA ee
 replace HF := fA HF ee
 have HBr := nB ee (w.heap.size)
 clear ee
 generalize ee : World.alloc w1_1 _ = w1_2
 have hq2 := sizeA ee
 replace HF := fA HF ee
 replace HBr := bA HBr ee
 have HBs := nB ee (w.heap.size + 1)
 clear ee
 generalize ee : World.alloc w1_2 _ = w1
 have hq3 := sizeA ee
 replace HF := fA HF ee
 replace HBr := bA HBr ee
 replace HBs := bA HBs ee
 have HBx := nB ee (w.heap.size + 2)
 clear ee
 have hsa1 : w1.heap.size = w.heap.size + 3 := by omega
 clear hq1 hq2 hq3
 have rc := kc6 HBr; have sc := kc6 HBs; have xc := kc4 HBx
 have hI := i012_0 w w1
 have hZ := i0123 w
 clear rc sc xc
 refine (nowR_any _ (refTok HF.out H.out)).mono ?_
 rintro _ w2 ⟨rfl, hb⟩
 replace HBr := kB HBr hb
 replace HBs := kB HBs hb
 replace HBx := kB HBx hb
 replace HF := kF HF hb
 have hs2 := hb.size
 clear hb
 simp only [tkV]
 clear hI hZ
 have rc := kc6 HBr; have sc := kc6 HBs; have xc := kc4 HBx
 have hI := i012_0 w w2
 go_wp2_with (fail)
 clear rc sc xc
 generalize ee : World.setCell _ ⟨(w.heap.size + 1), 5, none⟩ _ = w3_1
 have hq1 := sizeS6 ee
 replace HF := fN6 HF ee
 replace HBr := bF6 HBr ee
 replace HBs := bS6 HBs ee
 replace HBx := bF6 HBx ee
 clear ee
 generalize ee : World.setCell _ ⟨(w.heap.size + 2), 3, none⟩ _ = w3_2
 have hq2 := sizeS4 ee
 replace HF := fN4 HF ee
 replace HBr := bF4 HBr ee
 replace HBs := bF4 HBs ee
 replace HBx := bS4 HBx ee
 clear ee
 generalize ee : World.alloc w3_2 _ = w3
 have hq3 := sizeA ee
 replace HF := fA HF ee
 replace HBr := bA HBr ee
 replace HBs := bA HBs ee
 replace HBx := bA HBx ee
 have HBp := nB ee (w2.heap.size)
 clear ee
 have hsa3 : w3.heap.size = w2.heap.size + 1 := by omega
 clear hq1 hq2 hq3
 clear hI
 go_wp2_with (fail)
 have z := kc6 HBs; have y := kc4 HBx
 refine bodyPost_ret (v := .tuple #[.agg #[.slice aL n cap, .int .i64 (i : Int), .int .i64 d, .bool true, .int .i64 p.1, .int .i64 p.2], .agg #[.int .i64 0, .string ⟨#[]⟩, .int .i64 0, .slice none 0 0]]) (by clear HF H HBr HBs HBx HBp; simp [results, Try.results35, go_sem, z, y]) rfl ?_
 exact ⟨_, _, _, rfl, refBelow HF.out, .e none 0 4 (by decide)⟩
theorem typR_badC {i : Nat} {d l c : Int} (w : World) (h : MemW w (.s 5 (tkRows ts)) (.slice aL n cap)) :
  Calls Try.prog 35 #[rdV aL n cap (i : Int) d true l c, .bool false] w fun e w' => ∃ a m c', e = .returned (.tuple #[rdV aL n cap (i : Int) d true l c, .agg #[.int .i64 0, .string ⟨#[]⟩, .int .i64 0, .slice a m c']]) ∧ Below w.heap.size w w' ∧ m = 0 ∧ c' ≤ maxLen :=
 (typR_bad (i := i) (p := (l, c)) (d := d) false w h).mono fun e w' ⟨a, m, c', h1, h2, h3⟩ => ⟨a, m, c', h1, h2, by have h4 := h3.len; exact h4.1.symm, by have h4 := h3.len; unfold maxLen; omega⟩
set_option maxRecDepth 100000 in
set_option maxHeartbeats 20000000 in
theorem typR_low {i deep : Nat} (at' : Bool) (w : World) (h : MemW w (.s 5 (tkRows ts)) (.slice aL n cap)) (h2 : (nowT ts i).k = 2) :
  Calls Try.prog 35 #[rdV aL n cap (i : Int) (deep : Int) false 0 0, .bool at'] w (RTAns aL n cap (.mk 1 (nowT ts i).s 0 []) ⟨i + 1, none⟩ (deep : Int) w) := by
 have H := Lib.hid h
 clear h
 have HF : Hid (FarB w.heap.size w.heap.size w w) := Lib.hid (FarB.refl _ _ _)
 simp only [rdV]
 go_enter Try.func35, Try.ntmps35
 have e2 : ((nowT ts i).k == 2) = true := by simp [h2]
 have hlt : i < ts.length := now_lt (by rw [h2]; decide)
 have hn2 := H.out.len
 have hov : (i : Int) + 1 ≤ 9223372036854775807 := by rw [tkRows_len] at hn2; omega
 clear hn2 hlt
 replace hov := Lib.hid hov
 clear h2
 go_wp2_with (fail)
 generalize ee : World.alloc w _ = w1_1
 have hq1 := sizeA ee
 replace HF := fA HF ee
 have HBr := nB ee (w.heap.size)
 clear ee
 generalize ee : World.alloc w1_1 _ = w1_2
 have hq2 := sizeA ee
 replace HF := fA HF ee
 replace HBr := bA HBr ee
 have HBs := nB ee (w.heap.size + 1)
 clear ee
 generalize ee : World.alloc w1_2 _ = w1
 have hq3 := sizeA ee
 replace HF := fA HF ee
 replace HBr := bA HBr ee
 replace HBs := bA HBs ee
 have HBx := nB ee (w.heap.size + 2)
 clear ee
 have hsa1 : w1.heap.size = w.heap.size + 3 := by omega
 clear hq1 hq2 hq3
 have rc := kc6 HBr; have sc := kc6 HBs; have xc := kc4 HBx
 have hI := i012_0 w w1
 have hZ := i0123 w
 clear rc sc xc
 refine (nowR_any _ (refTok HF.out H.out)).mono ?_
 rintro _ w2 ⟨rfl, hb⟩
 replace HBr := kB HBr hb
 replace HBs := kB HBs hb
 replace HBx := kB HBx hb
 replace HF := kF HF hb
 have hs2 := hb.size
 clear hb
 simp only [tkV]
 clear hI hZ
 have rc := kc6 HBr; have sc := kc6 HBs; have xc := kc4 HBx
 have hI := i012_0 w w2
 go_upto_region 12 with (fail)
 replace hov := hov.out
 go_wp2_with (fail)
 clear rc sc xc
 generalize ee : World.setCell w2 _ _ = w3_1
 have hq1 := sizeS1 ee
 replace HF := fN1 HF ee
 replace HBr : Hid (Bo w3_1 w.heap.size 44 #[.slice aL n cap, .int .i64 ((i : Int) + 1), .int .i64 (deep : Int), .bool false, .int .i64 0, .int .i64 0]) := Lib.hid (by rw [← ee]; exact HBr.out.set 1 (.int .i64 ((i : Int) + 1)))
 replace HBs := bF1 HBs ee
 replace HBx := bF1 HBx ee
 clear ee
 generalize ee : World.alloc w3_1 _ = w3
 have hq2 := sizeA ee
 replace HF := fA HF ee
 replace HBr := bA HBr ee
 replace HBs := bA HBs ee
 replace HBx := bA HBx ee
 have HBp := nB ee (w2.heap.size)
 clear ee
 have hsa3 : w3.heap.size = w2.heap.size + 1 := by omega
 clear hq1 hq2
 clear hI
 have rc := kc6 HBr; have sc := kc6 HBs; have xc := kc4 HBx; have pc := kc5 HBp
 have hI := i012_0_0 w w2 w3
 have hZ := i012_01 w w2
 refine wp_region_held_drew (S := fun w' => Far (fun b => b = (w.heap.size + 1) ∨ b = (w.heap.size + 2)) (w3) w') (by kernel_rfl) (Far.of (below_drew _)) (fun hS40 => ?_)
 refine takeA 0 (v := ?_) rfl ?_ ?_
 rotate_left
 · (intro w hSw; (try dsimp only at hSw); replace rc := Far.c6z rc hSw; replace pc := Far.c5z pc hSw; go_simp; try with_reducible rfl)
 try simp only [Act.put, pu1, pu2, pu3]
 refine takeA 1 (v := ?_) rfl ?_ ?_
 rotate_left
 · (intro w hSw; (try dsimp only at hSw); replace rc := Far.c6z rc hSw; replace pc := Far.c5z pc hSw; go_simp; try with_reducible rfl)
 try simp only [Act.put, pu1, pu2, pu3]
 refine takeA 2 (v := ?_) rfl ?_ ?_
 rotate_left
 · (intro w hSw; (try dsimp only at hSw); replace rc := Far.c6z rc hSw; replace pc := Far.c5z pc hSw; go_simp; try with_reducible rfl)
 try simp only [Act.put, pu1, pu2, pu3]
 refine takeA 3 (v := ?_) rfl ?_ ?_
 rotate_left
 · (intro w hSw; (try dsimp only at hSw); replace rc := Far.c6z rc hSw; replace pc := Far.c5z pc hSw; go_simp; try with_reducible rfl)
 try simp only [Act.put, pu1, pu2, pu3]

 refine callA 4 rfl fun K hK => ?_
 go_simp
 refine hK.out _ _ ?_ (fun hS41 => ?_)
 · exact (by refine Far.trans ?_ (Far.of (below_drew _)); (iterate 6 (refine Far.setCell (p := ⟨(w.heap.size + 1), _, none⟩) ?_ (.inl rfl) _)); exact Far.refl _ _)
 clear hK K

 clear rc sc xc pc
 generalize ee : ((((((w3.setCell ⟨(w.heap.size + 1), 0, none⟩ (.slice aL n cap)).setCell ⟨(w.heap.size + 1), 1, none⟩ (.int .i64 ((i : Int) + 1))).setCell ⟨(w.heap.size + 1), 2, none⟩ (.int .i64 (deep : Int))).setCell ⟨(w.heap.size + 1), 3, none⟩ (.bool false)).setCell ⟨(w.heap.size + 1), 4, none⟩ (.int .i64 0)).setCell ⟨(w.heap.size + 1), 5, none⟩ (.int .i64 0)) = w4_1 at *
 have hq1 := sizeS6 ee
 replace HF := fN6 HF ee
 replace HBr := bF6 HBr ee
 replace HBs := bS6 HBs ee
 replace HBx := bF6 HBx ee
 replace HBp := bF6 HBp ee
 clear ee
 generalize ee : (w4_1.drew) = w4 at *
 have hq2 := sizeD ee
 replace HF := fD HF ee
 replace HBr := bD HBr ee
 replace HBs := bD HBs ee
 replace HBx := bD HBx ee
 replace HBp := bD HBp ee
 clear ee
 have hsa4 : w4.heap.size = w2.heap.size + 1 := by omega
 clear hq1 hq2
 clear hI hZ
 have rc := kc6 HBr; have sc := kc6 HBs; have xc := kc4 HBx; have pc := kc5 HBp
 have hI := i012_0_0 w w2 w4
 have hZ := i012_01 w w2
 refine callA 5 rfl fun K hK => ?_
 go_simp
 refine hK.out _ _ ?_ (fun hS42 => ?_)
 · exact (by (iterate 4 (refine Far.setCell (p := ⟨(w.heap.size + 2), _, none⟩) ?_ (.inr rfl) _)); exact hS41)
 clear hK K
 refine wpAnyH_done (by kernel_rfl) ?_ _

 clear rc sc xc pc
 generalize ee : World.setCell _ ⟨(w.heap.size + 2), 3, none⟩ _ = w5
 have hsz5 := sizeS4 ee
 replace HF := fN4 HF ee
 replace HBr := bF4 HBr ee
 replace HBs := bF4 HBs ee
 replace HBx := bS4 HBx ee
 replace HBp := bF4 HBp ee
 clear ee
 clear hI hZ
 go_wp2_with (fail)
 have z := kc6 HBs; have y := kc4 HBx
 refine bodyPost_ret (v := .tuple #[.agg #[.slice aL n cap, .int .i64 ((i : Int) + 1), .int .i64 (deep : Int), .bool false, .int .i64 0, .int .i64 0], .agg #[.int .i64 1, .string (nowT ts i).s, .int .i64 0, .slice none 0 0]]) (by clear HF H HBr HBs HBx HBp; simp [results, Try.results35, go_sem, z, y]) rfl ?_
 exact ⟨_, _, _, rfl, refBelow HF.out, .e none 0 4 (by decide)⟩
set_option maxRecDepth 100000 in
set_option maxHeartbeats 20000000 in
theorem typR_upA {i deep : Nat} (w : World) (h : MemW w (.s 5 (tkRows ts)) (.slice aL n cap)) (h3 : (nowT ts i).k = 3) :
  Calls Try.prog 35 #[rdV aL n cap (i : Int) (deep : Int) false 0 0, .bool true] w (RTAns aL n cap (.mk 2 (nowT ts i).s 0 []) ⟨i + 1, none⟩ (deep : Int) w) := by
 have H := Lib.hid h
 clear h
 have HF : Hid (FarB w.heap.size w.heap.size w w) := Lib.hid (FarB.refl _ _ _)
 simp only [rdV]
 go_enter Try.func35, Try.ntmps35
 have e2 : ((nowT ts i).k == 2) = false := by simp [h3]
 have e3 : ((nowT ts i).k == 3) = true := by simp [h3]
 have hlt : i < ts.length := now_lt (by rw [h3]; decide)
 have hn2 := H.out.len
 have hov : (i : Int) + 1 ≤ 9223372036854775807 := by rw [tkRows_len] at hn2; omega
 clear hn2 hlt
 replace hov := Lib.hid hov
 clear h3
 go_wp2_with (fail)
 generalize ee : World.alloc w _ = w1_1
 have hq1 := sizeA ee
 replace HF := fA HF ee
 have HBr := nB ee (w.heap.size)
 clear ee
 generalize ee : World.alloc w1_1 _ = w1_2
 have hq2 := sizeA ee
 replace HF := fA HF ee
 replace HBr := bA HBr ee
 have HBs := nB ee (w.heap.size + 1)
 clear ee
 generalize ee : World.alloc w1_2 _ = w1
 have hq3 := sizeA ee
 replace HF := fA HF ee
 replace HBr := bA HBr ee
 replace HBs := bA HBs ee
 have HBx := nB ee (w.heap.size + 2)
 clear ee
 have hsa1 : w1.heap.size = w.heap.size + 3 := by omega
 clear hq1 hq2 hq3
 have rc := kc6 HBr; have sc := kc6 HBs; have xc := kc4 HBx
 have hI := i012_0 w w1
 have hZ := i0123 w
 clear rc sc xc
 refine (nowR_any _ (refTok HF.out H.out)).mono ?_
 rintro _ w2 ⟨rfl, hb⟩
 replace HBr := kB HBr hb
 replace HBs := kB HBs hb
 replace HBx := kB HBx hb
 replace HF := kF HF hb
 have hs2 := hb.size
 clear hb
 simp only [tkV]
 clear hI hZ
 have rc := kc6 HBr; have sc := kc6 HBs; have xc := kc4 HBx
 have hI := i012_0 w w2
 go_upto_region 15 with (fail)
 replace hov := hov.out
 go_wp2_with (fail)
 clear rc sc xc
 generalize ee : World.setCell w2 _ _ = w3_1
 have hq1 := sizeS1 ee
 replace HF := fN1 HF ee
 replace HBr : Hid (Bo w3_1 w.heap.size 44 #[.slice aL n cap, .int .i64 ((i : Int) + 1), .int .i64 (deep : Int), .bool false, .int .i64 0, .int .i64 0]) := Lib.hid (by rw [← ee]; exact HBr.out.set 1 (.int .i64 ((i : Int) + 1)))
 replace HBs := bF1 HBs ee
 replace HBx := bF1 HBx ee
 clear ee
 generalize ee : World.alloc w3_1 _ = w3_2
 have hq2 := sizeA ee
 replace HF := fA HF ee
 replace HBr := bA HBr ee
 replace HBs := bA HBs ee
 replace HBx := bA HBx ee
 have HBp := nB ee (w2.heap.size)
 clear ee
 generalize ee : World.alloc w3_2 _ = w3
 have hq3 := sizeA ee
 replace HF := fA HF ee
 replace HBr := bA HBr ee
 replace HBs := bA HBs ee
 replace HBx := bA HBx ee
 replace HBp := bA HBp ee
 have HBy := nB ee (w2.heap.size + 1)
 clear ee
 have hsa3 : w3.heap.size = w2.heap.size + 2 := by omega
 clear hq1 hq2 hq3
 clear hI
 have rc := kc6 HBr; have sc := kc6 HBs; have xc := kc4 HBx; have pc := kc5 HBp; have yc := kc4 HBy
 have hI := i012_01_0 w w2 w3
 have hZ := i012_012 w w2
 clear rc sc xc pc yc
 clear hI hZ
 clear HBp
 have rc := kc6 HBr; have sc := kc6 HBs; have xc := kc4 HBx; have yc := kc4 HBy
 have hI := i012_1_0 w w2 w3
 have hZ := i012_12 w w2
 refine wp_region_held_drew (S := fun w' => Far (fun b => b = (w.heap.size + 1) ∨ b = (w.heap.size + 2)) (w3) w') (by kernel_rfl) (Far.of (below_drew _)) (fun hS40 => ?_)
 refine takeA 0 (v := ?_) rfl ?_ ?_
 rotate_left
 · (intro w hSw; (try dsimp only at hSw); replace rc := Far.c6z rc hSw; go_simp; try with_reducible rfl)
 try simp only [Act.put, pu1, pu2, pu3]
 refine takeA 1 (v := ?_) rfl ?_ ?_
 rotate_left
 · (intro w hSw; (try dsimp only at hSw); replace yc := Far.c4z yc hSw; go_simp; try with_reducible rfl)
 try simp only [Act.put, pu1, pu2, pu3]

 refine callA 2 rfl fun K hK => ?_
 go_simp
 refine hK.out _ _ ?_ (fun hS41 => ?_)
 · exact (by refine Far.trans ?_ (Far.of (below_drew _)); (iterate 6 (refine Far.setCell (p := ⟨(w.heap.size + 1), _, none⟩) ?_ (.inl rfl) _)); exact Far.refl _ _)
 clear hK K

 clear rc sc xc yc
 generalize ee : ((((((w3.setCell ⟨(w.heap.size + 1), 0, none⟩ (.slice aL n cap)).setCell ⟨(w.heap.size + 1), 1, none⟩ (.int .i64 ((i : Int) + 1))).setCell ⟨(w.heap.size + 1), 2, none⟩ (.int .i64 (deep : Int))).setCell ⟨(w.heap.size + 1), 3, none⟩ (.bool false)).setCell ⟨(w.heap.size + 1), 4, none⟩ (.int .i64 0)).setCell ⟨(w.heap.size + 1), 5, none⟩ (.int .i64 0)) = w4_1 at *
 have hq1 := sizeS6 ee
 replace HF := fN6 HF ee
 replace HBr := bF6 HBr ee
 replace HBs := bS6 HBs ee
 replace HBx := bF6 HBx ee
 replace HBy := bF6 HBy ee
 clear ee
 generalize ee : (w4_1.drew) = w4 at *
 have hq2 := sizeD ee
 replace HF := fD HF ee
 replace HBr := bD HBr ee
 replace HBs := bD HBs ee
 replace HBx := bD HBx ee
 replace HBy := bD HBy ee
 clear ee
 have hsa4 : w4.heap.size = w2.heap.size + 2 := by omega
 clear hq1 hq2
 clear hI hZ
 have rc := kc6 HBr; have sc := kc6 HBs; have xc := kc4 HBx; have yc := kc4 HBy
 have hI := i012_1_0 w w2 w4
 have hZ := i012_12 w w2
 refine callA 3 rfl fun K hK => ?_
 go_simp
 refine hK.out _ _ ?_ (fun hS42 => ?_)
 · exact (by (iterate 4 (refine Far.setCell (p := ⟨(w.heap.size + 2), _, none⟩) ?_ (.inr rfl) _)); exact hS41)
 clear hK K
 refine wpAnyH_done (by kernel_rfl) ?_ _

 clear rc sc xc yc
 generalize ee : World.setCell _ ⟨(w.heap.size + 2), 3, none⟩ _ = w5
 have hsz5 := sizeS4 ee
 replace HF := fN4 HF ee
 replace HBr := bF4 HBr ee
 replace HBs := bF4 HBs ee
 replace HBx := bS4 HBx ee
 replace HBy := bF4 HBy ee
 clear ee
 clear hI hZ
 go_wp2_with (fail)
 have z := kc6 HBs; have y := kc4 HBx
 refine bodyPost_ret (v := .tuple #[.agg #[.slice aL n cap, .int .i64 ((i : Int) + 1), .int .i64 (deep : Int), .bool false, .int .i64 0, .int .i64 0], .agg #[.int .i64 2, .string (nowT ts i).s, .int .i64 0, .slice none 0 0]]) (by clear HF H HBr HBs HBx HBy; simp [results, Try.results35, go_sem, z, y]) rfl ?_
 exact ⟨_, _, _, rfl, refBelow HF.out, .e none 0 4 (by decide)⟩
set_option maxRecDepth 100000 in
set_option maxHeartbeats 20000000 in
theorem typR_upT {f i deep : Nat} {z : Tm} {s' : MS} (w : World) (h : MemW w (.s 5 (tkRows ts)) (.slice aL n cap)) (h3 : (nowT ts i).k = 3) (hd : deep ≤ 40) (hn : n ≤ 1048576) (hr : typeM ts f (.atoms []) deep ⟨i + 1, none⟩ = some (z, s')) (HL : ReadsRL ts aL n cap f) :
  Calls Try.prog 35 #[rdV aL n cap (i : Int) (deep : Int) false 0 0, .bool false] w (RTAns aL n cap (.mk 2 (nowT ts i).s 0 z.args) s' (deep : Int) w) := by
 have H := Lib.hid h
 clear h
 have HF : Hid (FarB w.heap.size w.heap.size w w) := Lib.hid (FarB.refl _ _ _)
 simp only [rdV]
 go_enter Try.func35, Try.ntmps35
 have e2 : ((nowT ts i).k == 2) = false := by simp [h3]
 have e3 : ((nowT ts i).k == 3) = true := by simp [h3]
 have hlt : i < ts.length := now_lt (by rw [h3]; decide)
 have hn2 := H.out.len
 have hov : (i : Int) + 1 ≤ 9223372036854775807 := by rw [tkRows_len] at hn2; omega
 clear hn2 hlt
 replace hov := Lib.hid hov
 clear h3
 go_wp2_with (fail)
 generalize ee : World.alloc w _ = w1_1
 have hq1 := sizeA ee
 replace HF := fA HF ee
 have HBr := nB ee (w.heap.size)
 clear ee
 generalize ee : World.alloc w1_1 _ = w1_2
 have hq2 := sizeA ee
 replace HF := fA HF ee
 replace HBr := bA HBr ee
 have HBs := nB ee (w.heap.size + 1)
 clear ee
 generalize ee : World.alloc w1_2 _ = w1
 have hq3 := sizeA ee
 replace HF := fA HF ee
 replace HBr := bA HBr ee
 replace HBs := bA HBs ee
 have HBx := nB ee (w.heap.size + 2)
 clear ee
 have hsa1 : w1.heap.size = w.heap.size + 3 := by omega
 clear hq1 hq2 hq3
 have rc := kc6 HBr; have sc := kc6 HBs; have xc := kc4 HBx
 have hI := i012_0 w w1
 have hZ := i0123 w
 clear rc sc xc
 refine (nowR_any _ (refTok HF.out H.out)).mono ?_
 rintro _ w2 ⟨rfl, hb⟩
 replace HBr := kB HBr hb
 replace HBs := kB HBs hb
 replace HBx := kB HBx hb
 replace HF := kF HF hb
 have hs2 := hb.size
 clear hb
 simp only [tkV]
 clear hI hZ
 have rc := kc6 HBr; have sc := kc6 HBs; have xc := kc4 HBx
 have hI := i012_0 w w2
 go_upto_region 15 with (fail)
 replace hov := hov.out
 go_wp2_with (fail)
 clear rc sc xc
 generalize ee : World.setCell w2 _ _ = w3_1
 have hq1 := sizeS1 ee
 replace HF := fN1 HF ee
 replace HBr : Hid (Bo w3_1 w.heap.size 44 #[.slice aL n cap, .int .i64 ((i : Int) + 1), .int .i64 (deep : Int), .bool false, .int .i64 0, .int .i64 0]) := Lib.hid (by rw [← ee]; exact HBr.out.set 1 (.int .i64 ((i : Int) + 1)))
 replace HBs := bF1 HBs ee
 replace HBx := bF1 HBx ee
 clear ee
 generalize ee : World.alloc w3_1 _ = w3_2
 have hq2 := sizeA ee
 replace HF := fA HF ee
 replace HBr := bA HBr ee
 replace HBs := bA HBs ee
 replace HBx := bA HBx ee
 have HBp := nB ee (w2.heap.size)
 clear ee
 generalize ee : World.alloc w3_2 _ = w3
 have hq3 := sizeA ee
 replace HF := fA HF ee
 replace HBr := bA HBr ee
 replace HBs := bA HBs ee
 replace HBx := bA HBx ee
 replace HBp := bA HBp ee
 have HBy := nB ee (w2.heap.size + 1)
 clear ee
 have hsa3 : w3.heap.size = w2.heap.size + 2 := by omega
 clear hq1 hq2 hq3
 clear hI
 have rc := kc6 HBr; have sc := kc6 HBs; have xc := kc4 HBx; have pc := kc5 HBp; have yc := kc4 HBy
 have hI := i012_01_0 w w2 w3
 have hZ := i012_012 w w2
 clear rc sc xc pc yc
 refine (HL ⟨i + 1, none⟩ deep z s' _ hd hr (refTok HF.out H.out) hn).mono ?_
 rintro _ w4 ⟨az, mz, cz, rfl, hb, hm⟩
 replace HBr := kB HBr hb
 replace HBs := kB HBs hb
 replace HBx := kB HBx hb
 replace HBp := kB HBp hb
 replace HBy := kB HBy hb
 replace HF := kF HF hb
 have hs4 := hb.size
 clear hb
 have HMz := Lib.hid hm
 clear hm
 simp only [rdS, rdV]
 clear hI hZ
 have rc := kc6 HBr; have sc := kc6 HBs; have xc := kc4 HBx; have pc := kc5 HBp; have yc := kc4 HBy
 have hI := i012_01_0 w w2 w4
 go_wp2_with (fail)
 clear rc sc xc pc yc
 generalize ee : World.setCell _ ⟨w.heap.size, 5, none⟩ _ = w5_1
 have hq1 := sizeS6 ee
 replace HF := fN6 HF ee
 replace HBr := bS6 HBr ee
 replace HBs := bF6 HBs ee
 replace HBx := bF6 HBx ee
 replace HBp := bF6 HBp ee
 replace HBy := bF6 HBy ee
 replace HMz := mS6 HMz ee
 clear ee
 generalize ee : World.setCell w5_1 _ _ = w5_2
 have hq2 := sizeS1 ee
 replace HF := fN1 HF ee
 replace HBr := bF1 HBr ee
 replace HBs := bF1 HBs ee
 replace HBx := bF1 HBx ee
 replace HBp := bF1 HBp ee
 replace HBy : Hid (Bo w5_2 (w2.heap.size + 1) 39 #[.int .i64 2, .string (nowT ts i).s, .int .i64 0, .slice az mz cz]) := Lib.hid (by rw [← ee]; exact HBy.out.set 3 (.slice az mz cz))
 replace HMz := mS1 HMz ee
 clear ee
 generalize ee : World.alloc w5_2 _ = w5
 have hq3 := sizeA ee
 replace HF := fA HF ee
 replace HBr := bA HBr ee
 replace HBs := bA HBs ee
 replace HBx := bA HBx ee
 replace HBp := bA HBp ee
 replace HBy := bA HBy ee
 replace HMz := mA HMz ee
 have HBq := nB ee (w4.heap.size)
 clear ee
 have hsa5 : w5.heap.size = w4.heap.size + 1 := by omega
 clear hq1 hq2 hq3
 clear hI
 have rc := kc6 HBr; have sc := kc6 HBs; have xc := kc4 HBx; have pc := kc5 HBp; have yc := kc4 HBy; have qc := kc6 HBq
 have hI := i012_01_0_0 w w2 w4 w5
 have hZ := i012_01_01 w w2 w4
 clear rc sc xc pc yc qc
 clear hI hZ
 clear HBp HBq
 have rc := kc6 HBr; have sc := kc6 HBs; have xc := kc4 HBx; have yc := kc4 HBy
 have hI := i012_1_0 w w2 w5
 have hZ := chain5 w.heap.size (w.heap.size + 1) (w.heap.size + 2) (w2.heap.size + 1) (w4.heap.size + 1)
 refine wp_region_held_drew (S := fun w' => Far (fun b => b = (w.heap.size + 1) ∨ b = (w.heap.size + 2)) (w5) w') (by kernel_rfl) (Far.of (below_drew _)) (fun hS40 => ?_)
 refine takeA 0 (v := ?_) rfl ?_ ?_
 rotate_left
 · (intro w hSw; (try dsimp only at hSw); replace rc := Far.c6z rc hSw; go_simp; try with_reducible rfl)
 try simp only [Act.put, pu1, pu2, pu3]
 refine takeA 1 (v := ?_) rfl ?_ ?_
 rotate_left
 · (intro w hSw; (try dsimp only at hSw); replace yc := Far.c4z yc hSw; go_simp; try with_reducible rfl)
 try simp only [Act.put, pu1, pu2, pu3]

 refine callA 2 rfl fun K hK => ?_
 go_simp
 refine hK.out _ _ ?_ (fun hS41 => ?_)
 · exact (by refine Far.trans ?_ (Far.of (below_drew _)); (iterate 6 (refine Far.setCell (p := ⟨(w.heap.size + 1), _, none⟩) ?_ (.inl rfl) _)); exact Far.refl _ _)
 clear hK K

 clear rc sc xc yc
 generalize ee : ((((((w5.setCell ⟨(w.heap.size + 1), 0, none⟩ (.slice aL n cap)).setCell ⟨(w.heap.size + 1), 1, none⟩ (.int .i64 (s'.i : Int))).setCell ⟨(w.heap.size + 1), 2, none⟩ (.int .i64 (deep : Int))).setCell ⟨(w.heap.size + 1), 3, none⟩ (.bool (!s'.ok))).setCell ⟨(w.heap.size + 1), 4, none⟩ (.int .i64 (lB s'.b))).setCell ⟨(w.heap.size + 1), 5, none⟩ (.int .i64 (cB s'.b))) = w6_1 at *
 have hq1 := sizeS6 ee
 replace HF := fN6 HF ee
 replace HBr := bF6 HBr ee
 replace HBs := bS6 HBs ee
 replace HBx := bF6 HBx ee
 replace HBy := bF6 HBy ee
 replace HMz := mS6 HMz ee
 clear ee
 generalize ee : (w6_1.drew) = w6 at *
 have hq2 := sizeD ee
 replace HF := fD HF ee
 replace HBr := bD HBr ee
 replace HBs := bD HBs ee
 replace HBx := bD HBx ee
 replace HBy := bD HBy ee
 replace HMz := mD HMz ee
 clear ee
 have hsa6 : w6.heap.size = w4.heap.size + 1 := by omega
 clear hq1 hq2
 clear hI hZ
 have rc := kc6 HBr; have sc := kc6 HBs; have xc := kc4 HBx; have yc := kc4 HBy
 have hI := i012_1_0 w w2 w6
 have hZ := chain5 w.heap.size (w.heap.size + 1) (w.heap.size + 2) (w2.heap.size + 1) (w4.heap.size + 1)
 refine callA 3 rfl fun K hK => ?_
 go_simp
 refine hK.out _ _ ?_ (fun hS42 => ?_)
 · exact (by (iterate 4 (refine Far.setCell (p := ⟨(w.heap.size + 2), _, none⟩) ?_ (.inr rfl) _)); exact hS41)
 clear hK K
 refine wpAnyH_done (by kernel_rfl) ?_ _

 clear rc sc xc yc
 generalize ee : World.setCell _ ⟨(w.heap.size + 2), 3, none⟩ _ = w7
 have hsz7 := sizeS4 ee
 replace HF := fN4 HF ee
 replace HBr := bF4 HBr ee
 replace HBs := bF4 HBs ee
 replace HBx := bS4 HBx ee
 replace HBy := bF4 HBy ee
 replace HMz := mS4 HMz ee
 clear ee
 clear hI hZ
 go_wp2_with (fail)
 have z := kc6 HBs; have y := kc4 HBx
 refine bodyPost_ret (v := .tuple #[.agg #[.slice aL n cap, .int .i64 (s'.i : Int), .int .i64 (deep : Int), .bool (!s'.ok), .int .i64 (lB s'.b), .int .i64 (cB s'.b)], .agg #[.int .i64 2, .string (nowT ts i).s, .int .i64 0, .slice az mz cz]]) (by clear HF H HBr HBs HBx HBy HMz; simp [results, Try.results35, go_sem, z, y]) rfl ?_
 exact ⟨_, _, _, rfl, refBelow HF.out, memNw HMz.out (by omega)⟩
set_option maxRecDepth 100000 in
set_option maxHeartbeats 20000000 in
theorem typR_no {i deep : Nat} (at' : Bool) (w : World) (h : MemW w (.s 5 (tkRows ts)) (.slice aL n cap)) (h2 : (nowT ts i).k ≠ 2) (h3 : (nowT ts i).k ≠ 3) (hop : isT ts i 6 wOpen = false) :
  Calls Try.prog 35 #[rdV aL n cap (i : Int) (deep : Int) false 0 0, .bool at'] w (RTAns aL n cap noTm (failS ts ⟨i, none⟩) (deep : Int) w) := by
 have H := Lib.hid h
 clear h
 have HF : Hid (FarB w.heap.size w.heap.size w w) := Lib.hid (FarB.refl _ _ _)
 simp only [rdV]
 go_enter Try.func35, Try.ntmps35
 have e2 : ((nowT ts i).k == 2) = false := by simp [h2]
 have e3 : ((nowT ts i).k == 3) = false := by simp [h3]
 clear h2 h3
 go_wp2_with (fail)
 generalize ee : World.alloc w _ = w1_1
 have hq1 := sizeA ee
 replace HF := fA HF ee
 have HBr := nB ee (w.heap.size)
 clear ee
 generalize ee : World.alloc w1_1 _ = w1_2
 have hq2 := sizeA ee
 replace HF := fA HF ee
 replace HBr := bA HBr ee
 have HBs := nB ee (w.heap.size + 1)
 clear ee
 generalize ee : World.alloc w1_2 _ = w1
 have hq3 := sizeA ee
 replace HF := fA HF ee
 replace HBr := bA HBr ee
 replace HBs := bA HBs ee
 have HBx := nB ee (w.heap.size + 2)
 clear ee
 have hsa1 : w1.heap.size = w.heap.size + 3 := by omega
 clear hq1 hq2 hq3
 have rc := kc6 HBr; have sc := kc6 HBs; have xc := kc4 HBx
 have hI := i012_0 w w1
 have hZ := i0123 w
 clear rc sc xc
 refine (nowR_any _ (refTok HF.out H.out)).mono ?_
 rintro _ w2 ⟨rfl, hb⟩
 replace HBr := kB HBr hb
 replace HBs := kB HBs hb
 replace HBx := kB HBx hb
 replace HF := kF HF hb
 have hs2 := hb.size
 clear hb
 simp only [tkV]
 clear hI hZ
 have rc := kc6 HBr; have sc := kc6 HBs; have xc := kc4 HBx
 have hI := i012_0 w w2
 go_wp2_with (fail)
 clear rc sc xc
 generalize ee : World.alloc w2 _ = w3
 have hsa3 := sizeA ee
 replace HF := fA HF ee
 replace HBr := bA HBr ee
 replace HBs := bA HBs ee
 replace HBx := bA HBx ee
 have HBp := nB ee (w2.heap.size)
 clear ee
 clear hI
 have rc := kc6 HBr; have sc := kc6 HBs; have xc := kc4 HBx; have pc := kc5 HBp
 have hI := i012_0_0 w w2 w3
 have hZ := i012_01 w w2
 clear rc sc xc pc
 refine (isR_ok (s := wOpen) _ (refTok HF.out H.out)).mono ?_
 rintro _ w4 ⟨rfl, hb⟩
 replace HBr := kB HBr hb
 replace HBs := kB HBs hb
 replace HBx := kB HBx hb
 replace HBp := kB HBp hb
 replace HF := kF HF hb
 have hs4 := hb.size
 clear hb
 rw [hop]
 clear hI hZ
 have rc := kc6 HBr; have sc := kc6 HBs; have xc := kc4 HBx; have pc := kc5 HBp
 have hI := i012_0_0 w w2 w4
 go_wp2_with (fail)
 clear rc sc xc pc
 refine (failR_ok _ (refTok HF.out H.out)).mono ?_
 rintro _ w5 ⟨rfl, hb⟩
 replace HBr := kB HBr hb
 replace HBs := kB HBs hb
 replace HBx := kB HBx hb
 replace HBp := kB HBp hb
 replace HF := kF HF hb
 have hs5 := hb.size
 clear hb
 simp only [rdV]
 clear hI
 have rc := kc6 HBr; have sc := kc6 HBs; have xc := kc4 HBx; have pc := kc5 HBp
 have hI := i012_0_0 w w2 w5
 go_wp2_with (fail)
 clear rc sc xc pc
 generalize ee : World.setCell _ ⟨(w.heap.size + 1), 5, none⟩ _ = w6_1
 have hq1 := sizeS6 ee
 replace HF := fN6 HF ee
 replace HBr := bF6 HBr ee
 replace HBs := bS6 HBs ee
 replace HBx := bF6 HBx ee
 replace HBp := bF6 HBp ee
 clear ee
 generalize ee : World.setCell _ ⟨(w.heap.size + 2), 3, none⟩ _ = w6
 have hq2 := sizeS4 ee
 replace HF := fN4 HF ee
 replace HBr := bF4 HBr ee
 replace HBs := bF4 HBs ee
 replace HBx := bS4 HBx ee
 replace HBp := bF4 HBp ee
 clear ee
 have hsz6 : w6.heap.size = w5.heap.size := by omega
 clear hq1 hq2
 clear hI
 go_wp2_with (fail)
 have z := kc6 HBs; have y := kc4 HBx
 refine bodyPost_ret (v := .tuple #[.agg #[.slice aL n cap, .int .i64 (i : Int), .int .i64 (deep : Int), .bool true, .int .i64 (nowT ts i).l, .int .i64 (nowT ts i).c], .agg #[.int .i64 0, .string ⟨#[]⟩, .int .i64 0, .slice none 0 0]]) (by clear HF H HBr HBs HBx HBp; simp [results, Try.results35, go_sem, z, y]) rfl ?_
 exact ⟨_, _, _, rfl, refBelow HF.out, .e none 0 4 (by decide)⟩
set_option maxRecDepth 100000 in
set_option maxHeartbeats 20000000 in
theorem typR_40 {i deep : Nat} (at' : Bool) (w : World) (h : MemW w (.s 5 (tkRows ts)) (.slice aL n cap)) (h2 : (nowT ts i).k ≠ 2) (h3 : (nowT ts i).k ≠ 3) (hop : isT ts i 6 wOpen = true) (h40 : deep = 40) :
  Calls Try.prog 35 #[rdV aL n cap (i : Int) (deep : Int) false 0 0, .bool at'] w (RTAns aL n cap noTm (failS ts ⟨i, none⟩) (deep : Int) w) := by
 have H := Lib.hid h
 clear h
 have HF : Hid (FarB w.heap.size w.heap.size w w) := Lib.hid (FarB.refl _ _ _)
 simp only [rdV]
 go_enter Try.func35, Try.ntmps35
 have e2 : ((nowT ts i).k == 2) = false := by simp [h2]
 have e3 : ((nowT ts i).k == 3) = false := by simp [h3]
 clear h2 h3
 replace h40 := Lib.hid h40
 go_wp2_with (fail)
 generalize ee : World.alloc w _ = w1_1
 have hq1 := sizeA ee
 replace HF := fA HF ee
 have HBr := nB ee (w.heap.size)
 clear ee
 generalize ee : World.alloc w1_1 _ = w1_2
 have hq2 := sizeA ee
 replace HF := fA HF ee
 replace HBr := bA HBr ee
 have HBs := nB ee (w.heap.size + 1)
 clear ee
 generalize ee : World.alloc w1_2 _ = w1
 have hq3 := sizeA ee
 replace HF := fA HF ee
 replace HBr := bA HBr ee
 replace HBs := bA HBs ee
 have HBx := nB ee (w.heap.size + 2)
 clear ee
 have hsa1 : w1.heap.size = w.heap.size + 3 := by omega
 clear hq1 hq2 hq3
 have rc := kc6 HBr; have sc := kc6 HBs; have xc := kc4 HBx
 have hI := i012_0 w w1
 have hZ := i0123 w
 clear rc sc xc
 refine (nowR_any _ (refTok HF.out H.out)).mono ?_
 rintro _ w2 ⟨rfl, hb⟩
 replace HBr := kB HBr hb
 replace HBs := kB HBs hb
 replace HBx := kB HBx hb
 replace HF := kF HF hb
 have hs2 := hb.size
 clear hb
 simp only [tkV]
 clear hI hZ
 have rc := kc6 HBr; have sc := kc6 HBs; have xc := kc4 HBx
 have hI := i012_0 w w2
 go_wp2_with (fail)
 clear rc sc xc
 generalize ee : World.alloc w2 _ = w3
 have hsa3 := sizeA ee
 replace HF := fA HF ee
 replace HBr := bA HBr ee
 replace HBs := bA HBs ee
 replace HBx := bA HBx ee
 have HBp := nB ee (w2.heap.size)
 clear ee
 clear hI
 have rc := kc6 HBr; have sc := kc6 HBs; have xc := kc4 HBx; have pc := kc5 HBp
 have hI := i012_0_0 w w2 w3
 have hZ := i012_01 w w2
 clear rc sc xc pc
 refine (isR_ok (s := wOpen) _ (refTok HF.out H.out)).mono ?_
 rintro _ w4 ⟨rfl, hb⟩
 replace HBr := kB HBr hb
 replace HBs := kB HBs hb
 replace HBx := kB HBx hb
 replace HBp := kB HBp hb
 replace HF := kF HF hb
 have hs4 := hb.size
 clear hb
 rw [hop]
 clear hI hZ
 have rc := kc6 HBr; have sc := kc6 HBs; have xc := kc4 HBx; have pc := kc5 HBp
 have hI := i012_0_0 w w2 w4
 go_wp2_with (fail)
 clear rc sc xc pc
 refine (downU40 _ (refTok HF.out H.out) h40.out).mono ?_
 rintro _ w5 ⟨rfl, hb⟩
 replace HBr := kB HBr hb
 replace HBs := kB HBs hb
 replace HBx := kB HBx hb
 replace HBp := kB HBp hb
 replace HF := kF HF hb
 have hs5 := hb.size
 clear hb
 clear h40
 simp only [rdV]
 clear hI
 have rc := kc6 HBr; have sc := kc6 HBs; have xc := kc4 HBx; have pc := kc5 HBp
 have hI := i012_0_0 w w2 w5
 go_wp2_with (fail)
 clear rc sc xc pc
 refine (typR_badC (i := i) (d := (deep : Int)) _ (refTok HF.out H.out)).mono ?_
 rintro _ w6 ⟨az, mz, cz, rfl, hb, rfl, hcz⟩
 have HCZ := Lib.hid hcz
 clear hcz
 replace HBr := kB HBr hb
 replace HBs := kB HBs hb
 replace HBx := kB HBx hb
 replace HBp := kB HBp hb
 replace HF := kF HF hb
 have hs6 := hb.size
 clear hb
 simp only [rdV]
 clear hI
 have rc := kc6 HBr; have sc := kc6 HBs; have xc := kc4 HBx; have pc := kc5 HBp
 have hI := i012_0_0 w w2 w6
 go_wp2_with (fail)
 clear rc sc xc pc
 generalize ee : World.alloc w6 _ = w7_1
 have hq1 := sizeA ee
 replace HF := fA HF ee
 replace HBr := bA HBr ee
 replace HBs := bA HBs ee
 replace HBx := bA HBx ee
 replace HBp := bA HBp ee
 have HBu := nB ee (w6.heap.size)
 clear ee
 generalize ee : World.alloc w7_1 _ = w7
 have hq2 := sizeA ee
 replace HF := fA HF ee
 replace HBr := bA HBr ee
 replace HBs := bA HBs ee
 replace HBx := bA HBx ee
 replace HBp := bA HBp ee
 replace HBu := bA HBu ee
 have HBv := nB ee (w6.heap.size + 1)
 clear ee
 have hsa7 : w7.heap.size = w6.heap.size + 2 := by omega
 clear hq1 hq2
 clear hI
 have rc := kc6 HBr; have sc := kc6 HBs; have xc := kc4 HBx; have pc := kc5 HBp; have uc := kc6 HBu; have vc := kc4 HBv
 have hI := i012_0_01_0 w w2 w6 w7
 have hZ := i012_0_012 w w2 w6
 clear rc sc xc pc uc vc
 refine (takeR_bad _ (refTok HF.out H.out)).mono ?_
 rintro _ w8 ⟨rfl, hb⟩
 replace HBr := kB HBr hb
 replace HBs := kB HBs hb
 replace HBx := kB HBx hb
 replace HBp := kB HBp hb
 replace HBu := kB HBu hb
 replace HBv := kB HBv hb
 replace HF := kF HF hb
 have hs8 := hb.size
 clear hb
 simp only [rdV]
 clear hI hZ
 have rc := kc6 HBr; have sc := kc6 HBs; have xc := kc4 HBx; have pc := kc5 HBp; have uc := kc6 HBu; have vc := kc4 HBv
 have hI := i012_0_01_0 w w2 w6 w8
 go_wp2_with (fail)
 clear rc sc xc pc uc vc
 generalize ee : World.setCell _ ⟨w6.heap.size, 5, none⟩ _ = w9_1
 have hq1 := sizeS6 ee
 replace HF := fN6 HF ee
 replace HBr := bF6 HBr ee
 replace HBs := bF6 HBs ee
 replace HBx := bF6 HBx ee
 replace HBp := bF6 HBp ee
 replace HBu := bS6 HBu ee
 replace HBv := bF6 HBv ee
 clear ee
 generalize ee : World.setCell w9_1 _ _ = w9
 have hq2 := sizeS1 ee
 replace HF := fN1 HF ee
 replace HBr := bF1 HBr ee
 replace HBs := bF1 HBs ee
 replace HBx := bF1 HBx ee
 replace HBp := bF1 HBp ee
 replace HBu : Hid (Bo w9 w6.heap.size 44 #[.slice aL n cap, .int .i64 (i : Int), .int .i64 (deep : Int), .bool true, .int .i64 (nowT ts i).l, .int .i64 (nowT ts i).c]) := Lib.hid (by rw [← ee]; exact HBu.out.set 2 (.int .i64 (deep : Int)))
 replace HBv := bF1 HBv ee
 clear ee
 have hsz9 : w9.heap.size = w8.heap.size := by omega
 clear hq1 hq2
 clear hI
 have rc := kc6 HBr; have sc := kc6 HBs; have xc := kc4 HBx; have pc := kc5 HBp; have uc := kc6 HBu; have vc := kc4 HBv
 have hI := i012_0_01_0 w w2 w6 w9
 have hZ := i012_0_01_0 w w2 w6 w8
 clear rc sc xc pc uc vc
 clear hI hZ
 clear HBr HBp
 have sc := kc6 HBs; have xc := kc4 HBx; have uc := kc6 HBu; have vc := kc4 HBv
 have hI := i12_01_0 w w6 w9
 have hZ := i12_01_0 w w6 w8
 refine wp_region_held_drew (S := fun w' => Far (fun b => b = (w.heap.size + 1) ∨ b = (w.heap.size + 2)) (w9) w') (by kernel_rfl) (Far.of (below_drew _)) (fun hS40 => ?_)
 refine takeA 0 (v := ?_) rfl ?_ ?_
 rotate_left
 · (intro w hSw; (try dsimp only at hSw); replace uc := Far.c6z uc hSw; go_simp; try with_reducible rfl)
 try simp only [Act.put, pu1, pu2, pu3]
 refine takeA 1 (v := ?_) rfl ?_ ?_
 rotate_left
 · (intro w hSw; (try dsimp only at hSw); replace vc := Far.c4z vc hSw; go_simp; try with_reducible rfl)
 try simp only [Act.put, pu1, pu2, pu3]

 refine callA 2 rfl fun K hK => ?_
 go_simp
 refine hK.out _ _ ?_ (fun hS41 => ?_)
 · exact (by refine Far.trans ?_ (Far.of (below_drew _)); (iterate 6 (refine Far.setCell (p := ⟨(w.heap.size + 1), _, none⟩) ?_ (.inl rfl) _)); exact Far.refl _ _)
 clear hK K

 clear sc xc uc vc
 generalize ee : ((((((w9.setCell ⟨(w.heap.size + 1), 0, none⟩ (.slice aL n cap)).setCell ⟨(w.heap.size + 1), 1, none⟩ (.int .i64 (i : Int))).setCell ⟨(w.heap.size + 1), 2, none⟩ (.int .i64 (deep : Int))).setCell ⟨(w.heap.size + 1), 3, none⟩ (.bool true)).setCell ⟨(w.heap.size + 1), 4, none⟩ (.int .i64 (nowT ts i).l)).setCell ⟨(w.heap.size + 1), 5, none⟩ (.int .i64 (nowT ts i).c)) = w10_1 at *
 have hq1 := sizeS6 ee
 replace HF := fN6 HF ee
 replace HBs := bS6 HBs ee
 replace HBx := bF6 HBx ee
 replace HBu := bF6 HBu ee
 replace HBv := bF6 HBv ee
 clear ee
 generalize ee : (w10_1.drew) = w10 at *
 have hq2 := sizeD ee
 replace HF := fD HF ee
 replace HBs := bD HBs ee
 replace HBx := bD HBx ee
 replace HBu := bD HBu ee
 replace HBv := bD HBv ee
 clear ee
 have hsa10 : w10.heap.size = w8.heap.size + 0 := by omega
 clear hq1 hq2
 clear hI hZ
 have sc := kc6 HBs; have xc := kc4 HBx; have uc := kc6 HBu; have vc := kc4 HBv
 have hI := i12_01_0 w w6 w10
 have hZ := i12_01_0 w w6 w8
 refine callA 3 rfl fun K hK => ?_
 go_simp
 refine hK.out _ _ ?_ (fun hS42 => ?_)
 · exact (by (iterate 4 (refine Far.setCell (p := ⟨(w.heap.size + 2), _, none⟩) ?_ (.inr rfl) _)); exact hS41)
 clear hK K
 refine wpAnyH_done (by kernel_rfl) ?_ _

 clear sc xc uc vc
 generalize ee : World.setCell _ ⟨(w.heap.size + 2), 3, none⟩ _ = w11
 have hsz11 := sizeS4 ee
 replace HF := fN4 HF ee
 replace HBs := bF4 HBs ee
 replace HBx := bS4 HBx ee
 replace HBu := bF4 HBu ee
 replace HBv := bF4 HBv ee
 clear ee
 clear hI hZ
 go_wp2_with (fail)
 have z := kc6 HBs; have y := kc4 HBx
 refine bodyPost_ret (v := .tuple #[.agg #[.slice aL n cap, .int .i64 (i : Int), .int .i64 (deep : Int), .bool true, .int .i64 (nowT ts i).l, .int .i64 (nowT ts i).c], .agg #[.int .i64 0, .string ⟨#[]⟩, .int .i64 0, .slice az 0 cz]]) (by clear HF H HBs HBx HBu HBv; simp [results, Try.results35, go_sem, z, y]) rfl ?_
 exact ⟨_, _, _, rfl, refBelow HF.out, .e _ _ 4 (by have := HCZ.out; unfold maxLen at this; omega)⟩
set_option maxRecDepth 100000 in
set_option maxHeartbeats 20000000 in
theorem typR_par {f i deep : Nat} {x : Tm} {sz : MS} (at' : Bool) (w : World) (h : MemW w (.s 5 (tkRows ts)) (.slice aL n cap)) (h2 : (nowT ts i).k ≠ 2) (h3 : (nowT ts i).k ≠ 3) (hop : isT ts i 6 wOpen = true) (hd : deep ≤ 40) (h40 : deep ≠ 40) (hn : n ≤ 1048576) (hr : typeM ts f .typ (deep + 1) ⟨i + 1, none⟩ = some (x, sz)) (HT : ReadsRT ts aL n cap f) :
  Calls Try.prog 35 #[rdV aL n cap (i : Int) (deep : Int) false 0 0, .bool at'] w (RTAns aL n cap x (takeS ts sz 6 wClose) (deep : Int) w) := by
 have H := Lib.hid h
 clear h
 have HF : Hid (FarB w.heap.size w.heap.size w w) := Lib.hid (FarB.refl _ _ _)
 simp only [rdV]
 go_enter Try.func35, Try.ntmps35
 have e2 : ((nowT ts i).k == 2) = false := by simp [h2]
 have e3 : ((nowT ts i).k == 3) = false := by simp [h3]
 clear h2 h3
 go_wp2_with (fail)
 generalize ee : World.alloc w _ = w1_1
 have hq1 := sizeA ee
 replace HF := fA HF ee
 have HBr := nB ee (w.heap.size)
 clear ee
 generalize ee : World.alloc w1_1 _ = w1_2
 have hq2 := sizeA ee
 replace HF := fA HF ee
 replace HBr := bA HBr ee
 have HBs := nB ee (w.heap.size + 1)
 clear ee
 generalize ee : World.alloc w1_2 _ = w1
 have hq3 := sizeA ee
 replace HF := fA HF ee
 replace HBr := bA HBr ee
 replace HBs := bA HBs ee
 have HBx := nB ee (w.heap.size + 2)
 clear ee
 have hsa1 : w1.heap.size = w.heap.size + 3 := by omega
 clear hq1 hq2 hq3
 have rc := kc6 HBr; have sc := kc6 HBs; have xc := kc4 HBx
 have hI := i012_0 w w1
 have hZ := i0123 w
 clear rc sc xc
 refine (nowR_any _ (refTok HF.out H.out)).mono ?_
 rintro _ w2 ⟨rfl, hb⟩
 replace HBr := kB HBr hb
 replace HBs := kB HBs hb
 replace HBx := kB HBx hb
 replace HF := kF HF hb
 have hs2 := hb.size
 clear hb
 simp only [tkV]
 clear hI hZ
 have rc := kc6 HBr; have sc := kc6 HBs; have xc := kc4 HBx
 have hI := i012_0 w w2
 go_wp2_with (fail)
 clear rc sc xc
 generalize ee : World.alloc w2 _ = w3
 have hsa3 := sizeA ee
 replace HF := fA HF ee
 replace HBr := bA HBr ee
 replace HBs := bA HBs ee
 replace HBx := bA HBx ee
 have HBp := nB ee (w2.heap.size)
 clear ee
 clear hI
 have rc := kc6 HBr; have sc := kc6 HBs; have xc := kc4 HBx; have pc := kc5 HBp
 have hI := i012_0_0 w w2 w3
 have hZ := i012_01 w w2
 clear rc sc xc pc
 refine (isR_ok (s := wOpen) _ (refTok HF.out H.out)).mono ?_
 rintro _ w4 ⟨rfl, hb⟩
 replace HBr := kB HBr hb
 replace HBs := kB HBs hb
 replace HBx := kB HBx hb
 replace HBp := kB HBp hb
 replace HF := kF HF hb
 have hs4 := hb.size
 clear hb
 rw [hop]
 clear hI hZ
 have rc := kc6 HBr; have sc := kc6 HBs; have xc := kc4 HBx; have pc := kc5 HBp
 have hI := i012_0_0 w w2 w4
 go_wp2_with (fail)
 have hil : i < ts.length := isT_lt hop (by decide)
 have hd1 : deep + 1 ≤ 40 := by omega
 clear rc sc xc pc
 refine (downR_ok _ (refTok HF.out H.out) (by omega) hil).mono ?_
 rintro _ w5 ⟨rfl, hb⟩
 replace HBr := kB HBr hb
 replace HBs := kB HBs hb
 replace HBx := kB HBx hb
 replace HBp := kB HBp hb
 replace HF := kF HF hb
 have hs5 := hb.size
 clear hb
 simp only [rdV]
 clear hI
 have rc := kc6 HBr; have sc := kc6 HBs; have xc := kc4 HBx; have pc := kc5 HBp
 have hI := i012_0_0 w w2 w5
 go_wp2_with (fail)
 clear rc sc xc pc
 refine (HT false ⟨i + 1, none⟩ (deep + 1) x sz _ hd1 (fun h => by cases h) hr (refTok HF.out H.out) hn).mono ?_
 rintro _ w6 ⟨az, mz, cz, rfl, hb, hm⟩
 replace HBr := kB HBr hb
 replace HBs := kB HBs hb
 replace HBx := kB HBx hb
 replace HBp := kB HBp hb
 replace HF := kF HF hb
 have hs6 := hb.size
 clear hb
 have HMz := Lib.hid hm
 clear hm
 simp only [rdS, rdV, tmV]
 have HYz : Hid (Mem (NwS (Bt w5.heap.size w6.heap.size) w6.heap.size) w6 _ _) := Lib.hid (memS_bt HMz.out (by omega))
 clear HMz
 clear hI
 have rc := kc6 HBr; have sc := kc6 HBs; have xc := kc4 HBx; have pc := kc5 HBp
 have hI := i012_0_0 w w2 w6
 go_wp2_with (fail)
 clear rc sc xc pc
 generalize ee : World.alloc w6 _ = w7_1
 have hq1 := sizeA ee
 replace HF := fA HF ee
 replace HBr := bA HBr ee
 replace HBs := bA HBs ee
 replace HBx := bA HBx ee
 replace HBp := bA HBp ee
 replace HYz := yA HYz ee
 have HBu := nB ee (w6.heap.size)
 clear ee
 generalize ee : World.alloc w7_1 _ = w7
 have hq2 := sizeA ee
 replace HF := fA HF ee
 replace HBr := bA HBr ee
 replace HBs := bA HBs ee
 replace HBx := bA HBx ee
 replace HBp := bA HBp ee
 replace HBu := bA HBu ee
 replace HYz := yA HYz ee
 have HBv := nB ee (w6.heap.size + 1)
 clear ee
 have hsa7 : w7.heap.size = w6.heap.size + 2 := by omega
 clear hq1 hq2
 clear hI
 have rc := kc6 HBr; have sc := kc6 HBs; have xc := kc4 HBx; have pc := kc5 HBp; have uc := kc6 HBu; have vc := kc4 HBv
 have hI := i012_0_01_0 w w2 w6 w7
 have hZ := i012_0_012 w w2 w6
 clear rc sc xc pc uc vc
 refine (takeU sz _ 6 wClose _ (refTok HF.out H.out) (by decide)).mono ?_
 rintro _ w8 ⟨rfl, hb⟩
 replace HBr := kB HBr hb
 replace HBs := kB HBs hb
 replace HBx := kB HBx hb
 replace HBp := kB HBp hb
 replace HBu := kB HBu hb
 replace HBv := kB HBv hb
 replace HYz := kY HYz hb
 replace HF := kF HF hb
 have hs8 := hb.size
 clear hb
 simp only [rdS, rdV]
 clear hI hZ
 have rc := kc6 HBr; have sc := kc6 HBs; have xc := kc4 HBx; have pc := kc5 HBp; have uc := kc6 HBu; have vc := kc4 HBv
 have hI := i012_0_01_0 w w2 w6 w8
 go_wp2_with (fail)
 clear rc sc xc pc uc vc
 generalize ee : World.setCell _ ⟨w6.heap.size, 5, none⟩ _ = w9_1
 have hq1 := sizeS6 ee
 replace HF := fN6 HF ee
 replace HBr := bF6 HBr ee
 replace HBs := bF6 HBs ee
 replace HBx := bF6 HBx ee
 replace HBp := bF6 HBp ee
 replace HBu := bS6 HBu ee
 replace HBv := bF6 HBv ee
 replace HYz := yS6 HYz ee
 clear ee
 generalize ee : World.setCell w9_1 _ _ = w9
 have hq2 := sizeS1 ee
 replace HF := fN1 HF ee
 replace HBr := bF1 HBr ee
 replace HBs := bF1 HBs ee
 replace HBx := bF1 HBx ee
 replace HBp := bF1 HBp ee
 replace HBu : Hid (Bo w9 w6.heap.size 44 #[.slice aL n cap, .int .i64 ((takeS ts sz 6 wClose).i : Int), .int .i64 (deep : Int), .bool (!(takeS ts sz 6 wClose).ok), .int .i64 (lB (takeS ts sz 6 wClose).b), .int .i64 (cB (takeS ts sz 6 wClose).b)]) := Lib.hid (by rw [← ee]; exact HBu.out.set 2 (.int .i64 (deep : Int)))
 replace HBv := bF1 HBv ee
 replace HYz := yS1 HYz ee
 clear ee
 have hsz9 : w9.heap.size = w8.heap.size := by omega
 clear hq1 hq2
 clear hI
 have rc := kc6 HBr; have sc := kc6 HBs; have xc := kc4 HBx; have pc := kc5 HBp; have uc := kc6 HBu; have vc := kc4 HBv
 have hI := i012_0_01_0 w w2 w6 w9
 have hZ := i012_0_01_0 w w2 w6 w8
 clear rc sc xc pc uc vc
 clear hI hZ
 clear HBr HBp
 have sc := kc6 HBs; have xc := kc4 HBx; have uc := kc6 HBu; have vc := kc4 HBv
 have hI := i12_01_0 w w6 w9
 have hZ := i12_01_0 w w6 w8
 refine wp_region_held_drew (S := fun w' => Far (fun b => b = (w.heap.size + 1) ∨ b = (w.heap.size + 2)) (w9) w') (by kernel_rfl) (Far.of (below_drew _)) (fun hS40 => ?_)
 refine takeA 0 (v := ?_) rfl ?_ ?_
 rotate_left
 · (intro w hSw; (try dsimp only at hSw); replace uc := Far.c6z uc hSw; go_simp; try with_reducible rfl)
 try simp only [Act.put, pu1, pu2, pu3]
 refine takeA 1 (v := ?_) rfl ?_ ?_
 rotate_left
 · (intro w hSw; (try dsimp only at hSw); replace vc := Far.c4z vc hSw; go_simp; try with_reducible rfl)
 try simp only [Act.put, pu1, pu2, pu3]

 refine callA 2 rfl fun K hK => ?_
 go_simp
 refine hK.out _ _ ?_ (fun hS41 => ?_)
 · exact (by refine Far.trans ?_ (Far.of (below_drew _)); (iterate 6 (refine Far.setCell (p := ⟨(w.heap.size + 1), _, none⟩) ?_ (.inl rfl) _)); exact Far.refl _ _)
 clear hK K

 clear sc xc uc vc
 generalize ee : ((((((w9.setCell ⟨(w.heap.size + 1), 0, none⟩ (.slice aL n cap)).setCell ⟨(w.heap.size + 1), 1, none⟩ (.int .i64 ((takeS ts sz 6 wClose).i : Int))).setCell ⟨(w.heap.size + 1), 2, none⟩ (.int .i64 (deep : Int))).setCell ⟨(w.heap.size + 1), 3, none⟩ (.bool (!(takeS ts sz 6 wClose).ok))).setCell ⟨(w.heap.size + 1), 4, none⟩ (.int .i64 (lB (takeS ts sz 6 wClose).b))).setCell ⟨(w.heap.size + 1), 5, none⟩ (.int .i64 (cB (takeS ts sz 6 wClose).b))) = w10_1 at *
 have hq1 := sizeS6 ee
 replace HF := fN6 HF ee
 replace HBs := bS6 HBs ee
 replace HBx := bF6 HBx ee
 replace HBu := bF6 HBu ee
 replace HBv := bF6 HBv ee
 replace HYz := yS6 HYz ee
 clear ee
 generalize ee : (w10_1.drew) = w10 at *
 have hq2 := sizeD ee
 replace HF := fD HF ee
 replace HBs := bD HBs ee
 replace HBx := bD HBx ee
 replace HBu := bD HBu ee
 replace HBv := bD HBv ee
 replace HYz := yD HYz ee
 clear ee
 have hsa10 : w10.heap.size = w8.heap.size + 0 := by omega
 clear hq1 hq2
 clear hI hZ
 have sc := kc6 HBs; have xc := kc4 HBx; have uc := kc6 HBu; have vc := kc4 HBv
 have hI := i12_01_0 w w6 w10
 have hZ := i12_01_0 w w6 w8
 refine callA 3 rfl fun K hK => ?_
 go_simp
 refine hK.out _ _ ?_ (fun hS42 => ?_)
 · exact (by (iterate 4 (refine Far.setCell (p := ⟨(w.heap.size + 2), _, none⟩) ?_ (.inr rfl) _)); exact hS41)
 clear hK K
 refine wpAnyH_done (by kernel_rfl) ?_ _

 clear sc xc uc vc
 generalize ee : World.setCell _ ⟨(w.heap.size + 2), 3, none⟩ _ = w11
 have hsz11 := sizeS4 ee
 replace HF := fN4 HF ee
 replace HBs := bF4 HBs ee
 replace HBx := bS4 HBx ee
 replace HBu := bF4 HBu ee
 replace HBv := bF4 HBv ee
 replace HYz := yS4 HYz ee
 clear ee
 clear hI hZ
 go_wp2_with (fail)
 have z := kc6 HBs; have y := kc4 HBx
 refine bodyPost_ret (v := .tuple #[.agg #[.slice aL n cap, .int .i64 ((takeS ts sz 6 wClose).i : Int), .int .i64 (deep : Int), .bool (!(takeS ts sz 6 wClose).ok), .int .i64 (lB (takeS ts sz 6 wClose).b), .int .i64 (cB (takeS ts sz 6 wClose).b)], .agg #[.int .i64 x.kind, .string x.name, .int .i64 x.n, .slice az mz cz]]) (by clear HF H HBs HBx HBu HBv HYz; simp [results, Try.results35, go_sem, z, y]) rfl ?_
 exact ⟨_, _, _, rfl, refBelow HF.out, bt_nw (base := w.heap.size) HYz.out (by omega)⟩
theorem typR_reads {f : Nat} (HT : ∀ g, g ≤ f → ReadsRT ts aL n cap g) (HL : ReadsRL ts aL n cap f) : ReadsRT ts aL n cap (f + 1) := by
 intro at' s deep x s' w hd hok hr hm hn
 obtain ⟨i, b⟩ := s
 cases b with
 | some p =>
  cases at' with
  | true => cases hok rfl
  | false =>
   rw [if_neg (by decide), typeM, if_pos (show (⟨i, some p⟩ : MS).ok = false from rfl)] at hr
   cases hr
   exact typR_bad false w hm
 | none =>
  rcases typ_parts hr with ⟨h2, rfl, rfl⟩ | ⟨h3, rfl, rfl, rfl⟩ | ⟨h3, rfl, z, hz, rfl⟩ | ⟨h2, h3, ho, rfl, rfl⟩ | ⟨h2, h3, ho, h40, rfl, rfl⟩ | ⟨h2, h3, ho, h40, g, sz, hg, hz, rfl⟩
  · exact typR_low at' w hm h2
  · exact typR_upA w hm h3
  · exact typR_upT w hm h3 hd hn hz HL
  · exact typR_no at' w hm h2 h3 ho
  · exact typR_40 at' w hm h2 h3 ho h40
  · exact typR_par at' w hm h2 h3 ho hd h40 hn hz (HT g hg)
set_option maxRecDepth 100000 in
set_option maxHeartbeats 20000000 in
theorem typesR_reads (f : Nat) (HA : ∀ g, g < f → ReadsRT ts aL n cap g) : ReadsRL ts aL n cap f := by
 intro s0 deep x s' w hd hr hm hn
 have H := Lib.hid hm
 clear hm
 have HF : Hid (FarB w.heap.size w.heap.size w w) := Lib.hid (FarB.refl _ _ _)
 simp only [rdV, rdS]
 go_enter Try.func68, Try.ntmps68
 go_wp2_with (fail)
 generalize ee : World.alloc w _ = w1_1
 have hq1 := sizeA ee
 replace HF := fA HF ee
 have HBr := nB ee (w.heap.size)
 clear ee
 generalize ee : World.alloc w1_1 _ = w1
 have hq2 := sizeA ee
 replace HF := fA HF ee
 replace HBr := bA HBr ee
 have HBs := nB ee (w.heap.size + 1)
 clear ee
 have hsa1 : w1.heap.size = w.heap.size + 2 := by omega
 clear hq1 hq2
 have rc := kc6 HBr; have sc := kc6 HBs
 have hI := i01_0 w w1
 have hZ := i012 w
 go_loopw [4] (fun v wr => ∃ (l : List Tm) (s : MS) (g : Nat), typeM ts g (.atoms l) deep s = some (x, s') ∧ g ≤ f ∧ Hid (FarB w.heap.size w.heap.size w wr) ∧ Hid (Bo wr w.heap.size 44 #[.slice aL n cap, .int .i64 (s.i : Int), .int .i64 (deep : Int), .bool (!s.ok), .int .i64 (lB s.b), .int .i64 (cB s.b)]) ∧ Hid (Bo wr (w.heap.size + 1) 44 #[.slice none 0 0, .int .i64 0, .int .i64 0, .bool false, .int .i64 0, .int .i64 0]) ∧ Hid (OwnD 0 (w.heap.size + 2) 39 4 wr v (Tm.rows l)) ∧ (l.length : Int) + leftM ts s ≤ ts.length ∧ w.heap.size + 2 ≤ wr.heap.size) (fun v _ => ts.length + 1 - lenV v)
 case atStart => exact ⟨[], s0, f, hr, Nat.le_refl _, HF, HBr, HBs, Lib.hid (OwnD.nil _ _ _ _ _), (by have := leftM_le (ts := ts) s0; simp only [List.length_nil]; omega), by omega⟩
 case round =>
  clear HF HBr HBs hr
  obtain ⟨l, s, g, hr, hg, HF, HBr, HBs, HOl, hl1, hws⟩ := hrel
  obtain ⟨a1, m1, c1, rfl, hm1, hm2, hm3⟩ := form2T HOl.out
  have hlen := H.out.len
  rw [tkRows_len] at hlen
  have hsm1 : m1 ≤ 1048576 := by omega
  have HM1 := Lib.hid hm1
  clear hm1 hm3 hlen
  have rc := kc6 HBr; have sc := kc6 HBs
  have hI := i01_0 w wr
  obtain ⟨i, b⟩ := s
  cases b with
  | some p =>
   replace HBr : Hid (Bo wr w.heap.size 44 #[.slice aL n cap, .int .i64 (i : Int), .int .i64 (deep : Int), .bool true, .int .i64 p.1, .int .i64 p.2]) := HBr
   clear rc sc
   clear hI
   have rc := kc6 HBr; have sc := kc6 HBs
   have hI := i01_0 w wr
   cases g with
   | zero => rw [typeM] at hr; cases hr
   | succ g =>
    have hst : startsS ts ⟨i, some p⟩ = false := by rfl
    rw [typeM] at hr
    simp only [hst, Bool.false_eq_true, if_false] at hr
    cases hr
    clear hst
    clear rc sc
    clear hI
    have rc := kc6 HBr; have sc := kc6 HBs
    have hI := i01_0 w wr
    go_wp2_with (fail)
    clear rc sc
    generalize ee : World.setCell _ ⟨(w.heap.size + 1), 5, none⟩ _ = w2
    have hsz2 := sizeS6 ee
    replace HF := fN6 HF ee
    replace HBr := bF6 HBr ee
    replace HBs := bS6 HBs ee
    replace HOl := oS6 HOl ee
    clear ee
    clear hI
    have z := kc6 HBs
    refine bodyPost_ret (v := .tuple #[.agg #[.slice aL n cap, .int .i64 (i : Int), .int .i64 (deep : Int), .bool true, .int .i64 p.1, .int .i64 p.2], .slice a1 m1 c1]) (by clear HF H HBr HBs HOl; simp [results, Try.results68, go_sem, z]) rfl ?_
    exact ⟨_, _, _, rfl, refBelow HF.out, memNw HOl.out.mem (by omega)⟩
  | none =>
   replace HBr : Hid (Bo wr w.heap.size 44 #[.slice aL n cap, .int .i64 (i : Int), .int .i64 (deep : Int), .bool false, .int .i64 0, .int .i64 0]) := HBr
   have hok : (⟨i, none⟩ : MS).ok = true := rfl
   clear rc sc
   clear hI
   have rc := kc6 HBr; have sc := kc6 HBs
   have hI := i01_0 w wr
   go_wp2_with (fail)
   clear rc sc
   refine (nowR_any _ (refTok HF.out H.out)).mono ?_
   rintro _ w2 ⟨rfl, hb⟩
   replace HBr := kB HBr hb
   replace HBs := kB HBs hb
   replace HOl := kO HOl hb
   replace HF := kF HF hb
   have hs2 := hb.size
   clear hb
   simp only [tkV]
   clear hI
   have rc := kc6 HBr; have sc := kc6 HBs
   have hI := i01_0 w w2
   by_cases h2 : (nowT ts i).k = 2
   ·
    have e2 : ((nowT ts i).k == 2) = true := by simp [h2]
    cases g with
    | zero => rw [typeM] at hr; cases hr
    | succ g =>
     have hst : startsS ts ⟨i, none⟩ = true := by unfold startsS; rw [hok]; simp [h2]
     rw [typeM] at hr
     simp only [hst, if_true] at hr
     obtain ⟨p, hr1, hr2⟩ := Option.bind_eq_some_iff.1 hr
     obtain ⟨z, sz⟩ := p
     have HST := Lib.hid hst
     clear hst hr
     clear rc sc
     clear hI
     have rc := kc6 HBr; have sc := kc6 HBs
     have hI := i01_0 w w2
     go_wp2_with (fail)
     have HOW := HOl
     clear rc sc
     refine (HA g (by omega) true ⟨i, none⟩ deep z sz _ hd (fun _ => rfl) hr1 (refTok HF.out H.out) hn).mono ?_
     rintro _ w3 ⟨az, mz, cz, rfl, hb, hm⟩
     replace HBr := kB HBr hb
     replace HBs := kB HBs hb
     replace HOl := kO HOl hb
     replace HF := kF HF hb
     have hs3 := hb.size
     clear hb
     have HMz := Lib.hid hm
     clear hm
     simp only [rdS, rdV, tmV]
     clear hI
     have rc := kc6 HBr; have sc := kc6 HBs
     have hI := i01_0 w w3
     go_upto_region 4 with (fail)
     clear rc sc
     generalize ee : World.alloc w3 _ = w4_1
     have hq1 := sizeA ee
     replace HF := fA HF ee
     replace HBr := bA HBr ee
     replace HBs := bA HBs ee
     replace HMz := mA HMz ee
     replace HOl := oA HOl ee
     have HBq := nB ee (w3.heap.size)
     clear ee
     generalize ee : World.alloc w4_1 _ = w4
     have hq2 := sizeA ee
     replace HF := fA HF ee
     replace HBr := bA HBr ee
     replace HBs := bA HBs ee
     replace HBq := bA HBq ee
     replace HMz := mA HMz ee
     replace HOl := oA HOl ee
     have HBo := nB ee (w3.heap.size + 1)
     clear ee
     have hsa4 : w4.heap.size = w3.heap.size + 2 := by omega
     clear hq1 hq2
     clear hI
     have rc := kc6 HBr; have sc := kc6 HBs; have qc := kc6 HBq; have oc := kc4 HBo
     have hI := i01_01_0 w w3 w4
     have hZ := i01_012 w w3
     go_upto_region 5 with (fail)
     clear rc sc qc oc
     generalize ee : World.setCell _ ⟨w.heap.size, 5, none⟩ _ = w5
     have hsz5 := sizeS6 ee
     replace HF := fN6 HF ee
     replace HBr := bS6 HBr ee
     replace HBs := bF6 HBs ee
     replace HBq := bF6 HBq ee
     replace HBo := bF6 HBo ee
     replace HMz := mS6 HMz ee
     replace HOl := oS6 HOl ee
     clear ee
     clear hI hZ
     have rc := kc6 HBr; have sc := kc6 HBs; have qc := kc6 HBq; have oc := kc4 HBo
     have hI := i01_01_0 w w3 w5
     have hZ := i01_012 w w3
     have hlen := H.out.len
     rw [tkRows_len] at hlen
     have hlz : l.length + 1 ≤ 1048576 := by
      have h1 := leftM_step (ts := ts) (typeM_step _ _ _ _ _ _ hr1)
      have hlt : i < ts.length := starts_ltM HST.out
      rw [leftM_ok (s := ⟨i, none⟩) rfl] at hl1 h1
      simp only [wMt] at h1
      dsimp only at hl1
      omega
     clear hlen
     go_wp2_with (first | (at_builtin; refine wpList_append_D rfl _ _ rfl Try.underlying37 info_tyM rfl (by decide) rfl rfl (HOl.out.alloc _) (row_appG HOW.out (by omega) (by omega) (tm_mem HMz.out) rfl (by omega)) (by have := HM1.out; simp only [rows_len4, List.length_cons, List.length_nil]; omega) (by have := HM1.out; simp only [rows_len4, List.length_cons, List.length_nil]; omega) (by rw [World.size_alloc]; omega) ?_; intro v9 w9 ho hgr; have HO9 := Lib.hid ho; clear ho; have HG9 := Lib.hid hgr; clear hgr))
     have hob : ∀ k, (Value.slice a1 m1 c1).ownBlock = some k → w.heap.size + 2 ≤ k := fun k hk => (HOl.out.lt k hk).1
     clear rc sc qc oc
     have HO8 : Hid (OwnD 0 (w.heap.size + 2) 39 4 w9 v9 (Tm.rows (l ++ [z]))) := Lib.hid (by rw [rows_app4]; exact HO9.out)
     obtain ⟨a2, m2, c2, rfl, hm4, _, _⟩ := form2T HO8.out
     rw [List.length_append, List.length_cons, List.length_nil] at hm4
     have hs9 : w5.heap.size + 1 ≤ w9.heap.size := by have h := HG9.out.size; rw [World.size_alloc] at h; exact h
     have hl9 : ((l ++ [z]).length : Int) + leftM ts sz ≤ ts.length := by
      have h1 := leftM_step (ts := ts) (typeM_step _ _ _ _ _ _ hr1)
      have hlt : i < ts.length := starts_ltM HST.out
      rw [leftM_ok (s := ⟨i, none⟩) rfl] at hl1 h1
      simp only [wMt] at h1
      dsimp only at hl1
      rw [List.length_append, List.length_cons, List.length_nil]
      omega
     replace HF := Lib.hid ((HF.out.alloc _).grown HG9.out fun k hk => by have := hob k hk; omega)
     replace HBr := Lib.hid ((HBr.out.alloc _).grown HG9.out fun k hk => by have := hob k hk; omega)
     replace HBs := Lib.hid ((HBs.out.alloc _).grown HG9.out fun k hk => by have := hob k hk; omega)
     go_roundw
     case rel => exact ⟨l ++ [z], sz, g, hr2, by omega, HF, HBr, HBs, HO8, hl9, by omega⟩
     case measure => have := HM1.out; simp only [lenV]; omega
   have e2 : ((nowT ts i).k == 2) = false := by simp [h2]
   go_wp2_with (fail)
   clear rc sc
   refine (nowR_any _ (refTok HF.out H.out)).mono ?_
   rintro _ w3 ⟨rfl, hb⟩
   replace HBr := kB HBr hb
   replace HBs := kB HBs hb
   replace HOl := kO HOl hb
   replace HF := kF HF hb
   have hs3 := hb.size
   clear hb
   simp only [tkV]
   clear hI
   have rc := kc6 HBr; have sc := kc6 HBs
   have hI := i01_0 w w3
   by_cases h3 : (nowT ts i).k = 3
   ·
    have e3 : ((nowT ts i).k == 3) = true := by simp [h3]
    cases g with
    | zero => rw [typeM] at hr; cases hr
    | succ g =>
     have hst : startsS ts ⟨i, none⟩ = true := by unfold startsS; rw [hok]; simp [h3]
     rw [typeM] at hr
     simp only [hst, if_true] at hr
     obtain ⟨p, hr1, hr2⟩ := Option.bind_eq_some_iff.1 hr
     obtain ⟨z, sz⟩ := p
     have HST := Lib.hid hst
     clear hst hr
     clear rc sc
     clear hI
     have rc := kc6 HBr; have sc := kc6 HBs
     have hI := i01_0 w w3
     go_wp2_with (fail)
     have HOW := HOl
     clear rc sc
     refine (HA g (by omega) true ⟨i, none⟩ deep z sz _ hd (fun _ => rfl) hr1 (refTok HF.out H.out) hn).mono ?_
     rintro _ w4 ⟨az, mz, cz, rfl, hb, hm⟩
     replace HBr := kB HBr hb
     replace HBs := kB HBs hb
     replace HOl := kO HOl hb
     replace HF := kF HF hb
     have hs4 := hb.size
     clear hb
     have HMz := Lib.hid hm
     clear hm
     simp only [rdS, rdV, tmV]
     clear hI
     have rc := kc6 HBr; have sc := kc6 HBs
     have hI := i01_0 w w4
     go_upto_region 4 with (fail)
     clear rc sc
     generalize ee : World.alloc w4 _ = w5_1
     have hq1 := sizeA ee
     replace HF := fA HF ee
     replace HBr := bA HBr ee
     replace HBs := bA HBs ee
     replace HMz := mA HMz ee
     replace HOl := oA HOl ee
     have HBq := nB ee (w4.heap.size)
     clear ee
     generalize ee : World.alloc w5_1 _ = w5
     have hq2 := sizeA ee
     replace HF := fA HF ee
     replace HBr := bA HBr ee
     replace HBs := bA HBs ee
     replace HBq := bA HBq ee
     replace HMz := mA HMz ee
     replace HOl := oA HOl ee
     have HBo := nB ee (w4.heap.size + 1)
     clear ee
     have hsa5 : w5.heap.size = w4.heap.size + 2 := by omega
     clear hq1 hq2
     clear hI
     have rc := kc6 HBr; have sc := kc6 HBs; have qc := kc6 HBq; have oc := kc4 HBo
     have hI := i01_01_0 w w4 w5
     have hZ := i01_012 w w4
     go_upto_region 5 with (fail)
     clear rc sc qc oc
     generalize ee : World.setCell _ ⟨w.heap.size, 5, none⟩ _ = w6
     have hsz6 := sizeS6 ee
     replace HF := fN6 HF ee
     replace HBr := bS6 HBr ee
     replace HBs := bF6 HBs ee
     replace HBq := bF6 HBq ee
     replace HBo := bF6 HBo ee
     replace HMz := mS6 HMz ee
     replace HOl := oS6 HOl ee
     clear ee
     clear hI hZ
     have rc := kc6 HBr; have sc := kc6 HBs; have qc := kc6 HBq; have oc := kc4 HBo
     have hI := i01_01_0 w w4 w6
     have hZ := i01_012 w w4
     have hlen := H.out.len
     rw [tkRows_len] at hlen
     have hlz : l.length + 1 ≤ 1048576 := by
      have h1 := leftM_step (ts := ts) (typeM_step _ _ _ _ _ _ hr1)
      have hlt : i < ts.length := starts_ltM HST.out
      rw [leftM_ok (s := ⟨i, none⟩) rfl] at hl1 h1
      simp only [wMt] at h1
      dsimp only at hl1
      omega
     clear hlen
     go_wp2_with (first | (at_builtin; refine wpList_append_D rfl _ _ rfl Try.underlying37 info_tyM rfl (by decide) rfl rfl (HOl.out.alloc _) (row_appG HOW.out (by omega) (by omega) (tm_mem HMz.out) rfl (by omega)) (by have := HM1.out; simp only [rows_len4, List.length_cons, List.length_nil]; omega) (by have := HM1.out; simp only [rows_len4, List.length_cons, List.length_nil]; omega) (by rw [World.size_alloc]; omega) ?_; intro v9 w9 ho hgr; have HO9 := Lib.hid ho; clear ho; have HG9 := Lib.hid hgr; clear hgr))
     have hob : ∀ k, (Value.slice a1 m1 c1).ownBlock = some k → w.heap.size + 2 ≤ k := fun k hk => (HOl.out.lt k hk).1
     clear rc sc qc oc
     have HO8 : Hid (OwnD 0 (w.heap.size + 2) 39 4 w9 v9 (Tm.rows (l ++ [z]))) := Lib.hid (by rw [rows_app4]; exact HO9.out)
     obtain ⟨a2, m2, c2, rfl, hm4, _, _⟩ := form2T HO8.out
     rw [List.length_append, List.length_cons, List.length_nil] at hm4
     have hs9 : w6.heap.size + 1 ≤ w9.heap.size := by have h := HG9.out.size; rw [World.size_alloc] at h; exact h
     have hl9 : ((l ++ [z]).length : Int) + leftM ts sz ≤ ts.length := by
      have h1 := leftM_step (ts := ts) (typeM_step _ _ _ _ _ _ hr1)
      have hlt : i < ts.length := starts_ltM HST.out
      rw [leftM_ok (s := ⟨i, none⟩) rfl] at hl1 h1
      simp only [wMt] at h1
      dsimp only at hl1
      rw [List.length_append, List.length_cons, List.length_nil]
      omega
     replace HF := Lib.hid ((HF.out.alloc _).grown HG9.out fun k hk => by have := hob k hk; omega)
     replace HBr := Lib.hid ((HBr.out.alloc _).grown HG9.out fun k hk => by have := hob k hk; omega)
     replace HBs := Lib.hid ((HBs.out.alloc _).grown HG9.out fun k hk => by have := hob k hk; omega)
     go_roundw
     case rel => exact ⟨l ++ [z], sz, g, hr2, by omega, HF, HBr, HBs, HO8, hl9, by omega⟩
     case measure => have := HM1.out; simp only [lenV]; omega
   have e3 : ((nowT ts i).k == 3) = false := by simp [h3]
   go_wp2_with (fail)
   clear rc sc
   refine (isR_ok (s := wOpen) _ (refTok HF.out H.out)).mono ?_
   rintro _ w4 ⟨rfl, hb⟩
   replace HBr := kB HBr hb
   replace HBs := kB HBs hb
   replace HOl := kO HOl hb
   replace HF := kF HF hb
   have hs4 := hb.size
   clear hb
   clear hI
   have rc := kc6 HBr; have sc := kc6 HBs
   have hI := i01_0 w w4
   cases his : isT ts i 6 wOpen with
   | true =>
    cases g with
    | zero => rw [typeM] at hr; cases hr
    | succ g =>
     have hst : startsS ts ⟨i, none⟩ = true := by unfold startsS; rw [hok]; unfold isS; rw [hok, his]; simp
     rw [typeM] at hr
     simp only [hst, if_true] at hr
     obtain ⟨p, hr1, hr2⟩ := Option.bind_eq_some_iff.1 hr
     obtain ⟨z, sz⟩ := p
     have HST := Lib.hid hst
     clear hst hr
     clear rc sc
     clear hI
     have rc := kc6 HBr; have sc := kc6 HBs
     have hI := i01_0 w w4
     go_wp2_with (fail)
     have HOW := HOl
     clear rc sc
     refine (HA g (by omega) true ⟨i, none⟩ deep z sz _ hd (fun _ => rfl) hr1 (refTok HF.out H.out) hn).mono ?_
     rintro _ w5 ⟨az, mz, cz, rfl, hb, hm⟩
     replace HBr := kB HBr hb
     replace HBs := kB HBs hb
     replace HOl := kO HOl hb
     replace HF := kF HF hb
     have hs5 := hb.size
     clear hb
     have HMz := Lib.hid hm
     clear hm
     simp only [rdS, rdV, tmV]
     clear hI
     have rc := kc6 HBr; have sc := kc6 HBs
     have hI := i01_0 w w5
     go_upto_region 4 with (fail)
     clear rc sc
     generalize ee : World.alloc w5 _ = w6_1
     have hq1 := sizeA ee
     replace HF := fA HF ee
     replace HBr := bA HBr ee
     replace HBs := bA HBs ee
     replace HMz := mA HMz ee
     replace HOl := oA HOl ee
     have HBq := nB ee (w5.heap.size)
     clear ee
     generalize ee : World.alloc w6_1 _ = w6
     have hq2 := sizeA ee
     replace HF := fA HF ee
     replace HBr := bA HBr ee
     replace HBs := bA HBs ee
     replace HBq := bA HBq ee
     replace HMz := mA HMz ee
     replace HOl := oA HOl ee
     have HBo := nB ee (w5.heap.size + 1)
     clear ee
     have hsa6 : w6.heap.size = w5.heap.size + 2 := by omega
     clear hq1 hq2
     clear hI
     have rc := kc6 HBr; have sc := kc6 HBs; have qc := kc6 HBq; have oc := kc4 HBo
     have hI := i01_01_0 w w5 w6
     have hZ := i01_012 w w5
     go_upto_region 5 with (fail)
     clear rc sc qc oc
     generalize ee : World.setCell _ ⟨w.heap.size, 5, none⟩ _ = w7
     have hsz7 := sizeS6 ee
     replace HF := fN6 HF ee
     replace HBr := bS6 HBr ee
     replace HBs := bF6 HBs ee
     replace HBq := bF6 HBq ee
     replace HBo := bF6 HBo ee
     replace HMz := mS6 HMz ee
     replace HOl := oS6 HOl ee
     clear ee
     clear hI hZ
     have rc := kc6 HBr; have sc := kc6 HBs; have qc := kc6 HBq; have oc := kc4 HBo
     have hI := i01_01_0 w w5 w7
     have hZ := i01_012 w w5
     have hlen := H.out.len
     rw [tkRows_len] at hlen
     have hlz : l.length + 1 ≤ 1048576 := by
      have h1 := leftM_step (ts := ts) (typeM_step _ _ _ _ _ _ hr1)
      have hlt : i < ts.length := starts_ltM HST.out
      rw [leftM_ok (s := ⟨i, none⟩) rfl] at hl1 h1
      simp only [wMt] at h1
      dsimp only at hl1
      omega
     clear hlen
     go_wp2_with (first | (at_builtin; refine wpList_append_D rfl _ _ rfl Try.underlying37 info_tyM rfl (by decide) rfl rfl (HOl.out.alloc _) (row_appG HOW.out (by omega) (by omega) (tm_mem HMz.out) rfl (by omega)) (by have := HM1.out; simp only [rows_len4, List.length_cons, List.length_nil]; omega) (by have := HM1.out; simp only [rows_len4, List.length_cons, List.length_nil]; omega) (by rw [World.size_alloc]; omega) ?_; intro v9 w9 ho hgr; have HO9 := Lib.hid ho; clear ho; have HG9 := Lib.hid hgr; clear hgr))
     have hob : ∀ k, (Value.slice a1 m1 c1).ownBlock = some k → w.heap.size + 2 ≤ k := fun k hk => (HOl.out.lt k hk).1
     clear rc sc qc oc
     have HO8 : Hid (OwnD 0 (w.heap.size + 2) 39 4 w9 v9 (Tm.rows (l ++ [z]))) := Lib.hid (by rw [rows_app4]; exact HO9.out)
     obtain ⟨a2, m2, c2, rfl, hm4, _, _⟩ := form2T HO8.out
     rw [List.length_append, List.length_cons, List.length_nil] at hm4
     have hs9 : w7.heap.size + 1 ≤ w9.heap.size := by have h := HG9.out.size; rw [World.size_alloc] at h; exact h
     have hl9 : ((l ++ [z]).length : Int) + leftM ts sz ≤ ts.length := by
      have h1 := leftM_step (ts := ts) (typeM_step _ _ _ _ _ _ hr1)
      have hlt : i < ts.length := starts_ltM HST.out
      rw [leftM_ok (s := ⟨i, none⟩) rfl] at hl1 h1
      simp only [wMt] at h1
      dsimp only at hl1
      rw [List.length_append, List.length_cons, List.length_nil]
      omega
     replace HF := Lib.hid ((HF.out.alloc _).grown HG9.out fun k hk => by have := hob k hk; omega)
     replace HBr := Lib.hid ((HBr.out.alloc _).grown HG9.out fun k hk => by have := hob k hk; omega)
     replace HBs := Lib.hid ((HBs.out.alloc _).grown HG9.out fun k hk => by have := hob k hk; omega)
     go_roundw
     case rel => exact ⟨l ++ [z], sz, g, hr2, by omega, HF, HBr, HBs, HO8, hl9, by omega⟩
     case measure => have := HM1.out; simp only [lenV]; omega
   | false =>
    cases g with
    | zero => rw [typeM] at hr; cases hr
    | succ g =>
     have hst : startsS ts ⟨i, none⟩ = false := by unfold startsS; rw [hok]; unfold isS; rw [his]; simp [h2, h3]
     rw [typeM] at hr
     simp only [hst, Bool.false_eq_true, if_false] at hr
     cases hr
     clear hst
     clear rc sc
     clear hI
     have rc := kc6 HBr; have sc := kc6 HBs
     have hI := i01_0 w w4
     go_wp2_with (fail)
     clear rc sc
     generalize ee : World.setCell _ ⟨(w.heap.size + 1), 5, none⟩ _ = w5
     have hsz5 := sizeS6 ee
     replace HF := fN6 HF ee
     replace HBr := bF6 HBr ee
     replace HBs := bS6 HBs ee
     replace HOl := oS6 HOl ee
     clear ee
     clear hI
     have z := kc6 HBs
     refine bodyPost_ret (v := .tuple #[.agg #[.slice aL n cap, .int .i64 (i : Int), .int .i64 (deep : Int), .bool false, .int .i64 0, .int .i64 0], .slice a1 m1 c1]) (by clear HF H HBr HBs HOl; simp [results, Try.results68, go_sem, z]) rfl ?_
     exact ⟨_, _, _, rfl, refBelow HF.out, memNw HOl.out.mem (by omega)⟩
end
theorem allRT (ts : List Tk) (aL : Option Addr) (n cap : Nat) : ∀ F g, g ≤ F → ReadsRT ts aL n cap g ∧ ReadsRL ts aL n cap g
  | 0, g, h => by
    obtain rfl : g = 0 := by omega
    exact ⟨fun a s deep x s' w _ _ hr => (by cases a <;> (simp only [typeM] at hr; cases hr)), fun s deep x s' w _ hr => (by rw [typeM] at hr; cases hr)⟩
  | F + 1, g, h => by
    by_cases e : g = F + 1
    · subst e
      have ih := allRT ts aL n cap F
      exact ⟨typR_reads (fun g hg => (ih g hg).1) (ih F (Nat.le_refl _)).2, typesR_reads (F + 1) fun g hg => (ih g (by omega)).1⟩
    · exact allRT ts aL n cap F g (by omega)
end Go.Proofs.Ytcoiagfeoonpbaa

/-
  module.Type, and the document's Type: the type that begins somewhere. No condition but how the tokens lie, and how many there are.
-/
namespace Go.Proofs.Ytcoiagfeoonpbaa
open Go.RowKit
def MtAns (x : Tm) (s' : MS) (W : World) (e : Ending) (w' : World) : Prop :=
  match s'.b with
  | none => ∃ a m c, e = .returned (.tuple #[tmV x a m c, .int .i64 (s'.i : Int), .agg #[.int .i64 0, .int .i64 0, .int .i64 0]]) ∧ Below W.heap.size W w' ∧ Mem (Nw 0 W.heap.size w'.heap.size) w' (.s 4 (Tm.rows x.args)) (.slice a m c)
  | some p => e = .returned (.tuple #[.agg #[.int .i64 0, .string ⟨#[]⟩, .int .i64 0, .slice none 0 0], .int .i64 0, .agg #[.int .i64 1, .int .i64 p.1, .int .i64 p.2]]) ∧ Below W.heap.size W w'
set_option maxRecDepth 100000 in
set_option maxHeartbeats 20000000 in
theorem mtype_any {ts : List Tk} {aL : Option Addr} {n cap F : Nat} {x : Tm} {s' : MS} (i : Int) (w : World) (h : MemW w (.s 5 (tkRows ts)) (.slice aL n cap)) (hn : n ≤ 1048576) (hr : typeM ts F .typ 0 ⟨i.toNat, none⟩ = some (x, s')) :
  Calls Try.prog 13 #[.slice aL n cap, .int .i64 i] w (MtAns x s' w) := by
 have H := Lib.hid h
 clear h
 have HF : Hid (FarB w.heap.size w.heap.size w w) := Lib.hid (FarB.refl _ _ _)
 have hmx : (if i < 0 then 0 else i) = (i.toNat : Int) := by split <;> omega
 have hmx2 : (if 0 < i then i else 0) = (i.toNat : Int) := by split <;> omega
 generalize i.toNat = m0 at hr hmx hmx2
 go_enter Try.func13, Try.ntmps13
 go_upto_region 1 with (fail)
 generalize ee : World.alloc w _ = w1_1
 have hq1 := sizeA ee
 replace HF := fA HF ee
 have HBr := nB ee (w.heap.size)
 clear ee
 generalize ee : World.alloc w1_1 _ = w1
 have hq2 := sizeA ee
 replace HF := fA HF ee
 replace HBr := bA HBr ee
 have HBz := nB ee (w.heap.size + 1)
 clear ee
 have hsa1 : w1.heap.size = w.heap.size + 2 := by omega
 clear hq1 hq2
 have rc := kc4 HBr; have zc := kc3 HBz
 have hI := i01_0 w w1
 have hZ := i012 w
 go_wp2_with (fail)
 clear rc zc
 generalize ee : World.alloc w1 _ = w2
 have hsa2 := sizeA ee
 replace HF := fA HF ee
 replace HBr := bA HBr ee
 replace HBz := bA HBz ee
 have HBq := nB ee (w.heap.size + 2)
 clear ee
 clear hI hZ
 obtain ⟨q, hq⟩ : ∃ q, q = w.heap.size + 2 := ⟨_, rfl⟩
 rw [← hq] at HBq ⊢
 have HP : Hid (RS ts aL n cap q ⟨m0, none⟩ ((0 : Nat) : Int) w2) := by
  refine Lib.hid ⟨HBq.out, ?_, hn⟩
  exact H.out.mono (fun b hb => by have h1 : b < w.heap.size := hb; show b < q; omega) fun b hb => (refBelow HF.out).block b hb
 have hlen := HP.out.len
 have hsm := HP.out.sm
 clear HBq H
 replace HF : Hid (FarB q w.heap.size w w2) := Lib.hid (Far.mono HF.out fun b e => .inr (by rcases e with e | e <;> omega))
 have hq3 : q ≤ w.heap.size + 2 ∧ w.heap.size + 2 ≤ q := by omega
 clear hmx hmx2 hq
 have hqz : w2.heap.size ≤ q + 1 ∧ q + 1 ≤ w2.heap.size := by omega
 refine ((allT ts aL n cap q F F (Nat.le_refl _)).2.1 ⟨m0, none⟩ 0 x s' _ (.inl (by omega)) hr HP.out).mono ?_
 rintro _ w3 ⟨ax, mx, cx, rfl, hf, hp, hm⟩
 replace HBr := qB HBr hf
 replace HBz := qB HBz hf
 replace HF := qF HF hf
 have hs3 := hf.size
 replace HP := Lib.hid hp
 have HMx := Lib.hid hm
 clear hf hp hm
 simp only [tmV]
 have qc := kcR HP
 have rc := kc4 HBr; have zc := kc3 HBz
 have hI := chain4 w.heap.size (w.heap.size + 1) q w3.heap.size
 go_upto_region 3 with (fail)
 clear qc rc zc
 generalize ee : World.alloc w3 _ = w4
 have hsa4 := sizeA ee
 replace HP := rpA HP ee
 replace HF := fA HF ee
 replace HBr := bA HBr ee
 replace HBz := bA HBz ee
 replace HMx := mA HMx ee
 have HBt := nB ee (w3.heap.size)
 clear ee
 clear hI
 have qc := kcR HP
 have rc := kc4 HBr; have zc := kc3 HBz; have tc := kc4 HBt
 have hI := chain5 w.heap.size (w.heap.size + 1) q w3.heap.size w4.heap.size
 have hZ := chain5 w.heap.size (w.heap.size + 1) q w3.heap.size (w3.heap.size + 1)
 go_wp2_with (fail)
 refine (mok_any _ HP.out).mono ?_
 rintro _ _ ⟨rfl, rfl⟩
 cases hso : s'.ok with
 | false =>
  obtain ⟨i', b'⟩ := s'
  cases b' with
  | none => cases hso
  | some p =>
   clear hso
   go_wp2_with (fail)
   refine wp_region_held_drew (S := fun w' => Far (fun b => b = w.heap.size ∨ b = (w.heap.size + 1)) (w4) w') (by kernel_rfl) (Far.of (below_drew _)) (fun hS40 => ?_)
   refine takeA 0 (v := ?_) rfl ?_ ?_
   rotate_left
   · (intro w hSw; (try dsimp only at hSw); replace qc := Far.c6z qc hSw; go_simp; try with_reducible rfl)
   try simp only [Act.put, pu1, pu2, pu3]
   refine takeA 1 (v := ?_) rfl ?_ ?_
   rotate_left
   · (intro w hSw; (try dsimp only at hSw); replace qc := Far.c6z qc hSw; go_simp; try with_reducible rfl)
   try simp only [Act.put, pu1, pu2, pu3]
   refine takeA 2 (v := ?_) rfl ?_ ?_
   rotate_left
   · (intro w hSw; (try dsimp only at hSw); replace qc := Far.c6z qc hSw; go_simp; try with_reducible rfl)
   try simp only [Act.put, pu1, pu2, pu3]
   refine takeA 3 (v := ?_) rfl ?_ ?_
   rotate_left
   · (intro w hSw; (try dsimp only at hSw); replace qc := Far.c6z qc hSw; go_simp; try with_reducible rfl)
   try simp only [Act.put, pu1, pu2, pu3]
   refine takeA 4 (v := ?_) rfl ?_ ?_
   rotate_left
   · (intro w hSw; (try dsimp only at hSw); replace qc := Far.c6z qc hSw; go_simp; try with_reducible rfl)
   try simp only [Act.put, pu1, pu2, pu3]

   clear HP
   refine callA 5 rfl fun K hK => ?_
   go_simp
   refine hK.out _ _ ?_ (fun hS41 => ?_)
   · exact (by refine Far.trans ?_ (Far.of (below_drew _)); (iterate 4 (refine Far.setCell (p := ⟨w.heap.size, _, none⟩) ?_ (.inl rfl) _)); exact Far.refl _ _)
   clear hK K

   clear qc rc zc tc
   generalize ee : ((((w4.setCell ⟨w.heap.size, 0, none⟩ (.int .i64 0)).setCell ⟨w.heap.size, 1, none⟩ (.string ⟨#[]⟩)).setCell ⟨w.heap.size, 2, none⟩ (.int .i64 0)).setCell ⟨w.heap.size, 3, none⟩ (.slice none 0 0)) = w5_1 at *
   have hq1 := sizeS4 ee
   replace HF := fN4 HF ee
   replace HBr := bS4 HBr ee
   replace HBz := bF4 HBz ee
   replace HBt := bF4 HBt ee
   replace HMx := mS4 HMx ee
   clear ee
   generalize ee : (w5_1.drew) = w5 at *
   have hq2 := sizeD ee
   replace HF := fD HF ee
   replace HBr := bD HBr ee
   replace HBz := bD HBz ee
   replace HBt := bD HBt ee
   replace HMx := mD HMx ee
   clear ee
   have hsa5 : w5.heap.size = w3.heap.size + 1 := by omega
   clear hq1 hq2
   clear hI hZ
   have rc := kc4 HBr; have zc := kc3 HBz; have tc := kc4 HBt
   have hI := i01_0_0 w w3 w5
   have hZ := i01_01 w w3
   refine takeA 6 (v := ?_) rfl ?_ ?_
   rotate_left
   · (intro w hSw; (try dsimp only at hSw); go_simp; try with_reducible rfl)
   try simp only [Act.put, pu1, pu2, pu3]

   refine callA 7 rfl fun K hK => ?_
   go_simp
   refine hK.out _ _ ?_ (fun hS42 => ?_)
   · exact (by (iterate 3 (refine Far.setCell (p := ⟨(w.heap.size + 1), _, none⟩) ?_ (.inr rfl) _)); exact hS41)
   clear hK K
   refine wpAnyH_done (by kernel_rfl) ?_ _

   clear rc zc tc
   generalize ee : World.setCell _ ⟨(w.heap.size + 1), 2, none⟩ _ = w6
   have hsz6 := sizeS3 ee
   replace HF := fN3 HF ee
   replace HBr := bF3 HBr ee
   replace HBz := bS3 HBz ee
   replace HBt := bF3 HBt ee
   replace HMx := mS3 HMx ee
   clear ee
   clear hI hZ
   go_wp2_with (fail)
   have fr := kc4 HBr; have fz := kc3 HBz
   refine bodyPost_ret (v := .tuple #[.agg #[.int .i64 0, .string ⟨#[]⟩, .int .i64 0, .slice none 0 0], .int .i64 0, .agg #[.int .i64 (eB (some p)), .int .i64 (lB (some p)), .int .i64 (cB (some p))]]) (by clear HF HBr HBz HBt HMx; simp [results, Try.results13, go_sem, fr, fz]) rfl ?_
   exact ⟨rfl, Far.toB (Far.mono HF.out fun b e => by rcases e with e | e <;> omega) (Nat.le_refl _)⟩
 | true =>
  obtain ⟨i', b'⟩ := s'
  cases b' with
  | some p => cases hso
  | none =>
   clear hso
   go_wp2_with (fail)
   refine wp_region_held_drew (S := fun w' => Far (fun b => b = w.heap.size ∨ b = (w.heap.size + 1)) (w4) w') (by kernel_rfl) (Far.of (below_drew _)) (fun hS40 => ?_)
   refine takeA 0 (v := ?_) rfl ?_ ?_
   rotate_left
   · (intro w hSw; (try dsimp only at hSw); replace tc := Far.c4z tc hSw; replace qc := Far.c6z qc hSw; go_simp; try with_reducible rfl)
   try simp only [Act.put, pu1, pu2, pu3]
   refine takeA 1 (v := ?_) rfl ?_ ?_
   rotate_left
   · (intro w hSw; (try dsimp only at hSw); replace tc := Far.c4z tc hSw; replace qc := Far.c6z qc hSw; go_simp; try with_reducible rfl)
   try simp only [Act.put, pu1, pu2, pu3]
   refine takeA 2 (v := ?_) rfl ?_ ?_
   rotate_left
   · (intro w hSw; (try dsimp only at hSw); replace tc := Far.c4z tc hSw; replace qc := Far.c6z qc hSw; go_simp; try with_reducible rfl)
   try simp only [Act.put, pu1, pu2, pu3]
   refine takeA 3 (v := ?_) rfl ?_ ?_
   rotate_left
   · (intro w hSw; (try dsimp only at hSw); replace tc := Far.c4z tc hSw; replace qc := Far.c6z qc hSw; go_simp; try with_reducible rfl)
   try simp only [Act.put, pu1, pu2, pu3]
   refine takeA 4 (v := ?_) rfl ?_ ?_
   rotate_left
   · (intro w hSw; (try dsimp only at hSw); replace tc := Far.c4z tc hSw; replace qc := Far.c6z qc hSw; go_simp; try with_reducible rfl)
   try simp only [Act.put, pu1, pu2, pu3]
   refine takeA 5 (v := ?_) rfl ?_ ?_
   rotate_left
   · (intro w hSw; (try dsimp only at hSw); replace tc := Far.c4z tc hSw; replace qc := Far.c6z qc hSw; go_simp; try with_reducible rfl)
   try simp only [Act.put, pu1, pu2, pu3]

   clear HP
   refine callA 6 rfl fun K hK => ?_
   go_simp
   refine hK.out _ _ ?_ (fun hS41 => ?_)
   · exact (by refine Far.trans ?_ (Far.of (below_drew _)); (iterate 4 (refine Far.setCell (p := ⟨w.heap.size, _, none⟩) ?_ (.inl rfl) _)); exact Far.refl _ _)
   clear hK K

   clear qc rc zc tc
   generalize ee : ((((w4.setCell ⟨w.heap.size, 0, none⟩ (.int .i64 x.kind)).setCell ⟨w.heap.size, 1, none⟩ (.string x.name)).setCell ⟨w.heap.size, 2, none⟩ (.int .i64 x.n)).setCell ⟨w.heap.size, 3, none⟩ (.slice ax mx cx)) = w5_1 at *
   have hq1 := sizeS4 ee
   replace HF := fN4 HF ee
   replace HBr := bS4 HBr ee
   replace HBz := bF4 HBz ee
   replace HBt := bF4 HBt ee
   replace HMx := mS4 HMx ee
   clear ee
   generalize ee : (w5_1.drew) = w5 at *
   have hq2 := sizeD ee
   replace HF := fD HF ee
   replace HBr := bD HBr ee
   replace HBz := bD HBz ee
   replace HBt := bD HBt ee
   replace HMx := mD HMx ee
   clear ee
   have hsa5 : w5.heap.size = w3.heap.size + 1 := by omega
   clear hq1 hq2
   clear hI hZ
   have rc := kc4 HBr; have zc := kc3 HBz; have tc := kc4 HBt
   have hI := i01_0_0 w w3 w5
   have hZ := i01_01 w w3
   refine takeA 7 (v := ?_) rfl ?_ ?_
   rotate_left
   · (intro w hSw; (try dsimp only at hSw); go_simp; try with_reducible rfl)
   try simp only [Act.put, pu1, pu2, pu3]

   refine callA 8 rfl fun K hK => ?_
   go_simp
   refine hK.out _ _ ?_ (fun hS42 => ?_)
   · exact (by (iterate 3 (refine Far.setCell (p := ⟨(w.heap.size + 1), _, none⟩) ?_ (.inr rfl) _)); exact hS41)
   clear hK K
   refine wpAnyH_done (by kernel_rfl) ?_ _

   clear rc zc tc
   generalize ee : World.setCell _ ⟨(w.heap.size + 1), 2, none⟩ _ = w6
   have hsz6 := sizeS3 ee
   replace HF := fN3 HF ee
   replace HBr := bF3 HBr ee
   replace HBz := bS3 HBz ee
   replace HBt := bF3 HBt ee
   replace HMx := mS3 HMx ee
   clear ee
   clear hI hZ
   go_wp2_with (fail)
   have fr := kc4 HBr; have fz := kc3 HBz
   refine bodyPost_ret (v := .tuple #[.agg #[.int .i64 x.kind, .string x.name, .int .i64 x.n, .slice ax mx cx], .int .i64 (i' : Int), .agg #[.int .i64 0, .int .i64 0, .int .i64 0]]) (by clear HF HBr HBz HBt HMx; simp [results, Try.results13, go_sem, fr, fz]) rfl ?_
   exact ⟨_, _, _, rfl, Far.toB (Far.mono HF.out fun b e => by rcases e with e | e <;> omega) (Nat.le_refl _), memNw HMx.out (by omega)⟩
set_option maxRecDepth 100000 in
set_option maxHeartbeats 20000000 in
theorem rtype_any {ts : List Tk} {aL : Option Addr} {n cap F i : Nat} {x : Tm} {s' : MS} (w : World) (h : MemW w (.s 5 (tkRows ts)) (.slice aL n cap)) (hn : n ≤ 1048576) (hr : typeM ts F .typ 0 ⟨i, none⟩ = some (x, s')) :
  Calls Try.prog 14 #[.agg #[.slice aL n cap, .int .i64 (i : Int), .int .i64 0, .bool false, .int .i64 0, .int .i64 0]] w (RTAns aL n cap x s' ((0 : Nat) : Int) w) := by
 have H := Lib.hid h
 clear h
 have HF : Hid (FarB w.heap.size w.heap.size w w) := Lib.hid (FarB.refl _ _ _)
 go_enter Try.func14, Try.ntmps14
 go_wp2_with (fail)
 generalize ee : World.alloc w _ = w1_1
 have hq1 := sizeA ee
 replace HF := fA HF ee
 have HBr := nB ee (w.heap.size)
 clear ee
 generalize ee : World.alloc w1_1 _ = w1_2
 have hq2 := sizeA ee
 replace HF := fA HF ee
 replace HBr := bA HBr ee
 have HBs := nB ee (w.heap.size + 1)
 clear ee
 generalize ee : World.alloc w1_2 _ = w1
 have hq3 := sizeA ee
 replace HF := fA HF ee
 replace HBr := bA HBr ee
 replace HBs := bA HBs ee
 have HBx := nB ee (w.heap.size + 2)
 clear ee
 have hsa1 : w1.heap.size = w.heap.size + 3 := by omega
 clear hq1 hq2 hq3
 have rc := kc6 HBr; have sc := kc6 HBs; have xc := kc4 HBx
 have hI := i012_0 w w1
 have hZ := i0123 w
 clear rc sc xc
 refine ((allRT ts aL n cap F F (Nat.le_refl _)).1 false ⟨i, none⟩ 0 x s' _ (by omega) (fun h => by cases h) hr (refTok HF.out H.out) hn).mono ?_
 rintro _ w2 ⟨ax, mx, cx, rfl, hb, hm⟩
 replace HBr := kB HBr hb
 replace HBs := kB HBs hb
 replace HBx := kB HBx hb
 replace HF := kF HF hb
 have hs2 := hb.size
 clear hb
 have HMx := Lib.hid hm
 clear hm
 simp only [rdS, rdV, tmV]
 clear hI hZ
 have rc := kc6 HBr; have sc := kc6 HBs; have xc := kc4 HBx
 have hI := i012_0 w w2
 go_wp2_with (fail)
 clear rc sc xc
 generalize ee : World.setCell _ ⟨(w.heap.size + 1), 5, none⟩ _ = w3_1
 have hq1 := sizeS6 ee
 replace HF := fN6 HF ee
 replace HBr := bF6 HBr ee
 replace HBs := bS6 HBs ee
 replace HBx := bF6 HBx ee
 replace HMx := mS6 HMx ee
 clear ee
 generalize ee : World.setCell _ ⟨(w.heap.size + 2), 3, none⟩ _ = w3
 have hq2 := sizeS4 ee
 replace HF := fN4 HF ee
 replace HBr := bF4 HBr ee
 replace HBs := bF4 HBs ee
 replace HBx := bS4 HBx ee
 replace HMx := mS4 HMx ee
 clear ee
 have hsz3 : w3.heap.size = w2.heap.size := by omega
 clear hq1 hq2
 clear hI
 have z := kc6 HBs; have y := kc4 HBx
 refine bodyPost_ret (v := .tuple #[.agg #[.slice aL n cap, .int .i64 (s'.i : Int), .int .i64 ((0 : Nat) : Int), .bool (!s'.ok), .int .i64 (lB s'.b), .int .i64 (cB s'.b)], .agg #[.int .i64 x.kind, .string x.name, .int .i64 x.n, .slice ax mx cx]]) (by clear HF H HBr HBs HBx HMx; simp [results, Try.results14, go_sem, z, y]) rfl ?_
 exact ⟨_, _, _, rfl, refBelow HF.out, memNw HMx.out (by omega)⟩
end Go.Proofs.Ytcoiagfeoonpbaa
