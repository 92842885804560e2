/-
 expr.run: a reading function at a place; what is thrown is told. (Pat.) Under no condition but how the tokens lie.
-/
import Derived.Test.YtcoiagfeoonpbaaSt18
import Derived.Test.YtcoiagfeoonpbaaSt20
namespace Go.Proofs.Ytcoiagfeoonpbaa
open Go.RowKit
section
variable {ts : List Tk} {aL : Option Addr} {n cap q : Nat}
set_option maxRecDepth 100000 in
set_option maxHeartbeats 20000000 in
theorem pat1_any {F i : Nat} {r : Rd1} (hr : readE ts F .pat i 0 = some r) (w : World) (hp : PS ts aL n cap q i ((0 : Nat) : Int) w) :
  Calls Try.prog 100 #[.pointer (some ⟨q, 0, none⟩)] w (Ans ts aL n cap q r 0 w) := by
 have HP := Lib.hid hp
 have hq0 := hp.lt
 have HF := Lib.hid (FarB.refl q w.heap.size w)
 have HA := fun g (hg : g < F + 1) => pat_reads (ts := ts) (aL := aL) (n := n) (cap := cap) (q := q) F g (by omega)
 clear hp
 go_enter Try.func100, Try.ntmps100
 go_wp2_with (fail)
 generalize ee : (w.alloc (.cells #[.int .i64 0, .string ⟨#[]⟩, .int .i64 0, .slice none 0 0, .int .i64 0, .int .i64 0] 27)) = w1 at *
 have hsa1 := sizeA ee
 replace HP := pA HP ee
 replace HF := fA HF ee
 have HBr := nB ee (w.heap.size)
 clear ee
 have qc := kcP HP
 have rc := kc6 HBr
 have hI := iq_0_0 q w w1
 have hZ := iq_01 q w
 cases r with
 | bad l_ c_ =>
  clear qc rc
  refine (HA F (Nat.lt_succ_self F) i 0 _ _ (Nat.zero_le _) hr HP.out).mono ?_
  rintro _ w2 ⟨rfl, hf, hbo⟩
  go_wp2_with (fail)
  exact ⟨rfl, rfl, FarB.out (HF.out.farq hf), hbo⟩
 | ok x j =>
  clear qc rc
  refine (HA F (Nat.lt_succ_self F) i 0 _ _ (Nat.zero_le _) hr HP.out).mono ?_
  rintro _ w2 ⟨ax, mx, cx, rfl, hf, hp, hm⟩
  replace HBr := qB HBr hf
  replace HF := qF HF hf
  have hs2 := hf.size
  replace HP := Lib.hid hp
  have HMx := Lib.hid hm
  clear hf hp hm
  simp only [exV]
  clear hI hZ
  have qc := kcP HP
  have rc := kc6 HBr
  have hI := iq_0_0 q w w2
  go_wp2_with (fail)
  clear qc rc
  generalize ee : ((((((w2.setCell ⟨w.heap.size, 0, none⟩ (.int .i64 x.kind)).setCell ⟨w.heap.size, 1, none⟩ (.string x.name)).setCell ⟨w.heap.size, 2, none⟩ (.int .i64 x.n)).setCell ⟨w.heap.size, 3, none⟩ (.slice ax mx cx)).setCell ⟨w.heap.size, 4, none⟩ (.int .i64 x.line)).setCell ⟨w.heap.size, 5, none⟩ (.int .i64 x.col)) = w3 at *
  have hsz3 := sizeS6 ee
  replace HP := pO6 HP ee
  replace HF := fN6 HF ee
  replace HBr := bS6 HBr ee
  replace HMx := mS6 HMx ee
  clear ee
  clear hI
  have fc := kc6 HBr
  refine bodyPost_ret (v := .agg #[.int .i64 x.kind, .string x.name, .int .i64 x.n, .slice ax mx cx, .int .i64 x.line, .int .i64 x.col]) (by clear HP HF HBr HMx; simp [results, Try.results100, go_sem, fc]) rfl ?_
  exact ⟨_, _, _, rfl, HF.out.out, HP.out, memNw HMx.out (by omega)⟩
set_option maxRecDepth 100000 in
set_option maxHeartbeats 20000000 in
theorem run_pat_neg {F : Nat} {i : Int} (hi : i < 0) {r : Rd1} (w : World) (h : MemW w (.s 5 (tkRows ts)) (.slice aL n cap)) (hn : n ≤ 1048576) (hr : readE ts F .pat 0 0 = some r) :
  Calls Try.prog 56 #[.slice aL n cap, .int .i64 i, .func (.func 100) #[] #[]] w (RunAns r w) := by
 have H := Lib.hid h
 have hmf : ∀ (fn : Fn) (first cap : Array Value) (w : World), (Instr.makeFunc fn first cap).run Try.prog w = .ok (.func fn first cap) w := fun _ _ _ _ => rfl
 have hE : ∀ args w, Sem.run Try.prog (callFunc 100 args) w = .ok (.enter 100 args) w := fun _ _ => by kernel_rfl
 clear h
 go_enter_defers Try.func56, Try.ntmps56
 go_wp2_with (fail)
 have hs1 : ((((w.alloc (.cells #[.int .i64 0, .string ⟨#[]⟩, .int .i64 0, .slice none 0 0, .int .i64 0, .int .i64 0] 27)).alloc (.cells #[.int .i64 0] 3)).alloc (.cells #[.int .i64 0, .int .i64 0, .int .i64 0] 30)).alloc (.cells #[.slice aL n cap, .int .i64 0, .int .i64 0] 143)).heap.size = w.heap.size + 1 + 1 + 1 + 1 := by simp only [World.size_alloc]
 have HBe : Hid (Bo ((((w.alloc (.cells #[.int .i64 0, .string ⟨#[]⟩, .int .i64 0, .slice none 0 0, .int .i64 0, .int .i64 0] 27)).alloc (.cells #[.int .i64 0] 3)).alloc (.cells #[.int .i64 0, .int .i64 0, .int .i64 0] 30)).alloc (.cells #[.slice aL n cap, .int .i64 0, .int .i64 0] 143)) w.heap.size 27 #[.int .i64 0, .string ⟨#[]⟩, .int .i64 0, .slice none 0 0, .int .i64 0, .int .i64 0]) := Lib.hid ((((Bo.new w 27 #[.int .i64 0, .string ⟨#[]⟩, .int .i64 0, .slice none 0 0, .int .i64 0, .int .i64 0]).alloc _).alloc _).alloc _)
 have HBn : Hid (Bo ((((w.alloc (.cells #[.int .i64 0, .string ⟨#[]⟩, .int .i64 0, .slice none 0 0, .int .i64 0, .int .i64 0] 27)).alloc (.cells #[.int .i64 0] 3)).alloc (.cells #[.int .i64 0, .int .i64 0, .int .i64 0] 30)).alloc (.cells #[.slice aL n cap, .int .i64 0, .int .i64 0] 143)) (w.heap.size + 1) 3 #[.int .i64 0]) := Lib.hid ((((by have h := Bo.new (w.alloc (.cells #[.int .i64 0, .string ⟨#[]⟩, .int .i64 0, .slice none 0 0, .int .i64 0, .int .i64 0] 27)) 3 #[.int .i64 0]; rw [World.size_alloc] at h; exact h : Bo ((w.alloc (.cells #[.int .i64 0, .string ⟨#[]⟩, .int .i64 0, .slice none 0 0, .int .i64 0, .int .i64 0] 27)).alloc (.cells #[.int .i64 0] 3)) (w.heap.size + 1) 3 #[.int .i64 0])).alloc _).alloc _)
 have HBf : Hid (Bo ((((w.alloc (.cells #[.int .i64 0, .string ⟨#[]⟩, .int .i64 0, .slice none 0 0, .int .i64 0, .int .i64 0] 27)).alloc (.cells #[.int .i64 0] 3)).alloc (.cells #[.int .i64 0, .int .i64 0, .int .i64 0] 30)).alloc (.cells #[.slice aL n cap, .int .i64 0, .int .i64 0] 143)) (w.heap.size + 1 + 1) 30 #[.int .i64 0, .int .i64 0, .int .i64 0]) := Lib.hid (((by have h := Bo.new ((w.alloc (.cells #[.int .i64 0, .string ⟨#[]⟩, .int .i64 0, .slice none 0 0, .int .i64 0, .int .i64 0] 27)).alloc (.cells #[.int .i64 0] 3)) 30 #[.int .i64 0, .int .i64 0, .int .i64 0]; rw [World.size_alloc, World.size_alloc] at h; exact h : Bo (((w.alloc (.cells #[.int .i64 0, .string ⟨#[]⟩, .int .i64 0, .slice none 0 0, .int .i64 0, .int .i64 0] 27)).alloc (.cells #[.int .i64 0] 3)).alloc (.cells #[.int .i64 0, .int .i64 0, .int .i64 0] 30)) (w.heap.size + 1 + 1) 30 #[.int .i64 0, .int .i64 0, .int .i64 0])).alloc _)
 have hbo : Bo ((((w.alloc (.cells #[.int .i64 0, .string ⟨#[]⟩, .int .i64 0, .slice none 0 0, .int .i64 0, .int .i64 0] 27)).alloc (.cells #[.int .i64 0] 3)).alloc (.cells #[.int .i64 0, .int .i64 0, .int .i64 0] 30)).alloc (.cells #[.slice aL n cap, .int .i64 0, .int .i64 0] 143)) (w.heap.size + 1 + 1 + 1) 143 #[.slice aL n cap, .int .i64 0, .int .i64 0] := by have h := Bo.new (((w.alloc (.cells #[.int .i64 0, .string ⟨#[]⟩, .int .i64 0, .slice none 0 0, .int .i64 0, .int .i64 0] 27)).alloc (.cells #[.int .i64 0] 3)).alloc (.cells #[.int .i64 0, .int .i64 0, .int .i64 0] 30)) 143 #[.slice aL n cap, .int .i64 0, .int .i64 0]; rw [World.size_alloc, World.size_alloc, World.size_alloc] at h; exact h
 have hbel : Below w.heap.size w ((((w.alloc (.cells #[.int .i64 0, .string ⟨#[]⟩, .int .i64 0, .slice none 0 0, .int .i64 0, .int .i64 0] 27)).alloc (.cells #[.int .i64 0] 3)).alloc (.cells #[.int .i64 0, .int .i64 0, .int .i64 0] 30)).alloc (.cells #[.slice aL n cap, .int .i64 0, .int .i64 0] 143)) := (((below_new w _).alloc (by simp) _).alloc (by simp only [World.size_alloc]; omega) _).alloc (by simp only [World.size_alloc]; omega) _
 have htk := H.out.keep hbel
 generalize ((((w.alloc (.cells #[.int .i64 0, .string ⟨#[]⟩, .int .i64 0, .slice none 0 0, .int .i64 0, .int .i64 0] 27)).alloc (.cells #[.int .i64 0] 3)).alloc (.cells #[.int .i64 0, .int .i64 0, .int .i64 0] 30)).alloc (.cells #[.slice aL n cap, .int .i64 0, .int .i64 0] 143)) = w1 at *
 have htk2 : Mem (· < w.heap.size + 1 + 1 + 1) w1 (.s 5 (tkRows ts)) (.slice aL n cap) := (Mem.keep H.out (Nat.le_refl _) hbel).le (by omega)
 generalize hq : w.heap.size + 1 + 1 + 1 = q at *
 have HP : Hid (PS ts aL n cap q 0 ((0 : Nat) : Int) w1) := Lib.hid ⟨hbo, htk2, hn⟩
 have HF : Hid (FarB q w.heap.size w w1) := Lib.hid (Far.of hbel)
 have hq1 : w.heap.size + 1 + 1 < q := by omega
 have hs2 : w1.heap.size = q + 1 := by omega
 clear hq hs1 hbo htk htk2 hbel
 cases r with
 | bad l_ c_ =>
  refine (pat1_any hr _ HP.out).mono ?_
  rintro _ w2 ⟨rfl, hf, hbo⟩
  replace HBe := qB HBe hf
  replace HBn := qB HBn hf
  replace HBf := qB HBf hf
  replace HF := qF HF hf
  have hs2 := hf.size
  go_wp2_with (fail)
  refine leaves_cons (f := 88) (args := #[.pointer (some ⟨w.heap.size, 0, none⟩), .pointer (some ⟨w.heap.size + 1, 0, none⟩), .pointer (some ⟨w.heap.size + 1 + 1, 0, none⟩)]) (by simp) (by simp [go_sem]) ?_
  refine (caught_fault w2 l_ c_ (by omega) (by omega) HBe.out HBn.out HBf.out).mono ?_
  rintro e u w3 ⟨rfl, hu, hf3, g0, g1, g2⟩
  show Leaves _ _ _ _ [] (settle u) w3
  rw [hu]
  have x0 := g0.cell (j := 0) rfl; have x1 := g0.cell (j := 1) rfl; have x2 := g0.cell (j := 2) rfl; have x3 := g0.cell (j := 3) rfl; have x4 := g0.cell (j := 4) rfl; have x5 := g0.cell (j := 5) rfl; have y0 := g1.cell (j := 0) rfl; have z0 := g2.cell (j := 0) rfl; have z1 := g2.cell (j := 1) rfl; have z2 := g2.cell (j := 2) rfl
  refine ⟨_, ?_, rfl, ?_⟩
  · (clear HF HBe HBn HBf H g0 g1 g2 hf3; simp [results, Try.results56, go_sem, x0, x1, x2, x3, x4, x5, y0, z0, z1, z2])
  · exact Far.toB (Far.trans (Far.mono HF.out (fun b e => by rcases e with e | e <;> omega)) (Far.mono hf3 (fun b e => by rcases e with e | e | e <;> omega))) (Nat.le_refl _)
 | ok x j =>
  refine (pat1_any hr _ HP.out).mono ?_
  rintro _ w2 ⟨ax, mx, cx, rfl, hf, hp, hm⟩
  replace HBe := qB HBe hf
  replace HBn := qB HBn hf
  replace HBf := qB HBf hf
  replace HF := qF HF hf
  have hs2 := hf.size
  replace HP := Lib.hid hp
  have HMx := Lib.hid hm
  clear hf hp hm
  simp only [exV]
  have HBq := Lib.hid HP.out.bo
  clear HP
  have ec := kc6 HBe; have nc := kc1 HBn; have fc := kc3 HBf; have qc := kc3 HBq
  have hI := i01_q_q_0 w (w.heap.size + 1 + 1) q w2
  go_wp2_with (fail)
  clear ec nc fc qc
  generalize ee : ((((((w2.setCell ⟨w.heap.size, 0, none⟩ (.int .i64 x.kind)).setCell ⟨w.heap.size, 1, none⟩ (.string x.name)).setCell ⟨w.heap.size, 2, none⟩ (.int .i64 x.n)).setCell ⟨w.heap.size, 3, none⟩ (.slice ax mx cx)).setCell ⟨w.heap.size, 4, none⟩ (.int .i64 x.line)).setCell ⟨w.heap.size, 5, none⟩ (.int .i64 x.col)) = w3 at *
  have hsz3 := sizeS6 ee
  replace HF := fN6 HF ee
  replace HBe := bS6 HBe ee
  replace HBn := bF6 HBn ee
  replace HBf := bF6 HBf ee
  replace HBq := bF6 HBq ee
  replace HMx := mS6 HMx ee
  clear ee
  clear hI
  have ec := kc6 HBe; have nc := kc1 HBn; have fc := kc3 HBf; have qc := kc3 HBq
  have hI := i01_q_q_0 w (w.heap.size + 1 + 1) q w3
  have hZ := i01_q_q_0 w (w.heap.size + 1 + 1) q w2
  refine wp_nopanic ?_
  refine wp_region_held_drew (S := fun w' => Far (fun b => b = w.heap.size ∨ b = w.heap.size + 1 ∨ b = w.heap.size + 1 + 1) (w3) w') (by kernel_rfl) (Far.of (below_drew _)) (fun hS10 => ?_)
  refine takeA 1 (v := ?_) rfl ?_ ?_
  rotate_left
  · (intro w hSw; (try dsimp only at hSw); replace qc := Far.c3z qc hSw (by intro e; rcases e with e | e | e <;> omega); go_simp; try with_reducible rfl)
  try simp only [Act.put, pu1, pu2, pu3]
  refine takeA 2 (v := ?_) rfl ?_ ?_
  rotate_left
  · (intro w hSw; (try dsimp only at hSw); replace qc := Far.c3z qc hSw (by intro e; rcases e with e | e | e <;> omega); go_simp; try with_reducible rfl)
  try simp only [Act.put, pu1, pu2, pu3]
  refine takeA 3 (v := ?_) rfl ?_ ?_
  rotate_left
  · (intro w hSw; (try dsimp only at hSw); replace qc := Far.c3z qc hSw (by intro e; rcases e with e | e | e <;> omega); go_simp; try with_reducible rfl)
  try simp only [Act.put, pu1, pu2, pu3]
  refine takeA 4 (v := ?_) rfl ?_ ?_
  rotate_left
  · (intro w hSw; (try dsimp only at hSw); replace qc := Far.c3z qc hSw (by intro e; rcases e with e | e | e <;> omega); go_simp; try with_reducible rfl)
  try simp only [Act.put, pu1, pu2, pu3]
  refine takeA 5 (v := ?_) rfl ?_ ?_
  rotate_left
  · (intro w hSw; (try dsimp only at hSw); replace qc := Far.c3z qc hSw (by intro e; rcases e with e | e | e <;> omega); go_simp; try with_reducible rfl)
  try simp only [Act.put, pu1, pu2, pu3]

  refine callA 0 rfl fun K hK => ?_
  go_simp
  refine hK.out _ _ ?_ (fun hS11 => ?_)
  · exact hS10
  clear hK K
  refine callA 6 rfl fun K hK => ?_
  go_simp
  refine hK.out _ _ ?_ (fun hS12 => ?_)
  · exact (by refine Far.trans ?_ (Far.of (below_drew _)); (iterate 6 (refine Far.setCell (p := ⟨w.heap.size, _, none⟩) ?_ (.inl rfl) _)); exact Far.refl _ _)
  clear hK K

  clear ec nc fc qc
  generalize ee : ((((((w3.setCell ⟨w.heap.size, 0, none⟩ (.int .i64 x.kind)).setCell ⟨w.heap.size, 1, none⟩ (.string x.name)).setCell ⟨w.heap.size, 2, none⟩ (.int .i64 x.n)).setCell ⟨w.heap.size, 3, none⟩ (.slice ax mx cx)).setCell ⟨w.heap.size, 4, none⟩ (.int .i64 x.line)).setCell ⟨w.heap.size, 5, none⟩ (.int .i64 x.col)) = w4_1 at *
  have hq1 := sizeS6 ee
  replace HF := fN6 HF ee
  replace HBe := bS6 HBe ee
  replace HBn := bF6 HBn ee
  replace HBf := bF6 HBf ee
  replace HBq := bF6 HBq ee
  replace HMx := mS6 HMx ee
  clear ee
  generalize ee : (w4_1.drew) = w4 at *
  have hq2 := sizeD ee
  replace HF := fD HF ee
  replace HBe := bD HBe ee
  replace HBn := bD HBn ee
  replace HBf := bD HBf ee
  replace HBq := bD HBq ee
  replace HMx := mD HMx ee
  clear ee
  have hsa4 : w4.heap.size = w2.heap.size + 0 := by omega
  clear hq1 hq2
  clear hI hZ
  have ec := kc6 HBe; have nc := kc1 HBn; have fc := kc3 HBf; have qc := kc3 HBq
  have hI := i01_q_q_0 w (w.heap.size + 1 + 1) q w4
  have hZ := i01_q_q_0 w (w.heap.size + 1 + 1) q w2
  refine callA 7 rfl fun K hK => ?_
  go_simp
  refine hK.out _ _ ?_ (fun hS13 => ?_)
  · exact Far.setCell (p := ⟨w.heap.size + 1, 0, none⟩) hS12 (.inr (.inl rfl)) _
  clear hK K

  clear ec nc fc qc
  generalize ee : (w4.setCell ⟨(w.heap.size + 1), 0, none⟩ (.int .i64 (j : Int))) = w5 at *
  have hsz5 := sizeS1 ee
  replace HF := fN1 HF ee
  replace HBe := bF1 HBe ee
  replace HBn : Hid (Bo w5 (w.heap.size + 1) 3 #[.int .i64 (j : Int)]) := Lib.hid (by rw [← ee]; exact HBn.out.set 0 (.int .i64 (j : Int)))
  replace HBf := bF1 HBf ee
  replace HBq := bF1 HBq ee
  replace HMx := mS1 HMx ee
  clear ee
  clear hI hZ
  have ec := kc6 HBe; have nc := kc1 HBn; have fc := kc3 HBf; have qc := kc3 HBq
  have hI := i01_q_q_0 w (w.heap.size + 1 + 1) q w5
  have hZ := i01_q_q_0 w (w.heap.size + 1 + 1) q w2
  refine callA 8 rfl fun K hK => ?_
  go_simp
  refine hK.out _ _ ?_ (fun hS14 => ?_)
  · exact Far.setCell (p := ⟨w.heap.size + 1 + 1, 2, none⟩) (Far.setCell (p := ⟨w.heap.size + 1 + 1, 1, none⟩) (Far.setCell (p := ⟨w.heap.size + 1 + 1, 0, none⟩) hS13 (.inr (.inr rfl)) _) (.inr (.inr rfl)) _) (.inr (.inr rfl)) _
  clear hK K
  refine wpAnyH_done (by kernel_rfl) ?_ _

  clear ec nc fc qc
  generalize ee : (((w5.setCell ⟨(w.heap.size + 1 + 1), 0, none⟩ (.int .i64 0)).setCell ⟨(w.heap.size + 1 + 1), 1, none⟩ (.int .i64 0)).setCell ⟨(w.heap.size + 1 + 1), 2, none⟩ (.int .i64 0)) = w6 at *
  have hsz6 := sizeS3 ee
  replace HF := fN3 HF ee
  replace HBe := bF3 HBe ee
  replace HBn := bF3 HBn ee
  replace HBf := bS3 HBf ee
  replace HBq := bF3 HBq ee
  replace HMx := mS3 HMx ee
  clear ee
  clear hI hZ
  show Exit.then _ _ Exit.normal _ _
  go_wp2_with (fail)
  refine leaves_cons (f := 88) (args := #[.pointer (some ⟨w.heap.size, 0, none⟩), .pointer (some ⟨w.heap.size + 1, 0, none⟩), .pointer (some ⟨w.heap.size + 1 + 1, 0, none⟩)]) (by simp) (by simp [go_sem]) ?_
  refine (caught_none _).mono ?_
  rintro e u w9 ⟨rfl, rfl, rfl⟩
  have x0 := HBe.out.cell (j := 0) rfl; have x1 := HBe.out.cell (j := 1) rfl; have x2 := HBe.out.cell (j := 2) rfl; have x3 := HBe.out.cell (j := 3) rfl; have x4 := HBe.out.cell (j := 4) rfl; have x5 := HBe.out.cell (j := 5) rfl; have y0 := HBn.out.cell (j := 0) rfl; have z0 := HBf.out.cell (j := 0) rfl; have z1 := HBf.out.cell (j := 1) rfl; have z2 := HBf.out.cell (j := 2) rfl
  refine ⟨.tuple #[exV x ax mx cx, .int .i64 (j : Int), .agg #[.int .i64 0, .int .i64 0, .int .i64 0]], ?_, ax, mx, cx, rfl, ?_, memNw HMx.out (by omega)⟩
  · (clear HF HBe HBn HBf HBq HMx H; simp [results, Try.results56, go_sem, exV, x0, x1, x2, x3, x4, x5, y0, z0, z1, z2])
  · exact Far.toB (Far.mono HF.out (fun b e => by rcases e with e | e <;> omega)) (Nat.le_refl _)
set_option maxRecDepth 100000 in
set_option maxHeartbeats 20000000 in
theorem run_pat_pos {F : Nat} {k : Nat} {r : Rd1} (w : World) (h : MemW w (.s 5 (tkRows ts)) (.slice aL n cap)) (hn : n ≤ 1048576) (hr : readE ts F .pat k 0 = some r) :
  Calls Try.prog 56 #[.slice aL n cap, .int .i64 (k : Int), .func (.func 100) #[] #[]] w (RunAns r w) := by
 have H := Lib.hid h
 have hmf : ∀ (fn : Fn) (first cap : Array Value) (w : World), (Instr.makeFunc fn first cap).run Try.prog w = .ok (.func fn first cap) w := fun _ _ _ _ => rfl
 have hE : ∀ args w, Sem.run Try.prog (callFunc 100 args) w = .ok (.enter 100 args) w := fun _ _ => by kernel_rfl
 clear h
 go_enter_defers Try.func56, Try.ntmps56
 go_wp2_with (fail)
 have hs1 : ((((w.alloc (.cells #[.int .i64 0, .string ⟨#[]⟩, .int .i64 0, .slice none 0 0, .int .i64 0, .int .i64 0] 27)).alloc (.cells #[.int .i64 0] 3)).alloc (.cells #[.int .i64 0, .int .i64 0, .int .i64 0] 30)).alloc (.cells #[.slice aL n cap, .int .i64 (k : Int), .int .i64 0] 143)).heap.size = w.heap.size + 1 + 1 + 1 + 1 := by simp only [World.size_alloc]
 have HBe : Hid (Bo ((((w.alloc (.cells #[.int .i64 0, .string ⟨#[]⟩, .int .i64 0, .slice none 0 0, .int .i64 0, .int .i64 0] 27)).alloc (.cells #[.int .i64 0] 3)).alloc (.cells #[.int .i64 0, .int .i64 0, .int .i64 0] 30)).alloc (.cells #[.slice aL n cap, .int .i64 (k : Int), .int .i64 0] 143)) w.heap.size 27 #[.int .i64 0, .string ⟨#[]⟩, .int .i64 0, .slice none 0 0, .int .i64 0, .int .i64 0]) := Lib.hid ((((Bo.new w 27 #[.int .i64 0, .string ⟨#[]⟩, .int .i64 0, .slice none 0 0, .int .i64 0, .int .i64 0]).alloc _).alloc _).alloc _)
 have HBn : Hid (Bo ((((w.alloc (.cells #[.int .i64 0, .string ⟨#[]⟩, .int .i64 0, .slice none 0 0, .int .i64 0, .int .i64 0] 27)).alloc (.cells #[.int .i64 0] 3)).alloc (.cells #[.int .i64 0, .int .i64 0, .int .i64 0] 30)).alloc (.cells #[.slice aL n cap, .int .i64 (k : Int), .int .i64 0] 143)) (w.heap.size + 1) 3 #[.int .i64 0]) := Lib.hid ((((by have h := Bo.new (w.alloc (.cells #[.int .i64 0, .string ⟨#[]⟩, .int .i64 0, .slice none 0 0, .int .i64 0, .int .i64 0] 27)) 3 #[.int .i64 0]; rw [World.size_alloc] at h; exact h : Bo ((w.alloc (.cells #[.int .i64 0, .string ⟨#[]⟩, .int .i64 0, .slice none 0 0, .int .i64 0, .int .i64 0] 27)).alloc (.cells #[.int .i64 0] 3)) (w.heap.size + 1) 3 #[.int .i64 0])).alloc _).alloc _)
 have HBf : Hid (Bo ((((w.alloc (.cells #[.int .i64 0, .string ⟨#[]⟩, .int .i64 0, .slice none 0 0, .int .i64 0, .int .i64 0] 27)).alloc (.cells #[.int .i64 0] 3)).alloc (.cells #[.int .i64 0, .int .i64 0, .int .i64 0] 30)).alloc (.cells #[.slice aL n cap, .int .i64 (k : Int), .int .i64 0] 143)) (w.heap.size + 1 + 1) 30 #[.int .i64 0, .int .i64 0, .int .i64 0]) := Lib.hid (((by have h := Bo.new ((w.alloc (.cells #[.int .i64 0, .string ⟨#[]⟩, .int .i64 0, .slice none 0 0, .int .i64 0, .int .i64 0] 27)).alloc (.cells #[.int .i64 0] 3)) 30 #[.int .i64 0, .int .i64 0, .int .i64 0]; rw [World.size_alloc, World.size_alloc] at h; exact h : Bo (((w.alloc (.cells #[.int .i64 0, .string ⟨#[]⟩, .int .i64 0, .slice none 0 0, .int .i64 0, .int .i64 0] 27)).alloc (.cells #[.int .i64 0] 3)).alloc (.cells #[.int .i64 0, .int .i64 0, .int .i64 0] 30)) (w.heap.size + 1 + 1) 30 #[.int .i64 0, .int .i64 0, .int .i64 0])).alloc _)
 have hbo : Bo ((((w.alloc (.cells #[.int .i64 0, .string ⟨#[]⟩, .int .i64 0, .slice none 0 0, .int .i64 0, .int .i64 0] 27)).alloc (.cells #[.int .i64 0] 3)).alloc (.cells #[.int .i64 0, .int .i64 0, .int .i64 0] 30)).alloc (.cells #[.slice aL n cap, .int .i64 (k : Int), .int .i64 0] 143)) (w.heap.size + 1 + 1 + 1) 143 #[.slice aL n cap, .int .i64 (k : Int), .int .i64 0] := by have h := Bo.new (((w.alloc (.cells #[.int .i64 0, .string ⟨#[]⟩, .int .i64 0, .slice none 0 0, .int .i64 0, .int .i64 0] 27)).alloc (.cells #[.int .i64 0] 3)).alloc (.cells #[.int .i64 0, .int .i64 0, .int .i64 0] 30)) 143 #[.slice aL n cap, .int .i64 (k : Int), .int .i64 0]; rw [World.size_alloc, World.size_alloc, World.size_alloc] at h; exact h
 have hbel : Below w.heap.size w ((((w.alloc (.cells #[.int .i64 0, .string ⟨#[]⟩, .int .i64 0, .slice none 0 0, .int .i64 0, .int .i64 0] 27)).alloc (.cells #[.int .i64 0] 3)).alloc (.cells #[.int .i64 0, .int .i64 0, .int .i64 0] 30)).alloc (.cells #[.slice aL n cap, .int .i64 (k : Int), .int .i64 0] 143)) := (((below_new w _).alloc (by simp) _).alloc (by simp only [World.size_alloc]; omega) _).alloc (by simp only [World.size_alloc]; omega) _
 have htk := H.out.keep hbel
 generalize ((((w.alloc (.cells #[.int .i64 0, .string ⟨#[]⟩, .int .i64 0, .slice none 0 0, .int .i64 0, .int .i64 0] 27)).alloc (.cells #[.int .i64 0] 3)).alloc (.cells #[.int .i64 0, .int .i64 0, .int .i64 0] 30)).alloc (.cells #[.slice aL n cap, .int .i64 (k : Int), .int .i64 0] 143)) = w1 at *
 have htk2 : Mem (· < w.heap.size + 1 + 1 + 1) w1 (.s 5 (tkRows ts)) (.slice aL n cap) := (Mem.keep H.out (Nat.le_refl _) hbel).le (by omega)
 generalize hq : w.heap.size + 1 + 1 + 1 = q at *
 have HP : Hid (PS ts aL n cap q k ((0 : Nat) : Int) w1) := Lib.hid ⟨hbo, htk2, hn⟩
 have HF : Hid (FarB q w.heap.size w w1) := Lib.hid (Far.of hbel)
 have hq1 : w.heap.size + 1 + 1 < q := by omega
 have hs2 : w1.heap.size = q + 1 := by omega
 clear hq hs1 hbo htk htk2 hbel
 cases r with
 | bad l_ c_ =>
  refine (pat1_any hr _ HP.out).mono ?_
  rintro _ w2 ⟨rfl, hf, hbo⟩
  replace HBe := qB HBe hf
  replace HBn := qB HBn hf
  replace HBf := qB HBf hf
  replace HF := qF HF hf
  have hs2 := hf.size
  go_wp2_with (fail)
  refine leaves_cons (f := 88) (args := #[.pointer (some ⟨w.heap.size, 0, none⟩), .pointer (some ⟨w.heap.size + 1, 0, none⟩), .pointer (some ⟨w.heap.size + 1 + 1, 0, none⟩)]) (by simp) (by simp [go_sem]) ?_
  refine (caught_fault w2 l_ c_ (by omega) (by omega) HBe.out HBn.out HBf.out).mono ?_
  rintro e u w3 ⟨rfl, hu, hf3, g0, g1, g2⟩
  show Leaves _ _ _ _ [] (settle u) w3
  rw [hu]
  have x0 := g0.cell (j := 0) rfl; have x1 := g0.cell (j := 1) rfl; have x2 := g0.cell (j := 2) rfl; have x3 := g0.cell (j := 3) rfl; have x4 := g0.cell (j := 4) rfl; have x5 := g0.cell (j := 5) rfl; have y0 := g1.cell (j := 0) rfl; have z0 := g2.cell (j := 0) rfl; have z1 := g2.cell (j := 1) rfl; have z2 := g2.cell (j := 2) rfl
  refine ⟨_, ?_, rfl, ?_⟩
  · (clear HF HBe HBn HBf H g0 g1 g2 hf3; simp [results, Try.results56, go_sem, x0, x1, x2, x3, x4, x5, y0, z0, z1, z2])
  · exact Far.toB (Far.trans (Far.mono HF.out (fun b e => by rcases e with e | e <;> omega)) (Far.mono hf3 (fun b e => by rcases e with e | e | e <;> omega))) (Nat.le_refl _)
 | ok x j =>
  refine (pat1_any hr _ HP.out).mono ?_
  rintro _ w2 ⟨ax, mx, cx, rfl, hf, hp, hm⟩
  replace HBe := qB HBe hf
  replace HBn := qB HBn hf
  replace HBf := qB HBf hf
  replace HF := qF HF hf
  have hs2 := hf.size
  replace HP := Lib.hid hp
  have HMx := Lib.hid hm
  clear hf hp hm
  simp only [exV]
  have HBq := Lib.hid HP.out.bo
  clear HP
  have ec := kc6 HBe; have nc := kc1 HBn; have fc := kc3 HBf; have qc := kc3 HBq
  have hI := i01_q_q_0 w (w.heap.size + 1 + 1) q w2
  go_wp2_with (fail)
  clear ec nc fc qc
  generalize ee : ((((((w2.setCell ⟨w.heap.size, 0, none⟩ (.int .i64 x.kind)).setCell ⟨w.heap.size, 1, none⟩ (.string x.name)).setCell ⟨w.heap.size, 2, none⟩ (.int .i64 x.n)).setCell ⟨w.heap.size, 3, none⟩ (.slice ax mx cx)).setCell ⟨w.heap.size, 4, none⟩ (.int .i64 x.line)).setCell ⟨w.heap.size, 5, none⟩ (.int .i64 x.col)) = w3 at *
  have hsz3 := sizeS6 ee
  replace HF := fN6 HF ee
  replace HBe := bS6 HBe ee
  replace HBn := bF6 HBn ee
  replace HBf := bF6 HBf ee
  replace HBq := bF6 HBq ee
  replace HMx := mS6 HMx ee
  clear ee
  clear hI
  have ec := kc6 HBe; have nc := kc1 HBn; have fc := kc3 HBf; have qc := kc3 HBq
  have hI := i01_q_q_0 w (w.heap.size + 1 + 1) q w3
  have hZ := i01_q_q_0 w (w.heap.size + 1 + 1) q w2
  refine wp_nopanic ?_
  refine wp_region_held_drew (S := fun w' => Far (fun b => b = w.heap.size ∨ b = w.heap.size + 1 ∨ b = w.heap.size + 1 + 1) (w3) w') (by kernel_rfl) (Far.of (below_drew _)) (fun hS10 => ?_)
  refine takeA 1 (v := ?_) rfl ?_ ?_
  rotate_left
  · (intro w hSw; (try dsimp only at hSw); replace qc := Far.c3z qc hSw (by intro e; rcases e with e | e | e <;> omega); go_simp; try with_reducible rfl)
  try simp only [Act.put, pu1, pu2, pu3]
  refine takeA 2 (v := ?_) rfl ?_ ?_
  rotate_left
  · (intro w hSw; (try dsimp only at hSw); replace qc := Far.c3z qc hSw (by intro e; rcases e with e | e | e <;> omega); go_simp; try with_reducible rfl)
  try simp only [Act.put, pu1, pu2, pu3]
  refine takeA 3 (v := ?_) rfl ?_ ?_
  rotate_left
  · (intro w hSw; (try dsimp only at hSw); replace qc := Far.c3z qc hSw (by intro e; rcases e with e | e | e <;> omega); go_simp; try with_reducible rfl)
  try simp only [Act.put, pu1, pu2, pu3]
  refine takeA 4 (v := ?_) rfl ?_ ?_
  rotate_left
  · (intro w hSw; (try dsimp only at hSw); replace qc := Far.c3z qc hSw (by intro e; rcases e with e | e | e <;> omega); go_simp; try with_reducible rfl)
  try simp only [Act.put, pu1, pu2, pu3]
  refine takeA 5 (v := ?_) rfl ?_ ?_
  rotate_left
  · (intro w hSw; (try dsimp only at hSw); replace qc := Far.c3z qc hSw (by intro e; rcases e with e | e | e <;> omega); go_simp; try with_reducible rfl)
  try simp only [Act.put, pu1, pu2, pu3]

  refine callA 0 rfl fun K hK => ?_
  go_simp
  refine hK.out _ _ ?_ (fun hS11 => ?_)
  · exact hS10
  clear hK K
  refine callA 6 rfl fun K hK => ?_
  go_simp
  refine hK.out _ _ ?_ (fun hS12 => ?_)
  · exact (by refine Far.trans ?_ (Far.of (below_drew _)); (iterate 6 (refine Far.setCell (p := ⟨w.heap.size, _, none⟩) ?_ (.inl rfl) _)); exact Far.refl _ _)
  clear hK K

  clear ec nc fc qc
  generalize ee : ((((((w3.setCell ⟨w.heap.size, 0, none⟩ (.int .i64 x.kind)).setCell ⟨w.heap.size, 1, none⟩ (.string x.name)).setCell ⟨w.heap.size, 2, none⟩ (.int .i64 x.n)).setCell ⟨w.heap.size, 3, none⟩ (.slice ax mx cx)).setCell ⟨w.heap.size, 4, none⟩ (.int .i64 x.line)).setCell ⟨w.heap.size, 5, none⟩ (.int .i64 x.col)) = w4_1 at *
  have hq1 := sizeS6 ee
  replace HF := fN6 HF ee
  replace HBe := bS6 HBe ee
  replace HBn := bF6 HBn ee
  replace HBf := bF6 HBf ee
  replace HBq := bF6 HBq ee
  replace HMx := mS6 HMx ee
  clear ee
  generalize ee : (w4_1.drew) = w4 at *
  have hq2 := sizeD ee
  replace HF := fD HF ee
  replace HBe := bD HBe ee
  replace HBn := bD HBn ee
  replace HBf := bD HBf ee
  replace HBq := bD HBq ee
  replace HMx := mD HMx ee
  clear ee
  have hsa4 : w4.heap.size = w2.heap.size + 0 := by omega
  clear hq1 hq2
  clear hI hZ
  have ec := kc6 HBe; have nc := kc1 HBn; have fc := kc3 HBf; have qc := kc3 HBq
  have hI := i01_q_q_0 w (w.heap.size + 1 + 1) q w4
  have hZ := i01_q_q_0 w (w.heap.size + 1 + 1) q w2
  refine callA 7 rfl fun K hK => ?_
  go_simp
  refine hK.out _ _ ?_ (fun hS13 => ?_)
  · exact Far.setCell (p := ⟨w.heap.size + 1, 0, none⟩) hS12 (.inr (.inl rfl)) _
  clear hK K

  clear ec nc fc qc
  generalize ee : (w4.setCell ⟨(w.heap.size + 1), 0, none⟩ (.int .i64 (j : Int))) = w5 at *
  have hsz5 := sizeS1 ee
  replace HF := fN1 HF ee
  replace HBe := bF1 HBe ee
  replace HBn : Hid (Bo w5 (w.heap.size + 1) 3 #[.int .i64 (j : Int)]) := Lib.hid (by rw [← ee]; exact HBn.out.set 0 (.int .i64 (j : Int)))
  replace HBf := bF1 HBf ee
  replace HBq := bF1 HBq ee
  replace HMx := mS1 HMx ee
  clear ee
  clear hI hZ
  have ec := kc6 HBe; have nc := kc1 HBn; have fc := kc3 HBf; have qc := kc3 HBq
  have hI := i01_q_q_0 w (w.heap.size + 1 + 1) q w5
  have hZ := i01_q_q_0 w (w.heap.size + 1 + 1) q w2
  refine callA 8 rfl fun K hK => ?_
  go_simp
  refine hK.out _ _ ?_ (fun hS14 => ?_)
  · exact Far.setCell (p := ⟨w.heap.size + 1 + 1, 2, none⟩) (Far.setCell (p := ⟨w.heap.size + 1 + 1, 1, none⟩) (Far.setCell (p := ⟨w.heap.size + 1 + 1, 0, none⟩) hS13 (.inr (.inr rfl)) _) (.inr (.inr rfl)) _) (.inr (.inr rfl)) _
  clear hK K
  refine wpAnyH_done (by kernel_rfl) ?_ _

  clear ec nc fc qc
  generalize ee : (((w5.setCell ⟨(w.heap.size + 1 + 1), 0, none⟩ (.int .i64 0)).setCell ⟨(w.heap.size + 1 + 1), 1, none⟩ (.int .i64 0)).setCell ⟨(w.heap.size + 1 + 1), 2, none⟩ (.int .i64 0)) = w6 at *
  have hsz6 := sizeS3 ee
  replace HF := fN3 HF ee
  replace HBe := bF3 HBe ee
  replace HBn := bF3 HBn ee
  replace HBf := bS3 HBf ee
  replace HBq := bF3 HBq ee
  replace HMx := mS3 HMx ee
  clear ee
  clear hI hZ
  show Exit.then _ _ Exit.normal _ _
  go_wp2_with (fail)
  refine leaves_cons (f := 88) (args := #[.pointer (some ⟨w.heap.size, 0, none⟩), .pointer (some ⟨w.heap.size + 1, 0, none⟩), .pointer (some ⟨w.heap.size + 1 + 1, 0, none⟩)]) (by simp) (by simp [go_sem]) ?_
  refine (caught_none _).mono ?_
  rintro e u w9 ⟨rfl, rfl, rfl⟩
  have x0 := HBe.out.cell (j := 0) rfl; have x1 := HBe.out.cell (j := 1) rfl; have x2 := HBe.out.cell (j := 2) rfl; have x3 := HBe.out.cell (j := 3) rfl; have x4 := HBe.out.cell (j := 4) rfl; have x5 := HBe.out.cell (j := 5) rfl; have y0 := HBn.out.cell (j := 0) rfl; have z0 := HBf.out.cell (j := 0) rfl; have z1 := HBf.out.cell (j := 1) rfl; have z2 := HBf.out.cell (j := 2) rfl
  refine ⟨.tuple #[exV x ax mx cx, .int .i64 (j : Int), .agg #[.int .i64 0, .int .i64 0, .int .i64 0]], ?_, ax, mx, cx, rfl, ?_, memNw HMx.out (by omega)⟩
  · (clear HF HBe HBn HBf HBq HMx H; simp [results, Try.results56, go_sem, exV, x0, x1, x2, x3, x4, x5, y0, z0, z1, z2])
  · exact Far.toB (Far.mono HF.out (fun b e => by rcases e with e | e <;> omega)) (Nat.le_refl _)
theorem rpat_any {F : Nat} {i : Int} {r : Rd1} (w : World) (h : MemW w (.s 5 (tkRows ts)) (.slice aL n cap)) (hn : n ≤ 1048576) (hr : readE ts F .pat i.toNat 0 = some r) :
  Calls Try.prog 56 #[.slice aL n cap, .int .i64 i, .func (.func 100) #[] #[]] w (RunAns r w) := by
 by_cases hi : i < 0
 · (rw [Int.toNat_of_nonpos (by omega)] at hr; exact run_pat_neg hi w h hn hr)
 · (obtain ⟨k, rfl⟩ := Int.eq_ofNat_of_zero_le (show 0 ≤ i by omega); exact run_pat_pos w h hn hr)
set_option maxRecDepth 100000 in
set_option maxHeartbeats 20000000 in
theorem pat_any {F : Nat} {i : Int} {r : Rd1} (w : World) (h : MemW w (.s 5 (tkRows ts)) (.slice aL n cap)) (hn : n ≤ 1048576) (hr : readE ts F .pat i.toNat 0 = some r) :
  Calls Try.prog 77 #[.slice aL n cap, .int .i64 i] w (RunAns r w) := by
 have H := Lib.hid h
 clear h
 go_enter Try.func77, Try.ntmps77
 go_wp2_with (fail)
 have hs1 : ((w.alloc (.cells #[.int .i64 0, .string ⟨#[]⟩, .int .i64 0, .slice none 0 0, .int .i64 0, .int .i64 0] 27)).alloc (.cells #[.int .i64 0, .int .i64 0, .int .i64 0] 30)).heap.size = w.heap.size + 1 + 1 := by simp only [World.size_alloc]
 have HBe : Hid (Bo ((w.alloc (.cells #[.int .i64 0, .string ⟨#[]⟩, .int .i64 0, .slice none 0 0, .int .i64 0, .int .i64 0] 27)).alloc (.cells #[.int .i64 0, .int .i64 0, .int .i64 0] 30)) w.heap.size 27 #[.int .i64 0, .string ⟨#[]⟩, .int .i64 0, .slice none 0 0, .int .i64 0, .int .i64 0]) := Lib.hid ((Bo.new w 27 #[.int .i64 0, .string ⟨#[]⟩, .int .i64 0, .slice none 0 0, .int .i64 0, .int .i64 0]).alloc _)
 have HBf : Hid (Bo ((w.alloc (.cells #[.int .i64 0, .string ⟨#[]⟩, .int .i64 0, .slice none 0 0, .int .i64 0, .int .i64 0] 27)).alloc (.cells #[.int .i64 0, .int .i64 0, .int .i64 0] 30)) (w.heap.size + 1) 30 #[.int .i64 0, .int .i64 0, .int .i64 0]) := Lib.hid (by have h := Bo.new (w.alloc (.cells #[.int .i64 0, .string ⟨#[]⟩, .int .i64 0, .slice none 0 0, .int .i64 0, .int .i64 0] 27)) 30 #[.int .i64 0, .int .i64 0, .int .i64 0]; rw [World.size_alloc] at h; exact h)
 have hbel : Below w.heap.size w ((w.alloc (.cells #[.int .i64 0, .string ⟨#[]⟩, .int .i64 0, .slice none 0 0, .int .i64 0, .int .i64 0] 27)).alloc (.cells #[.int .i64 0, .int .i64 0, .int .i64 0] 30)) := ((below_new w _).alloc (by simp) _)
 have HM := Lib.hid (H.out.keep hbel)
 have HB := Lib.hid hbel
 clear hbel
 generalize ((w.alloc (.cells #[.int .i64 0, .string ⟨#[]⟩, .int .i64 0, .slice none 0 0, .int .i64 0, .int .i64 0] 27)).alloc (.cells #[.int .i64 0, .int .i64 0, .int .i64 0] 30)) = w1 at *
 refine (rpat_any w1 HM.out hn hr).mono ?_
 cases r with
 | bad l_ c_ =>
  rintro _ w2 ⟨rfl, hb⟩
  replace HBe := kB HBe hb
  replace HBf := kB HBf hb
  have hs2 := hb.size
  have HF : Hid (Far (fun b => w.heap.size ≤ b) w w2) := Lib.hid (Far.of (HB.out.trans (hb.mono (by omega))))
  clear hb
  have ec := kc6 HBe; have fc := kc3 HBf
  have hI := i01_0 w w2
  go_wp2_with (fail)
  clear ec fc
  replace HBe := Lib.hid (HBe.out.set 0 (.int .i64 0))
  replace HBf := Lib.hid (HBf.out.far 0 (.int .i64 0) (g := w.heap.size) (by omega))
  replace HF := Lib.hid (HF.out.setCell (p := ⟨w.heap.size, 0, none⟩) (Nat.le_refl w.heap.size) (.int .i64 0))
  replace HBe := Lib.hid (HBe.out.set 1 (.string ⟨#[]⟩))
  replace HBf := Lib.hid (HBf.out.far 1 (.string ⟨#[]⟩) (g := w.heap.size) (by omega))
  replace HF := Lib.hid (HF.out.setCell (p := ⟨w.heap.size, 1, none⟩) (Nat.le_refl w.heap.size) (.string ⟨#[]⟩))
  replace HBe := Lib.hid (HBe.out.set 2 (.int .i64 0))
  replace HBf := Lib.hid (HBf.out.far 2 (.int .i64 0) (g := w.heap.size) (by omega))
  replace HF := Lib.hid (HF.out.setCell (p := ⟨w.heap.size, 2, none⟩) (Nat.le_refl w.heap.size) (.int .i64 0))
  replace HBe := Lib.hid (HBe.out.set 3 (.slice none 0 0))
  replace HBf := Lib.hid (HBf.out.far 3 (.slice none 0 0) (g := w.heap.size) (by omega))
  replace HF := Lib.hid (HF.out.setCell (p := ⟨w.heap.size, 3, none⟩) (Nat.le_refl w.heap.size) (.slice none 0 0))
  replace HBe := Lib.hid (HBe.out.set 4 (.int .i64 0))
  replace HBf := Lib.hid (HBf.out.far 4 (.int .i64 0) (g := w.heap.size) (by omega))
  replace HF := Lib.hid (HF.out.setCell (p := ⟨w.heap.size, 4, none⟩) (Nat.le_refl w.heap.size) (.int .i64 0))
  replace HBe := Lib.hid (HBe.out.set 5 (.int .i64 0))
  replace HBf := Lib.hid (HBf.out.far 5 (.int .i64 0) (g := w.heap.size) (by omega))
  replace HF := Lib.hid (HF.out.setCell (p := ⟨w.heap.size, 5, none⟩) (Nat.le_refl w.heap.size) (.int .i64 0))
  replace HBf := Lib.hid (HBf.out.set 0 (.int .i64 1))
  replace HBe := Lib.hid (HBe.out.far 0 (.int .i64 1) (g := (w.heap.size + 1)) (by omega))
  replace HF := Lib.hid (HF.out.setCell (p := ⟨(w.heap.size + 1), 0, none⟩) (Nat.le_succ w.heap.size) (.int .i64 1))
  replace HBf := Lib.hid (HBf.out.set 1 (.int .i64 l_))
  replace HBe := Lib.hid (HBe.out.far 1 (.int .i64 l_) (g := (w.heap.size + 1)) (by omega))
  replace HF := Lib.hid (HF.out.setCell (p := ⟨(w.heap.size + 1), 1, none⟩) (Nat.le_succ w.heap.size) (.int .i64 l_))
  replace HBf := Lib.hid (HBf.out.set 2 (.int .i64 c_))
  replace HBe := Lib.hid (HBe.out.far 2 (.int .i64 c_) (g := (w.heap.size + 1)) (by omega))
  replace HF := Lib.hid (HF.out.setCell (p := ⟨(w.heap.size + 1), 2, none⟩) (Nat.le_succ w.heap.size) (.int .i64 c_))
  replace HBe : Hid (Bo (((((((((w2.setCell ⟨w.heap.size, 0, none⟩ (.int .i64 0)).setCell ⟨w.heap.size, 1, none⟩ (.string ⟨#[]⟩)).setCell ⟨w.heap.size, 2, none⟩ (.int .i64 0)).setCell ⟨w.heap.size, 3, none⟩ (.slice none 0 0)).setCell ⟨w.heap.size, 4, none⟩ (.int .i64 0)).setCell ⟨w.heap.size, 5, none⟩ (.int .i64 0)).setCell ⟨(w.heap.size + 1), 0, none⟩ (.int .i64 1)).setCell ⟨(w.heap.size + 1), 1, none⟩ (.int .i64 l_)).setCell ⟨(w.heap.size + 1), 2, none⟩ (.int .i64 c_)) w.heap.size 27 #[.int .i64 0, .string ⟨#[]⟩, .int .i64 0, .slice none 0 0, .int .i64 0, .int .i64 0]) := HBe
  replace HBf : Hid (Bo (((((((((w2.setCell ⟨w.heap.size, 0, none⟩ (.int .i64 0)).setCell ⟨w.heap.size, 1, none⟩ (.string ⟨#[]⟩)).setCell ⟨w.heap.size, 2, none⟩ (.int .i64 0)).setCell ⟨w.heap.size, 3, none⟩ (.slice none 0 0)).setCell ⟨w.heap.size, 4, none⟩ (.int .i64 0)).setCell ⟨w.heap.size, 5, none⟩ (.int .i64 0)).setCell ⟨(w.heap.size + 1), 0, none⟩ (.int .i64 1)).setCell ⟨(w.heap.size + 1), 1, none⟩ (.int .i64 l_)).setCell ⟨(w.heap.size + 1), 2, none⟩ (.int .i64 c_)) (w.heap.size + 1) 30 #[.int .i64 1, .int .i64 l_, .int .i64 c_]) := HBf
  generalize (((((((((w2.setCell ⟨w.heap.size, 0, none⟩ (.int .i64 0)).setCell ⟨w.heap.size, 1, none⟩ (.string ⟨#[]⟩)).setCell ⟨w.heap.size, 2, none⟩ (.int .i64 0)).setCell ⟨w.heap.size, 3, none⟩ (.slice none 0 0)).setCell ⟨w.heap.size, 4, none⟩ (.int .i64 0)).setCell ⟨w.heap.size, 5, none⟩ (.int .i64 0)).setCell ⟨(w.heap.size + 1), 0, none⟩ (.int .i64 1)).setCell ⟨(w.heap.size + 1), 1, none⟩ (.int .i64 l_)).setCell ⟨(w.heap.size + 1), 2, none⟩ (.int .i64 c_)) = w3 at *
  have x0 := HBe.out.cell (j := 0) rfl; have x1 := HBe.out.cell (j := 1) rfl; have x2 := HBe.out.cell (j := 2) rfl; have x3 := HBe.out.cell (j := 3) rfl; have x4 := HBe.out.cell (j := 4) rfl; have x5 := HBe.out.cell (j := 5) rfl; have z0 := HBf.out.cell (j := 0) rfl; have z1 := HBf.out.cell (j := 1) rfl; have z2 := HBf.out.cell (j := 2) rfl
  refine bodyPost_ret (v := .tuple #[.agg #[.int .i64 0, .string ⟨#[]⟩, .int .i64 0, .slice none 0 0, .int .i64 0, .int .i64 0], .int .i64 0, .agg #[.int .i64 1, .int .i64 l_, .int .i64 c_]]) (by clear HF HBe HBf H HM HB; simp [results, Try.results77, go_sem, x0, x1, x2, x3, x4, x5, z0, z1, z2]) rfl ?_
  exact ⟨rfl, Far.toB HF.out (Nat.le_refl _)⟩
 | ok x j =>
  rintro _ w2 ⟨a, m, c, rfl, hb, hm⟩
  replace HBe := kB HBe hb
  replace HBf := kB HBf hb
  have hs2 := hb.size
  have HF : Hid (Far (fun b => w.heap.size ≤ b) w w2) := Lib.hid (Far.of (HB.out.trans (hb.mono (by omega))))
  clear hb
  have HM2 := Lib.hid hm
  clear hm
  simp only [exV]
  have ec := kc6 HBe; have fc := kc3 HBf
  have hI := i01_0 w w2
  go_wp2_with (fail)
  clear ec fc
  replace HBe := Lib.hid (HBe.out.set 0 (.int .i64 x.kind))
  replace HBf := Lib.hid (HBf.out.far 0 (.int .i64 x.kind) (g := w.heap.size) (by omega))
  replace HF := Lib.hid (HF.out.setCell (p := ⟨w.heap.size, 0, none⟩) (Nat.le_refl w.heap.size) (.int .i64 x.kind))
  replace HM2 := Lib.hid (memSet HM2.out (g := w.heap.size) (by omega) 0 (.int .i64 x.kind))
  replace HBe := Lib.hid (HBe.out.set 1 (.string x.name))
  replace HBf := Lib.hid (HBf.out.far 1 (.string x.name) (g := w.heap.size) (by omega))
  replace HF := Lib.hid (HF.out.setCell (p := ⟨w.heap.size, 1, none⟩) (Nat.le_refl w.heap.size) (.string x.name))
  replace HM2 := Lib.hid (memSet HM2.out (g := w.heap.size) (by omega) 1 (.string x.name))
  replace HBe := Lib.hid (HBe.out.set 2 (.int .i64 x.n))
  replace HBf := Lib.hid (HBf.out.far 2 (.int .i64 x.n) (g := w.heap.size) (by omega))
  replace HF := Lib.hid (HF.out.setCell (p := ⟨w.heap.size, 2, none⟩) (Nat.le_refl w.heap.size) (.int .i64 x.n))
  replace HM2 := Lib.hid (memSet HM2.out (g := w.heap.size) (by omega) 2 (.int .i64 x.n))
  replace HBe := Lib.hid (HBe.out.set 3 (.slice a m c))
  replace HBf := Lib.hid (HBf.out.far 3 (.slice a m c) (g := w.heap.size) (by omega))
  replace HF := Lib.hid (HF.out.setCell (p := ⟨w.heap.size, 3, none⟩) (Nat.le_refl w.heap.size) (.slice a m c))
  replace HM2 := Lib.hid (memSet HM2.out (g := w.heap.size) (by omega) 3 (.slice a m c))
  replace HBe := Lib.hid (HBe.out.set 4 (.int .i64 x.line))
  replace HBf := Lib.hid (HBf.out.far 4 (.int .i64 x.line) (g := w.heap.size) (by omega))
  replace HF := Lib.hid (HF.out.setCell (p := ⟨w.heap.size, 4, none⟩) (Nat.le_refl w.heap.size) (.int .i64 x.line))
  replace HM2 := Lib.hid (memSet HM2.out (g := w.heap.size) (by omega) 4 (.int .i64 x.line))
  replace HBe := Lib.hid (HBe.out.set 5 (.int .i64 x.col))
  replace HBf := Lib.hid (HBf.out.far 5 (.int .i64 x.col) (g := w.heap.size) (by omega))
  replace HF := Lib.hid (HF.out.setCell (p := ⟨w.heap.size, 5, none⟩) (Nat.le_refl w.heap.size) (.int .i64 x.col))
  replace HM2 := Lib.hid (memSet HM2.out (g := w.heap.size) (by omega) 5 (.int .i64 x.col))
  replace HBf := Lib.hid (HBf.out.set 0 (.int .i64 0))
  replace HBe := Lib.hid (HBe.out.far 0 (.int .i64 0) (g := (w.heap.size + 1)) (by omega))
  replace HF := Lib.hid (HF.out.setCell (p := ⟨(w.heap.size + 1), 0, none⟩) (Nat.le_succ w.heap.size) (.int .i64 0))
  replace HM2 := Lib.hid (memSet HM2.out (g := (w.heap.size + 1)) (by omega) 0 (.int .i64 0))
  replace HBf := Lib.hid (HBf.out.set 1 (.int .i64 0))
  replace HBe := Lib.hid (HBe.out.far 1 (.int .i64 0) (g := (w.heap.size + 1)) (by omega))
  replace HF := Lib.hid (HF.out.setCell (p := ⟨(w.heap.size + 1), 1, none⟩) (Nat.le_succ w.heap.size) (.int .i64 0))
  replace HM2 := Lib.hid (memSet HM2.out (g := (w.heap.size + 1)) (by omega) 1 (.int .i64 0))
  replace HBf := Lib.hid (HBf.out.set 2 (.int .i64 0))
  replace HBe := Lib.hid (HBe.out.far 2 (.int .i64 0) (g := (w.heap.size + 1)) (by omega))
  replace HF := Lib.hid (HF.out.setCell (p := ⟨(w.heap.size + 1), 2, none⟩) (Nat.le_succ w.heap.size) (.int .i64 0))
  replace HM2 := Lib.hid (memSet HM2.out (g := (w.heap.size + 1)) (by omega) 2 (.int .i64 0))
  replace HBe : Hid (Bo (((((((((w2.setCell ⟨w.heap.size, 0, none⟩ (.int .i64 x.kind)).setCell ⟨w.heap.size, 1, none⟩ (.string x.name)).setCell ⟨w.heap.size, 2, none⟩ (.int .i64 x.n)).setCell ⟨w.heap.size, 3, none⟩ (.slice a m c)).setCell ⟨w.heap.size, 4, none⟩ (.int .i64 x.line)).setCell ⟨w.heap.size, 5, none⟩ (.int .i64 x.col)).setCell ⟨(w.heap.size + 1), 0, none⟩ (.int .i64 0)).setCell ⟨(w.heap.size + 1), 1, none⟩ (.int .i64 0)).setCell ⟨(w.heap.size + 1), 2, none⟩ (.int .i64 0)) w.heap.size 27 #[.int .i64 x.kind, .string x.name, .int .i64 x.n, .slice a m c, .int .i64 x.line, .int .i64 x.col]) := HBe
  replace HBf : Hid (Bo (((((((((w2.setCell ⟨w.heap.size, 0, none⟩ (.int .i64 x.kind)).setCell ⟨w.heap.size, 1, none⟩ (.string x.name)).setCell ⟨w.heap.size, 2, none⟩ (.int .i64 x.n)).setCell ⟨w.heap.size, 3, none⟩ (.slice a m c)).setCell ⟨w.heap.size, 4, none⟩ (.int .i64 x.line)).setCell ⟨w.heap.size, 5, none⟩ (.int .i64 x.col)).setCell ⟨(w.heap.size + 1), 0, none⟩ (.int .i64 0)).setCell ⟨(w.heap.size + 1), 1, none⟩ (.int .i64 0)).setCell ⟨(w.heap.size + 1), 2, none⟩ (.int .i64 0)) (w.heap.size + 1) 30 #[.int .i64 0, .int .i64 0, .int .i64 0]) := HBf
  generalize (((((((((w2.setCell ⟨w.heap.size, 0, none⟩ (.int .i64 x.kind)).setCell ⟨w.heap.size, 1, none⟩ (.string x.name)).setCell ⟨w.heap.size, 2, none⟩ (.int .i64 x.n)).setCell ⟨w.heap.size, 3, none⟩ (.slice a m c)).setCell ⟨w.heap.size, 4, none⟩ (.int .i64 x.line)).setCell ⟨w.heap.size, 5, none⟩ (.int .i64 x.col)).setCell ⟨(w.heap.size + 1), 0, none⟩ (.int .i64 0)).setCell ⟨(w.heap.size + 1), 1, none⟩ (.int .i64 0)).setCell ⟨(w.heap.size + 1), 2, none⟩ (.int .i64 0)) = w3 at *
  have x0 := HBe.out.cell (j := 0) rfl; have x1 := HBe.out.cell (j := 1) rfl; have x2 := HBe.out.cell (j := 2) rfl; have x3 := HBe.out.cell (j := 3) rfl; have x4 := HBe.out.cell (j := 4) rfl; have x5 := HBe.out.cell (j := 5) rfl; have z0 := HBf.out.cell (j := 0) rfl; have z1 := HBf.out.cell (j := 1) rfl; have z2 := HBf.out.cell (j := 2) rfl
  refine bodyPost_ret (v := .tuple #[.agg #[.int .i64 x.kind, .string x.name, .int .i64 x.n, .slice a m c, .int .i64 x.line, .int .i64 x.col], .int .i64 (j : Int), .agg #[.int .i64 0, .int .i64 0, .int .i64 0]]) (by clear HF HBe HBf H HM HB HM2; simp [results, Try.results77, go_sem, x0, x1, x2, x3, x4, x5, z0, z1, z2]) rfl ?_
  exact ⟨_, _, _, rfl, Far.toB HF.out (Nat.le_refl _), memNw HM2.out (by omega)⟩
end
end Go.Proofs.Ytcoiagfeoonpbaa

/-
  Stores of a whole block of eleven cells: the short words. Plain lemmas. No condition.
-/
namespace Go.Proofs.Ytcoiagfeoonpbaa
open Go.RowKit
set_option maxRecDepth 100000
section
variable {w w' a : World} {q g j B : Nat} {t : TypeId}
theorem Bo.set11 {a0 a1 a2 a3 a4 a5 a6 a7 a8 a9 a10 : Value} {v0 v1 v2 v3 v4 v5 v6 v7 v8 v9 v10 : Value} (h : Bo w q t #[a0, a1, a2, a3, a4, a5, a6, a7, a8, a9, a10]) (e : (((((((((((w.setCell ⟨q, 0, none⟩ v0).setCell ⟨q, 1, none⟩ v1).setCell ⟨q, 2, none⟩ v2).setCell ⟨q, 3, none⟩ v3).setCell ⟨q, 4, none⟩ v4).setCell ⟨q, 5, none⟩ v5).setCell ⟨q, 6, none⟩ v6).setCell ⟨q, 7, none⟩ v7).setCell ⟨q, 8, none⟩ v8).setCell ⟨q, 9, none⟩ v9).setCell ⟨q, 10, none⟩ v10) = w') : Bo w' q t #[v0, v1, v2, v3, v4, v5, v6, v7, v8, v9, v10] := by
  have h0 : Bo (w.setCell ⟨q, 0, none⟩ v0) q t #[v0, a1, a2, a3, a4, a5, a6, a7, a8, a9, a10] := h.set 0 v0
  have h1 : Bo ((w.setCell ⟨q, 0, none⟩ v0).setCell ⟨q, 1, none⟩ v1) q t #[v0, v1, a2, a3, a4, a5, a6, a7, a8, a9, a10] := h0.set 1 v1
  have h2 : Bo (((w.setCell ⟨q, 0, none⟩ v0).setCell ⟨q, 1, none⟩ v1).setCell ⟨q, 2, none⟩ v2) q t #[v0, v1, v2, a3, a4, a5, a6, a7, a8, a9, a10] := h1.set 2 v2
  have h3 : Bo ((((w.setCell ⟨q, 0, none⟩ v0).setCell ⟨q, 1, none⟩ v1).setCell ⟨q, 2, none⟩ v2).setCell ⟨q, 3, none⟩ v3) q t #[v0, v1, v2, v3, a4, a5, a6, a7, a8, a9, a10] := h2.set 3 v3
  have h4 : Bo (((((w.setCell ⟨q, 0, none⟩ v0).setCell ⟨q, 1, none⟩ v1).setCell ⟨q, 2, none⟩ v2).setCell ⟨q, 3, none⟩ v3).setCell ⟨q, 4, none⟩ v4) q t #[v0, v1, v2, v3, v4, a5, a6, a7, a8, a9, a10] := h3.set 4 v4
  have h5 : Bo ((((((w.setCell ⟨q, 0, none⟩ v0).setCell ⟨q, 1, none⟩ v1).setCell ⟨q, 2, none⟩ v2).setCell ⟨q, 3, none⟩ v3).setCell ⟨q, 4, none⟩ v4).setCell ⟨q, 5, none⟩ v5) q t #[v0, v1, v2, v3, v4, v5, a6, a7, a8, a9, a10] := h4.set 5 v5
  have h6 : Bo (((((((w.setCell ⟨q, 0, none⟩ v0).setCell ⟨q, 1, none⟩ v1).setCell ⟨q, 2, none⟩ v2).setCell ⟨q, 3, none⟩ v3).setCell ⟨q, 4, none⟩ v4).setCell ⟨q, 5, none⟩ v5).setCell ⟨q, 6, none⟩ v6) q t #[v0, v1, v2, v3, v4, v5, v6, a7, a8, a9, a10] := h5.set 6 v6
  have h7 : Bo ((((((((w.setCell ⟨q, 0, none⟩ v0).setCell ⟨q, 1, none⟩ v1).setCell ⟨q, 2, none⟩ v2).setCell ⟨q, 3, none⟩ v3).setCell ⟨q, 4, none⟩ v4).setCell ⟨q, 5, none⟩ v5).setCell ⟨q, 6, none⟩ v6).setCell ⟨q, 7, none⟩ v7) q t #[v0, v1, v2, v3, v4, v5, v6, v7, a8, a9, a10] := h6.set 7 v7
  have h8 : Bo (((((((((w.setCell ⟨q, 0, none⟩ v0).setCell ⟨q, 1, none⟩ v1).setCell ⟨q, 2, none⟩ v2).setCell ⟨q, 3, none⟩ v3).setCell ⟨q, 4, none⟩ v4).setCell ⟨q, 5, none⟩ v5).setCell ⟨q, 6, none⟩ v6).setCell ⟨q, 7, none⟩ v7).setCell ⟨q, 8, none⟩ v8) q t #[v0, v1, v2, v3, v4, v5, v6, v7, v8, a9, a10] := h7.set 8 v8
  have h9 : Bo ((((((((((w.setCell ⟨q, 0, none⟩ v0).setCell ⟨q, 1, none⟩ v1).setCell ⟨q, 2, none⟩ v2).setCell ⟨q, 3, none⟩ v3).setCell ⟨q, 4, none⟩ v4).setCell ⟨q, 5, none⟩ v5).setCell ⟨q, 6, none⟩ v6).setCell ⟨q, 7, none⟩ v7).setCell ⟨q, 8, none⟩ v8).setCell ⟨q, 9, none⟩ v9) q t #[v0, v1, v2, v3, v4, v5, v6, v7, v8, v9, a10] := h8.set 9 v9
  have h10 : Bo (((((((((((w.setCell ⟨q, 0, none⟩ v0).setCell ⟨q, 1, none⟩ v1).setCell ⟨q, 2, none⟩ v2).setCell ⟨q, 3, none⟩ v3).setCell ⟨q, 4, none⟩ v4).setCell ⟨q, 5, none⟩ v5).setCell ⟨q, 6, none⟩ v6).setCell ⟨q, 7, none⟩ v7).setCell ⟨q, 8, none⟩ v8).setCell ⟨q, 9, none⟩ v9).setCell ⟨q, 10, none⟩ v10) q t #[v0, v1, v2, v3, v4, v5, v6, v7, v8, v9, v10] := h9.set 10 v10
  rw [← e]
  exact h10
set_option maxHeartbeats 4000000 in
theorem Bo.far11 {cs : Array Value} {v0 v1 v2 v3 v4 v5 v6 v7 v8 v9 v10 : Value} (h : Bo w q t cs) (e : (((((((((((w.setCell ⟨g, 0, none⟩ v0).setCell ⟨g, 1, none⟩ v1).setCell ⟨g, 2, none⟩ v2).setCell ⟨g, 3, none⟩ v3).setCell ⟨g, 4, none⟩ v4).setCell ⟨g, 5, none⟩ v5).setCell ⟨g, 6, none⟩ v6).setCell ⟨g, 7, none⟩ v7).setCell ⟨g, 8, none⟩ v8).setCell ⟨g, 9, none⟩ v9).setCell ⟨g, 10, none⟩ v10) = w') (hg : q ≠ g) : Bo w' q t cs := e ▸ (((((((((((h.far 0 v0 hg).far 1 v1 hg).far 2 v2 hg).far 3 v3 hg).far 4 v4 hg).far 5 v5 hg).far 6 v6 hg).far 7 v7 hg).far 8 v8 hg).far 9 v9 hg).far 10 v10 hg)
set_option maxHeartbeats 4000000 in
theorem FarB.setN11  {v0 v1 v2 v3 v4 v5 v6 v7 v8 v9 v10 : Value} (h : FarB q B a w) (e : (((((((((((w.setCell ⟨g, 0, none⟩ v0).setCell ⟨g, 1, none⟩ v1).setCell ⟨g, 2, none⟩ v2).setCell ⟨g, 3, none⟩ v3).setCell ⟨g, 4, none⟩ v4).setCell ⟨g, 5, none⟩ v5).setCell ⟨g, 6, none⟩ v6).setCell ⟨g, 7, none⟩ v7).setCell ⟨g, 8, none⟩ v8).setCell ⟨g, 9, none⟩ v9).setCell ⟨g, 10, none⟩ v10) = w') (hg : B ≤ g) : FarB q B a w' := e ▸ (((((((((((h.setN hg 0 v0).setN hg 1 v1).setN hg 2 v2).setN hg 3 v3).setN hg 4 v4).setN hg 5 v5).setN hg 6 v6).setN hg 7 v7).setN hg 8 v8).setN hg 9 v9).setN hg 10 v10)
set_option maxHeartbeats 4000000 in
theorem sizeS11 {v0 v1 v2 v3 v4 v5 v6 v7 v8 v9 v10 : Value} (e : (((((((((((w.setCell ⟨g, 0, none⟩ v0).setCell ⟨g, 1, none⟩ v1).setCell ⟨g, 2, none⟩ v2).setCell ⟨g, 3, none⟩ v3).setCell ⟨g, 4, none⟩ v4).setCell ⟨g, 5, none⟩ v5).setCell ⟨g, 6, none⟩ v6).setCell ⟨g, 7, none⟩ v7).setCell ⟨g, 8, none⟩ v8).setCell ⟨g, 9, none⟩ v9).setCell ⟨g, 10, none⟩ v10) = w') : w'.heap.size = w.heap.size := by rw [← e]; simp only [World.setCell, Array.size_modify]
set_option maxHeartbeats 4000000 in
theorem bF11 {cs : Array Value} {v0 v1 v2 v3 v4 v5 v6 v7 v8 v9 v10 : Value} (h : Hid (Bo w q t cs)) (e : (((((((((((w.setCell ⟨g, 0, none⟩ v0).setCell ⟨g, 1, none⟩ v1).setCell ⟨g, 2, none⟩ v2).setCell ⟨g, 3, none⟩ v3).setCell ⟨g, 4, none⟩ v4).setCell ⟨g, 5, none⟩ v5).setCell ⟨g, 6, none⟩ v6).setCell ⟨g, 7, none⟩ v7).setCell ⟨g, 8, none⟩ v8).setCell ⟨g, 9, none⟩ v9).setCell ⟨g, 10, none⟩ v10) = w') (hg : q ≠ g := by omega) : Hid (Bo w' q t cs) := Lib.hid (h.out.far11 e hg)
set_option maxHeartbeats 4000000 in
theorem fN11  {v0 v1 v2 v3 v4 v5 v6 v7 v8 v9 v10 : Value} (h : Hid (FarB q B a w)) (e : (((((((((((w.setCell ⟨g, 0, none⟩ v0).setCell ⟨g, 1, none⟩ v1).setCell ⟨g, 2, none⟩ v2).setCell ⟨g, 3, none⟩ v3).setCell ⟨g, 4, none⟩ v4).setCell ⟨g, 5, none⟩ v5).setCell ⟨g, 6, none⟩ v6).setCell ⟨g, 7, none⟩ v7).setCell ⟨g, 8, none⟩ v8).setCell ⟨g, 9, none⟩ v9).setCell ⟨g, 10, none⟩ v10) = w') (hg : B ≤ g := by omega) : Hid (FarB q B a w') := Lib.hid (h.out.setN11 e hg)
set_option maxHeartbeats 4000000 in
theorem bS11 {a0 a1 a2 a3 a4 a5 a6 a7 a8 a9 a10 : Value} {v0 v1 v2 v3 v4 v5 v6 v7 v8 v9 v10 : Value} (h : Hid (Bo w q t #[a0, a1, a2, a3, a4, a5, a6, a7, a8, a9, a10])) (e : (((((((((((w.setCell ⟨q, 0, none⟩ v0).setCell ⟨q, 1, none⟩ v1).setCell ⟨q, 2, none⟩ v2).setCell ⟨q, 3, none⟩ v3).setCell ⟨q, 4, none⟩ v4).setCell ⟨q, 5, none⟩ v5).setCell ⟨q, 6, none⟩ v6).setCell ⟨q, 7, none⟩ v7).setCell ⟨q, 8, none⟩ v8).setCell ⟨q, 9, none⟩ v9).setCell ⟨q, 10, none⟩ v10) = w') : Hid (Bo w' q t #[v0, v1, v2, v3, v4, v5, v6, v7, v8, v9, v10]) := Lib.hid (h.out.set11 e)
end
section
variable {w w' : World} {g : Nat} {A : Nat → Prop}
set_option maxHeartbeats 4000000 in
theorem rpO11 {ts : List Tk} {aL : Option Addr} {n cap q : Nat} {s : MS} {d : Int} {v0 v1 v2 v3 v4 v5 v6 v7 v8 v9 v10 : Value} (h : Hid (RS ts aL n cap q s d w)) (e : (((((((((((w.setCell ⟨g, 0, none⟩ v0).setCell ⟨g, 1, none⟩ v1).setCell ⟨g, 2, none⟩ v2).setCell ⟨g, 3, none⟩ v3).setCell ⟨g, 4, none⟩ v4).setCell ⟨g, 5, none⟩ v5).setCell ⟨g, 6, none⟩ v6).setCell ⟨g, 7, none⟩ v7).setCell ⟨g, 8, none⟩ v8).setCell ⟨g, 9, none⟩ v9).setCell ⟨g, 10, none⟩ v10) = w') (hg : q < g := by omega) : Hid (RS ts aL n cap q s d w') := Lib.hid (e ▸ (((((((((((h.out.off hg 0 v0).off hg 1 v1).off hg 2 v2).off hg 3 v3).off hg 4 v4).off hg 5 v5).off hg 6 v6).off hg 7 v7).off hg 8 v8).off hg 9 v9).off hg 10 v10))
set_option maxHeartbeats 4000000 in
theorem yS11 {x : At} {y : Value} {v0 v1 v2 v3 v4 v5 v6 v7 v8 v9 v10 : Value} (h : Hid (Mem (NwS A w.heap.size) w x y)) (e : (((((((((((w.setCell ⟨g, 0, none⟩ v0).setCell ⟨g, 1, none⟩ v1).setCell ⟨g, 2, none⟩ v2).setCell ⟨g, 3, none⟩ v3).setCell ⟨g, 4, none⟩ v4).setCell ⟨g, 5, none⟩ v5).setCell ⟨g, 6, none⟩ v6).setCell ⟨g, 7, none⟩ v7).setCell ⟨g, 8, none⟩ v8).setCell ⟨g, 9, none⟩ v9).setCell ⟨g, 10, none⟩ v10) = w') (hg : ¬ A g := by first | (unfold Av; omega) | (unfold Bt; omega)) : Hid (Mem (NwS A w'.heap.size) w' x y) := Lib.hid (e ▸ (memS_set (memS_set (memS_set (memS_set (memS_set (memS_set (memS_set (memS_set (memS_set (memS_set (memS_set h.out hg 0 v0) hg 1 v1) hg 2 v2) hg 3 v3) hg 4 v4) hg 5 v5) hg 6 v6) hg 7 v7) hg 8 v8) hg 9 v9) hg 10 v10))
end
end Go.Proofs.Ytcoiagfeoonpbaa

/-
  Two rows of the call's own, side by side: each stays out of the other. Plain lemmas. No condition.
-/
namespace Go.Proofs.Ytcoiagfeoonpbaa
open Go.RowKit
section
variable {P : Program} {w : World} {t e : TypeId} {z : Value} {sz bytes : Nat} {o : Oper} {act : Act} {K : Act → World → Prop} {Q : Exit → Act → World → Prop}
theorem wp_append_S (s x : Operand) {A : Nat → Prop} {base : Nat} (ho : o.op = .call { callee := .builtin .append, args := #[s, x], argTypes := #[t, t] }) (ht : P.underlying t = some (.slice e)) (hinfo : (P.info? e).map (fun i => (i.zero, i.size, i.bytes)) = some (some z, sz, bytes)) (hz : z.cells.size = sz) (hsz : 0 < sz)
    {y : Value} {rs new : List (List At)} {a : Option Addr} {m c : Nat} (hs : act.eval s = y) (hx : act.eval x = .slice a m c) (h : OwnS A base e sz w y rs) (hnew : new ≠ []) (hM : Mem (fun b => NwS A w.heap.size b ∧ y.ownBlock ≠ some b) w (.s sz new) (.slice a m c)) (hby : (rs.length + new.length) * bytes ≤ 140737488355328) (hbl : rs.length + new.length ≤ 4611686018427387904) (hbase : base ≤ w.heap.size)
    (hK : ∀ v' w', OwnS A base e sz w' v' (rs ++ new) → w.grownBy w' y.ownBlock → (v'.ownBlock = y.ownBlock ∨ ∀ k, v'.ownBlock = some k → w.heap.size ≤ k) → K (act.put o.dst v') w') : Oper.wp P o act w K Q := by
  obtain ⟨v', w', hr, h2, h3, h4⟩ := run_append_S o.type ht hinfo hz hsz h hnew hM hby hbl hbase
  unfold Oper.wp execOp
  simp only [ho, resolve, invoke, builtin, Sem.run_bind, Sem.run_pure, Result.andThen_ok, List.map_toArray, List.map_cons, List.map_nil, hs, hx, hr]
  exact hK _ _ h2 h3 h4
end
structure OwnX (x : Option Nat) (base : Nat) (e : TypeId) (sz : Nat) (w : World) (y : Value) (rs : List (List At)) : Prop where
  ow : OwnS (fun b => base ≤ b ∧ x ≠ some b) base e sz w y rs
  ne : ∀ k, y.ownBlock = some k → x ≠ some k
section
variable {x : Option Nat} {base sz : Nat} {e t : TypeId} {w w' W : World} {y : Value} {rs : List (List At)}
theorem OwnX.nil (x : Option Nat) (base : Nat) (e : TypeId) (sz : Nat) (w : World) : OwnX x base e sz w (.slice none 0 0) [] := ⟨⟨[], World.ownsRow_nil w base e sz, .nil⟩, fun k h => by cases h⟩
theorem OwnX.lt (h : OwnX x base e sz w y rs) : ∀ k, y.ownBlock = some k → base ≤ k ∧ k < w.heap.size := h.ow.lt
theorem OwnX.far {Z : Nat → Prop} (h : OwnX x base e sz w y rs) (hf : Far Z w w') (hz : ∀ b, base ≤ b → ¬ Z b) : OwnX x base e sz w' y rs :=
  ⟨h.ow.farZ hf (fun b hb _ => hz b hb.1) fun b hb _ => hz b hb, h.ne⟩
theorem OwnX.alloc (h : OwnX x base e sz w y rs) (o : Obj) : OwnX x base e sz (w.alloc o) y rs := h.far (Z := fun _ => False) (Far.of (below_new w o)) fun _ _ h => h
theorem OwnX.drew (h : OwnX x base e sz w y rs) : OwnX x base e sz w.drew y rs := h.far (Z := fun _ => False) (Far.of (below_drew w)) fun _ _ h => h
theorem OwnX.farq {q : Nat} (h : OwnX x base e sz w y rs) (hf : FarQ q w w') (hq : q < base) : OwnX x base e sz w' y rs := h.far hf fun b hb e => by have : b = q := e; omega
theorem OwnX.set {g : Nat} (h : OwnX x base e sz w y rs) (hg : g < base) (j : Nat) (v : Value) : OwnX x base e sz (w.setCell ⟨g, j, none⟩ v) y rs :=
  h.far ((Far.refl (fun b => b = g) w).setCell (p := ⟨g, j, none⟩) rfl v) fun b h1 e => by have : b = g := e; omega
theorem OwnX.conv {x' : Option Nat} (h : OwnX x base e sz w y rs) (hx : x' = x ∨ ∀ k, x' = some k → w.heap.size ≤ k) : OwnX x' base e sz w y rs := by
  rcases hx with rfl | hx
  · exact h
  · obtain ⟨css, h1, h2⟩ := h.ow
    refine ⟨⟨css, h1, h2.imp fun r cs ⟨hc, hm⟩ => ⟨hc, hm.imp fun x y' hx' => hx'.mono (fun b hb => ⟨⟨⟨hb.1.1.1, fun e => by have := hx b e; have := hb.1.2; omega⟩, hb.1.2⟩, hb.2⟩) fun _ _ => rfl⟩⟩, fun k hk e => ?_⟩
    have := hx k e
    have := (h.lt k hk).2
    omega
theorem OwnX.other (h : OwnX x base e sz w y rs) (hg : w.grownBy w' x) : OwnX x base e sz w' y rs := by
  refine ⟨?_, h.ne⟩
  obtain ⟨css, h1, h2⟩ := h.ow
  refine ⟨css, ⟨h1.1, ?_⟩, h2.imp fun r cs ⟨hc, hm⟩ => ⟨hc, hm.imp fun x y' hx => hx.mono (fun b hb => ⟨⟨hb.1.1, Nat.lt_of_lt_of_le hb.1.2 hg.size⟩, hb.2⟩) fun b hb => hg.block b hb.1.2 fun e => hb.1.1.2 e.symm⟩⟩
  rcases h1.2 with hn | ⟨g, cap, cur, rfl, hb, hgg, rest⟩
  · exact .inl hn
  · have hg0 := (Array.getElem?_eq_some_iff.1 hgg).1
    exact .inr ⟨g, cap, cur, rfl, hb, (hg.block g hg0 (fun e => h.ne g rfl e.symm)).trans hgg, rest⟩
theorem OwnX.mem (h : OwnX x base e sz w y rs) : Mem (Nw 0 base w.heap.size) w (.s sz rs) y := memS_nw h.ow.mem fun _ hb => hb.elim (fun h => h.1) id
theorem OwnX.other2 {x' : Option Nat} (h : OwnX x base e sz w y rs) (hg : w.grownBy w' x) (hx : x' = x ∨ ∀ k, x' = some k → w.heap.size ≤ k) : OwnX x' base e sz w' y rs := by
  rcases hx with rfl | hx
  · exact h.other hg
  · obtain ⟨css, h1, h2⟩ := h.ow
    refine ⟨⟨css, ⟨h1.1, ?_⟩, h2.imp fun r cs ⟨hc, hm⟩ => ⟨hc, hm.imp fun x y' hx' => hx'.mono (fun b hb => ⟨⟨⟨hb.1.1.1, fun e => by have := hx b e; have := hb.1.2; omega⟩, Nat.lt_of_lt_of_le hb.1.2 hg.size⟩, hb.2⟩) fun b hb => hg.block b hb.1.2 fun e => hb.1.1.2 e.symm⟩⟩, fun k hk e => ?_⟩
    · rcases h1.2 with hn | ⟨g, cap, cur, rfl, hb, hgg, rest⟩
      · exact .inl hn
      · have hg0 := (Array.getElem?_eq_some_iff.1 hgg).1
        exact .inr ⟨g, cap, cur, rfl, hb, (hg.block g hg0 (fun e => h.ne g rfl e.symm)).trans hgg, rest⟩
    · have := hx k e
      have := (h.lt k hk).2
      omega
theorem OwnX.app {v : Value} {rs' : List (List At)} (h : OwnX x base e sz w y rs) (ho : OwnS (fun b => base ≤ b ∧ x ≠ some b) base e sz w' v rs') (hx : ∀ k, x = some k → k < w.heap.size) (hv : v.ownBlock = y.ownBlock ∨ ∀ k, v.ownBlock = some k → w.heap.size ≤ k) : OwnX x base e sz w' v rs' :=
  ⟨ho, fun k hk e => by
    rcases hv with hv | hv
    · exact h.ne k (hv ▸ hk) e
    · have := hv k hk
      have := hx k e
      omega⟩
theorem row_appX {r : List At} {cs : Array Value} (h : OwnX x base t sz W y rs) (hx : ∀ k, x = some k → k < W.heap.size) (hb : base ≤ W.heap.size) (hs : W.heap.size ≤ w.heap.size) (hr : All2 (Mem (Nw 0 W.heap.size w.heap.size) w) r cs.toList) (hsz : cs.toList.length = sz) :
    Mem (fun b => NwS (fun b => base ≤ b ∧ x ≠ some b) (w.alloc (.cells cs t)).heap.size b ∧ y.ownBlock ≠ some b) (w.alloc (.cells cs t)) (.s sz [r]) (.slice (some ⟨w.heap.size, 0, none⟩) 1 1) :=
  (row_new hr hsz hs).mem.mono (fun b hb' => by
    have h1 : W.heap.size ≤ b := by rcases hb'.1 with h | h <;> omega
    refine ⟨⟨⟨by omega, fun e => ?_⟩, hb'.2⟩, fun e => ?_⟩
    · have := hx b e; omega
    · have := (h.lt b e).2; omega) fun _ _ => rfl
end
section
variable {x : Option Nat} {base sz : Nat} {e : TypeId} {w w' : World} {y : Value} {rs : List (List At)}
theorem qxO {q : Nat} (h : Hid (OwnX x base e sz w y rs)) (hf : FarQ q w w') (hq : q < base := by omega) : Hid (OwnX x base e sz w' y rs) := Lib.hid (h.out.farq hf hq)
theorem oxS1 {g j : Nat} {v0 : Value} (h : Hid (OwnX x base e sz w y rs)) (ee : (w.setCell ⟨g, j, none⟩ v0) = w') (hg : g < base := by omega) : Hid (OwnX x base e sz w' y rs) := Lib.hid (ee ▸ (h.out.set hg j v0))
end
end Go.Proofs.Ytcoiagfeoonpbaa
