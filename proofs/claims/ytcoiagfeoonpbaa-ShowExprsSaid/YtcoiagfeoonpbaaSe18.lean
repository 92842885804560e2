/-
 expr.run: a reading function at a place; what is thrown is told. Under no condition but how the tokens lie.
-/
import Derived.Test.YtcoiagfeoonpbaaSe17
import Derived.Test.YtcoiagfeoonpbaaSe16
import Derived.Test.YtcoiagfeoonpbaaSe14
namespace Go.Proofs.Ytcoiagfeoonpbaa
open Go.RowKit
section
variable {ts : List Tk} {aL : Option Addr} {n cap q : Nat}
set_option maxRecDepth 100000 in
set_option maxHeartbeats 20000000 in
theorem of1_any {F i : Nat} {r : Rd1} (hr : readE ts F .expr i 0 = some r) (w : World) (hp : PS ts aL n cap q i ((0 : Nat) : Int) w) :
  Calls Try.prog 57 #[.pointer (some ⟨q, 0, none⟩)] w (Ans ts aL n cap q r 0 w) := by
 have HP := Lib.hid hp
 have hq0 := hp.lt
 have HF := Lib.hid (FarB.refl q w.heap.size w)
 have HA := (allR ts aL n cap q (F + 1)).ex
 clear hp
 go_enter Try.func57, Try.ntmps57
 go_wp2_with (fail)
 generalize ee : (w.alloc (.cells #[.int .i64 0, .string ⟨#[]⟩, .int .i64 0, .slice none 0 0, .int .i64 0, .int .i64 0] 27)) = w1 at *
 have hsa1 := sizeA ee
 replace HP := pA HP ee
 replace HF := fA HF ee
 have HBr := nB ee (w.heap.size)
 clear ee
 have qc := kcP HP
 have rc := kc6 HBr
 have hI := iq_0_0 q w w1
 have hZ := iq_01 q w
 cases r with
 | bad l_ c_ =>
  clear qc rc
  refine (HA F (Nat.lt_succ_self F) i 0 _ _ (Nat.zero_le _) hr HP.out).mono ?_
  rintro _ w2 ⟨rfl, hf, hbo⟩
  go_wp2_with (fail)
  exact ⟨rfl, rfl, FarB.out (HF.out.farq hf), hbo⟩
 | ok x j =>
  clear qc rc
  refine (HA F (Nat.lt_succ_self F) i 0 _ _ (Nat.zero_le _) hr HP.out).mono ?_
  rintro _ w2 ⟨ax, mx, cx, rfl, hf, hp, hm⟩
  replace HBr := qB HBr hf
  replace HF := qF HF hf
  have hs2 := hf.size
  replace HP := Lib.hid hp
  have HMx := Lib.hid hm
  clear hf hp hm
  simp only [exV]
  clear hI hZ
  have qc := kcP HP
  have rc := kc6 HBr
  have hI := iq_0_0 q w w2
  go_wp2_with (fail)
  clear qc rc
  generalize ee : ((((((w2.setCell ⟨w.heap.size, 0, none⟩ (.int .i64 x.kind)).setCell ⟨w.heap.size, 1, none⟩ (.string x.name)).setCell ⟨w.heap.size, 2, none⟩ (.int .i64 x.n)).setCell ⟨w.heap.size, 3, none⟩ (.slice ax mx cx)).setCell ⟨w.heap.size, 4, none⟩ (.int .i64 x.line)).setCell ⟨w.heap.size, 5, none⟩ (.int .i64 x.col)) = w3 at *
  have hsz3 := sizeS6 ee
  replace HP := pO6 HP ee
  replace HF := fN6 HF ee
  replace HBr := bS6 HBr ee
  replace HMx := mS6 HMx ee
  clear ee
  clear hI
  have fc := kc6 HBr
  refine bodyPost_ret (v := .agg #[.int .i64 x.kind, .string x.name, .int .i64 x.n, .slice ax mx cx, .int .i64 x.line, .int .i64 x.col]) (by clear HP HF HBr HMx; simp [results, Try.results57, go_sem, fc]) rfl ?_
  exact ⟨_, _, _, rfl, HF.out.out, HP.out, memNw HMx.out (by omega)⟩
theorem wp_nopanic {P : Program} {c : Code} {Q : Exit → Act → World → Prop} {a : Act} {w : World} (h : c.wp P (fun e a w => match e with | .panic _ => False | e => Q e a w) a w) : c.wp P Q a w :=
 Code.wp_mono (fun e a w h => by cases e <;> first | exact h | exact h.elim) h
def RunAns (r : Rd1) (W : World) (e : Ending) (w' : World) : Prop :=
 match r with
 | .ok x j => ∃ a m c, e = .returned (.tuple #[exV x a m c, .int .i64 (j : Int), .agg #[.int .i64 0, .int .i64 0, .int .i64 0]]) ∧ Below W.heap.size W w' ∧ Mem (Nw 0 W.heap.size w'.heap.size) w' (.s 6 (Ex.rows x.args)) (.slice a m c)
 | .bad l c => e = .returned (.tuple #[.agg #[.int .i64 0, .string ⟨#[]⟩, .int .i64 0, .slice none 0 0, .int .i64 0, .int .i64 0], .int .i64 0, .agg #[.int .i64 1, .int .i64 l, .int .i64 c]]) ∧ Below W.heap.size W w'
set_option maxRecDepth 100000 in
set_option maxHeartbeats 20000000 in
theorem run_of_neg {F : Nat} {i : Int} (hi : i < 0) {r : Rd1} (w : World) (h : MemW w (.s 5 (tkRows ts)) (.slice aL n cap)) (hn : n ≤ 1048576) (hr : readE ts F .expr 0 0 = some r) :
  Calls Try.prog 56 #[.slice aL n cap, .int .i64 i, .func (.func 57) #[] #[]] w (RunAns r w) := by
 have H := Lib.hid h
 have hmf : ∀ (fn : Fn) (first cap : Array Value) (w : World), (Instr.makeFunc fn first cap).run Try.prog w = .ok (.func fn first cap) w := fun _ _ _ _ => rfl
 have hE : ∀ args w, Sem.run Try.prog (callFunc 57 args) w = .ok (.enter 57 args) w := fun _ _ => by kernel_rfl
 clear h
 go_enter_defers Try.func56, Try.ntmps56
 go_wp2_with (fail)
 have hs1 : ((((w.alloc (.cells #[.int .i64 0, .string ⟨#[]⟩, .int .i64 0, .slice none 0 0, .int .i64 0, .int .i64 0] 27)).alloc (.cells #[.int .i64 0] 3)).alloc (.cells #[.int .i64 0, .int .i64 0, .int .i64 0] 30)).alloc (.cells #[.slice aL n cap, .int .i64 0, .int .i64 0] 143)).heap.size = w.heap.size + 1 + 1 + 1 + 1 := by simp only [World.size_alloc]
 have HBe : Hid (Bo ((((w.alloc (.cells #[.int .i64 0, .string ⟨#[]⟩, .int .i64 0, .slice none 0 0, .int .i64 0, .int .i64 0] 27)).alloc (.cells #[.int .i64 0] 3)).alloc (.cells #[.int .i64 0, .int .i64 0, .int .i64 0] 30)).alloc (.cells #[.slice aL n cap, .int .i64 0, .int .i64 0] 143)) w.heap.size 27 #[.int .i64 0, .string ⟨#[]⟩, .int .i64 0, .slice none 0 0, .int .i64 0, .int .i64 0]) := Lib.hid ((((Bo.new w 27 #[.int .i64 0, .string ⟨#[]⟩, .int .i64 0, .slice none 0 0, .int .i64 0, .int .i64 0]).alloc _).alloc _).alloc _)
 have HBn : Hid (Bo ((((w.alloc (.cells #[.int .i64 0, .string ⟨#[]⟩, .int .i64 0, .slice none 0 0, .int .i64 0, .int .i64 0] 27)).alloc (.cells #[.int .i64 0] 3)).alloc (.cells #[.int .i64 0, .int .i64 0, .int .i64 0] 30)).alloc (.cells #[.slice aL n cap, .int .i64 0, .int .i64 0] 143)) (w.heap.size + 1) 3 #[.int .i64 0]) := Lib.hid ((((by have h := Bo.new (w.alloc (.cells #[.int .i64 0, .string ⟨#[]⟩, .int .i64 0, .slice none 0 0, .int .i64 0, .int .i64 0] 27)) 3 #[.int .i64 0]; rw [World.size_alloc] at h; exact h : Bo ((w.alloc (.cells #[.int .i64 0, .string ⟨#[]⟩, .int .i64 0, .slice none 0 0, .int .i64 0, .int .i64 0] 27)).alloc (.cells #[.int .i64 0] 3)) (w.heap.size + 1) 3 #[.int .i64 0])).alloc _).alloc _)
 have HBf : Hid (Bo ((((w.alloc (.cells #[.int .i64 0, .string ⟨#[]⟩, .int .i64 0, .slice none 0 0, .int .i64 0, .int .i64 0] 27)).alloc (.cells #[.int .i64 0] 3)).alloc (.cells #[.int .i64 0, .int .i64 0, .int .i64 0] 30)).alloc (.cells #[.slice aL n cap, .int .i64 0, .int .i64 0] 143)) (w.heap.size + 1 + 1) 30 #[.int .i64 0, .int .i64 0, .int .i64 0]) := Lib.hid (((by have h := Bo.new ((w.alloc (.cells #[.int .i64 0, .string ⟨#[]⟩, .int .i64 0, .slice none 0 0, .int .i64 0, .int .i64 0] 27)).alloc (.cells #[.int .i64 0] 3)) 30 #[.int .i64 0, .int .i64 0, .int .i64 0]; rw [World.size_alloc, World.size_alloc] at h; exact h : Bo (((w.alloc (.cells #[.int .i64 0, .string ⟨#[]⟩, .int .i64 0, .slice none 0 0, .int .i64 0, .int .i64 0] 27)).alloc (.cells #[.int .i64 0] 3)).alloc (.cells #[.int .i64 0, .int .i64 0, .int .i64 0] 30)) (w.heap.size + 1 + 1) 30 #[.int .i64 0, .int .i64 0, .int .i64 0])).alloc _)
 have hbo : Bo ((((w.alloc (.cells #[.int .i64 0, .string ⟨#[]⟩, .int .i64 0, .slice none 0 0, .int .i64 0, .int .i64 0] 27)).alloc (.cells #[.int .i64 0] 3)).alloc (.cells #[.int .i64 0, .int .i64 0, .int .i64 0] 30)).alloc (.cells #[.slice aL n cap, .int .i64 0, .int .i64 0] 143)) (w.heap.size + 1 + 1 + 1) 143 #[.slice aL n cap, .int .i64 0, .int .i64 0] := by have h := Bo.new (((w.alloc (.cells #[.int .i64 0, .string ⟨#[]⟩, .int .i64 0, .slice none 0 0, .int .i64 0, .int .i64 0] 27)).alloc (.cells #[.int .i64 0] 3)).alloc (.cells #[.int .i64 0, .int .i64 0, .int .i64 0] 30)) 143 #[.slice aL n cap, .int .i64 0, .int .i64 0]; rw [World.size_alloc, World.size_alloc, World.size_alloc] at h; exact h
 have hbel : Below w.heap.size w ((((w.alloc (.cells #[.int .i64 0, .string ⟨#[]⟩, .int .i64 0, .slice none 0 0, .int .i64 0, .int .i64 0] 27)).alloc (.cells #[.int .i64 0] 3)).alloc (.cells #[.int .i64 0, .int .i64 0, .int .i64 0] 30)).alloc (.cells #[.slice aL n cap, .int .i64 0, .int .i64 0] 143)) := (((below_new w _).alloc (by simp) _).alloc (by simp only [World.size_alloc]; omega) _).alloc (by simp only [World.size_alloc]; omega) _
 have htk := H.out.keep hbel
 generalize ((((w.alloc (.cells #[.int .i64 0, .string ⟨#[]⟩, .int .i64 0, .slice none 0 0, .int .i64 0, .int .i64 0] 27)).alloc (.cells #[.int .i64 0] 3)).alloc (.cells #[.int .i64 0, .int .i64 0, .int .i64 0] 30)).alloc (.cells #[.slice aL n cap, .int .i64 0, .int .i64 0] 143)) = w1 at *
 have htk2 : Mem (· < w.heap.size + 1 + 1 + 1) w1 (.s 5 (tkRows ts)) (.slice aL n cap) := (Mem.keep H.out (Nat.le_refl _) hbel).le (by omega)
 generalize hq : w.heap.size + 1 + 1 + 1 = q at *
 have HP : Hid (PS ts aL n cap q 0 ((0 : Nat) : Int) w1) := Lib.hid ⟨hbo, htk2, hn⟩
 have HF : Hid (FarB q w.heap.size w w1) := Lib.hid (Far.of hbel)
 have hq1 : w.heap.size + 1 + 1 < q := by omega
 have hs2 : w1.heap.size = q + 1 := by omega
 clear hq hs1 hbo htk htk2 hbel
 cases r with
 | bad l_ c_ =>
  refine (of1_any hr _ HP.out).mono ?_
  rintro _ w2 ⟨rfl, hf, hbo⟩
  replace HBe := qB HBe hf
  replace HBn := qB HBn hf
  replace HBf := qB HBf hf
  replace HF := qF HF hf
  have hs2 := hf.size
  go_wp2_with (fail)
  refine leaves_cons (f := 88) (args := #[.pointer (some ⟨w.heap.size, 0, none⟩), .pointer (some ⟨w.heap.size + 1, 0, none⟩), .pointer (some ⟨w.heap.size + 1 + 1, 0, none⟩)]) (by simp) (by simp [go_sem]) ?_
  refine (caught_fault w2 l_ c_ (by omega) (by omega) HBe.out HBn.out HBf.out).mono ?_
  rintro e u w3 ⟨rfl, hu, hf3, g0, g1, g2⟩
  show Leaves _ _ _ _ [] (settle u) w3
  rw [hu]
  have x0 := g0.cell (j := 0) rfl; have x1 := g0.cell (j := 1) rfl; have x2 := g0.cell (j := 2) rfl; have x3 := g0.cell (j := 3) rfl; have x4 := g0.cell (j := 4) rfl; have x5 := g0.cell (j := 5) rfl; have y0 := g1.cell (j := 0) rfl; have z0 := g2.cell (j := 0) rfl; have z1 := g2.cell (j := 1) rfl; have z2 := g2.cell (j := 2) rfl
  refine ⟨_, ?_, rfl, ?_⟩
  · (clear HF HBe HBn HBf H g0 g1 g2 hf3; simp [results, Try.results56, go_sem, x0, x1, x2, x3, x4, x5, y0, z0, z1, z2])
  · exact Far.toB (Far.trans (Far.mono HF.out (fun b e => by rcases e with e | e <;> omega)) (Far.mono hf3 (fun b e => by rcases e with e | e | e <;> omega))) (Nat.le_refl _)
 | ok x j =>
  refine (of1_any hr _ HP.out).mono ?_
  rintro _ w2 ⟨ax, mx, cx, rfl, hf, hp, hm⟩
  replace HBe := qB HBe hf
  replace HBn := qB HBn hf
  replace HBf := qB HBf hf
  replace HF := qF HF hf
  have hs2 := hf.size
  replace HP := Lib.hid hp
  have HMx := Lib.hid hm
  clear hf hp hm
  simp only [exV]
  have HBq := Lib.hid HP.out.bo
  clear HP
  have ec := kc6 HBe; have nc := kc1 HBn; have fc := kc3 HBf; have qc := kc3 HBq
  have hI := i01_q_q_0 w (w.heap.size + 1 + 1) q w2
  go_wp2_with (fail)
  clear ec nc fc qc
  generalize ee : ((((((w2.setCell ⟨w.heap.size, 0, none⟩ (.int .i64 x.kind)).setCell ⟨w.heap.size, 1, none⟩ (.string x.name)).setCell ⟨w.heap.size, 2, none⟩ (.int .i64 x.n)).setCell ⟨w.heap.size, 3, none⟩ (.slice ax mx cx)).setCell ⟨w.heap.size, 4, none⟩ (.int .i64 x.line)).setCell ⟨w.heap.size, 5, none⟩ (.int .i64 x.col)) = w3 at *
  have hsz3 := sizeS6 ee
  replace HF := fN6 HF ee
  replace HBe := bS6 HBe ee
  replace HBn := bF6 HBn ee
  replace HBf := bF6 HBf ee
  replace HBq := bF6 HBq ee
  replace HMx := mS6 HMx ee
  clear ee
  clear hI
  have ec := kc6 HBe; have nc := kc1 HBn; have fc := kc3 HBf; have qc := kc3 HBq
  have hI := i01_q_q_0 w (w.heap.size + 1 + 1) q w3
  have hZ := i01_q_q_0 w (w.heap.size + 1 + 1) q w2
  refine wp_nopanic ?_
  refine wp_region_held_drew (S := fun w' => Far (fun b => b = w.heap.size ∨ b = w.heap.size + 1 ∨ b = w.heap.size + 1 + 1) (w3) w') (by kernel_rfl) (Far.of (below_drew _)) (fun hS10 => ?_)
  refine takeA 1 (v := ?_) rfl ?_ ?_
  rotate_left
  · (intro w hSw; (try dsimp only at hSw); replace qc := Far.c3z qc hSw (by intro e; rcases e with e | e | e <;> omega); go_simp; try with_reducible rfl)
  try simp only [Act.put, pu1, pu2, pu3]
  refine takeA 2 (v := ?_) rfl ?_ ?_
  rotate_left
  · (intro w hSw; (try dsimp only at hSw); replace qc := Far.c3z qc hSw (by intro e; rcases e with e | e | e <;> omega); go_simp; try with_reducible rfl)
  try simp only [Act.put, pu1, pu2, pu3]
  refine takeA 3 (v := ?_) rfl ?_ ?_
  rotate_left
  · (intro w hSw; (try dsimp only at hSw); replace qc := Far.c3z qc hSw (by intro e; rcases e with e | e | e <;> omega); go_simp; try with_reducible rfl)
  try simp only [Act.put, pu1, pu2, pu3]
  refine takeA 4 (v := ?_) rfl ?_ ?_
  rotate_left
  · (intro w hSw; (try dsimp only at hSw); replace qc := Far.c3z qc hSw (by intro e; rcases e with e | e | e <;> omega); go_simp; try with_reducible rfl)
  try simp only [Act.put, pu1, pu2, pu3]
  refine takeA 5 (v := ?_) rfl ?_ ?_
  rotate_left
  · (intro w hSw; (try dsimp only at hSw); replace qc := Far.c3z qc hSw (by intro e; rcases e with e | e | e <;> omega); go_simp; try with_reducible rfl)
  try simp only [Act.put, pu1, pu2, pu3]

  refine callA 0 rfl fun K hK => ?_
  go_simp
  refine hK.out _ _ ?_ (fun hS11 => ?_)
  · exact hS10
  clear hK K
  refine callA 6 rfl fun K hK => ?_
  go_simp
  refine hK.out _ _ ?_ (fun hS12 => ?_)
  · exact (by refine Far.trans ?_ (Far.of (below_drew _)); (iterate 6 (refine Far.setCell (p := ⟨w.heap.size, _, none⟩) ?_ (.inl rfl) _)); exact Far.refl _ _)
  clear hK K

  clear ec nc fc qc
  generalize ee : ((((((w3.setCell ⟨w.heap.size, 0, none⟩ (.int .i64 x.kind)).setCell ⟨w.heap.size, 1, none⟩ (.string x.name)).setCell ⟨w.heap.size, 2, none⟩ (.int .i64 x.n)).setCell ⟨w.heap.size, 3, none⟩ (.slice ax mx cx)).setCell ⟨w.heap.size, 4, none⟩ (.int .i64 x.line)).setCell ⟨w.heap.size, 5, none⟩ (.int .i64 x.col)) = w4_1 at *
  have hq1 := sizeS6 ee
  replace HF := fN6 HF ee
  replace HBe := bS6 HBe ee
  replace HBn := bF6 HBn ee
  replace HBf := bF6 HBf ee
  replace HBq := bF6 HBq ee
  replace HMx := mS6 HMx ee
  clear ee
  generalize ee : (w4_1.drew) = w4 at *
  have hq2 := sizeD ee
  replace HF := fD HF ee
  replace HBe := bD HBe ee
  replace HBn := bD HBn ee
  replace HBf := bD HBf ee
  replace HBq := bD HBq ee
  replace HMx := mD HMx ee
  clear ee
  have hsa4 : w4.heap.size = w2.heap.size + 0 := by omega
  clear hq1 hq2
  clear hI hZ
  have ec := kc6 HBe; have nc := kc1 HBn; have fc := kc3 HBf; have qc := kc3 HBq
  have hI := i01_q_q_0 w (w.heap.size + 1 + 1) q w4
  have hZ := i01_q_q_0 w (w.heap.size + 1 + 1) q w2
  refine callA 7 rfl fun K hK => ?_
  go_simp
  refine hK.out _ _ ?_ (fun hS13 => ?_)
  · exact Far.setCell (p := ⟨w.heap.size + 1, 0, none⟩) hS12 (.inr (.inl rfl)) _
  clear hK K

  clear ec nc fc qc
  generalize ee : (w4.setCell ⟨(w.heap.size + 1), 0, none⟩ (.int .i64 (j : Int))) = w5 at *
  have hsz5 := sizeS1 ee
  replace HF := fN1 HF ee
  replace HBe := bF1 HBe ee
  replace HBn : Hid (Bo w5 (w.heap.size + 1) 3 #[.int .i64 (j : Int)]) := Lib.hid (by rw [← ee]; exact HBn.out.set 0 (.int .i64 (j : Int)))
  replace HBf := bF1 HBf ee
  replace HBq := bF1 HBq ee
  replace HMx := mS1 HMx ee
  clear ee
  clear hI hZ
  have ec := kc6 HBe; have nc := kc1 HBn; have fc := kc3 HBf; have qc := kc3 HBq
  have hI := i01_q_q_0 w (w.heap.size + 1 + 1) q w5
  have hZ := i01_q_q_0 w (w.heap.size + 1 + 1) q w2
  refine callA 8 rfl fun K hK => ?_
  go_simp
  refine hK.out _ _ ?_ (fun hS14 => ?_)
  · exact Far.setCell (p := ⟨w.heap.size + 1 + 1, 2, none⟩) (Far.setCell (p := ⟨w.heap.size + 1 + 1, 1, none⟩) (Far.setCell (p := ⟨w.heap.size + 1 + 1, 0, none⟩) hS13 (.inr (.inr rfl)) _) (.inr (.inr rfl)) _) (.inr (.inr rfl)) _
  clear hK K
  refine wpAnyH_done (by kernel_rfl) ?_ _

  clear ec nc fc qc
  generalize ee : (((w5.setCell ⟨(w.heap.size + 1 + 1), 0, none⟩ (.int .i64 0)).setCell ⟨(w.heap.size + 1 + 1), 1, none⟩ (.int .i64 0)).setCell ⟨(w.heap.size + 1 + 1), 2, none⟩ (.int .i64 0)) = w6 at *
  have hsz6 := sizeS3 ee
  replace HF := fN3 HF ee
  replace HBe := bF3 HBe ee
  replace HBn := bF3 HBn ee
  replace HBf := bS3 HBf ee
  replace HBq := bF3 HBq ee
  replace HMx := mS3 HMx ee
  clear ee
  clear hI hZ
  show Exit.then _ _ Exit.normal _ _
  go_wp2_with (fail)
  refine leaves_cons (f := 88) (args := #[.pointer (some ⟨w.heap.size, 0, none⟩), .pointer (some ⟨w.heap.size + 1, 0, none⟩), .pointer (some ⟨w.heap.size + 1 + 1, 0, none⟩)]) (by simp) (by simp [go_sem]) ?_
  refine (caught_none _).mono ?_
  rintro e u w9 ⟨rfl, rfl, rfl⟩
  have x0 := HBe.out.cell (j := 0) rfl; have x1 := HBe.out.cell (j := 1) rfl; have x2 := HBe.out.cell (j := 2) rfl; have x3 := HBe.out.cell (j := 3) rfl; have x4 := HBe.out.cell (j := 4) rfl; have x5 := HBe.out.cell (j := 5) rfl; have y0 := HBn.out.cell (j := 0) rfl; have z0 := HBf.out.cell (j := 0) rfl; have z1 := HBf.out.cell (j := 1) rfl; have z2 := HBf.out.cell (j := 2) rfl
  refine ⟨.tuple #[exV x ax mx cx, .int .i64 (j : Int), .agg #[.int .i64 0, .int .i64 0, .int .i64 0]], ?_, ax, mx, cx, rfl, ?_, memNw HMx.out (by omega)⟩
  · (clear HF HBe HBn HBf HBq HMx H; simp [results, Try.results56, go_sem, exV, x0, x1, x2, x3, x4, x5, y0, z0, z1, z2])
  · exact Far.toB (Far.mono HF.out (fun b e => by rcases e with e | e <;> omega)) (Nat.le_refl _)
set_option maxRecDepth 100000 in
set_option maxHeartbeats 20000000 in
theorem run_of_pos {F : Nat} {k : Nat} {r : Rd1} (w : World) (h : MemW w (.s 5 (tkRows ts)) (.slice aL n cap)) (hn : n ≤ 1048576) (hr : readE ts F .expr k 0 = some r) :
  Calls Try.prog 56 #[.slice aL n cap, .int .i64 (k : Int), .func (.func 57) #[] #[]] w (RunAns r w) := by
 have H := Lib.hid h
 have hmf : ∀ (fn : Fn) (first cap : Array Value) (w : World), (Instr.makeFunc fn first cap).run Try.prog w = .ok (.func fn first cap) w := fun _ _ _ _ => rfl
 have hE : ∀ args w, Sem.run Try.prog (callFunc 57 args) w = .ok (.enter 57 args) w := fun _ _ => by kernel_rfl
 clear h
 go_enter_defers Try.func56, Try.ntmps56
 go_wp2_with (fail)
 have hs1 : ((((w.alloc (.cells #[.int .i64 0, .string ⟨#[]⟩, .int .i64 0, .slice none 0 0, .int .i64 0, .int .i64 0] 27)).alloc (.cells #[.int .i64 0] 3)).alloc (.cells #[.int .i64 0, .int .i64 0, .int .i64 0] 30)).alloc (.cells #[.slice aL n cap, .int .i64 (k : Int), .int .i64 0] 143)).heap.size = w.heap.size + 1 + 1 + 1 + 1 := by simp only [World.size_alloc]
 have HBe : Hid (Bo ((((w.alloc (.cells #[.int .i64 0, .string ⟨#[]⟩, .int .i64 0, .slice none 0 0, .int .i64 0, .int .i64 0] 27)).alloc (.cells #[.int .i64 0] 3)).alloc (.cells #[.int .i64 0, .int .i64 0, .int .i64 0] 30)).alloc (.cells #[.slice aL n cap, .int .i64 (k : Int), .int .i64 0] 143)) w.heap.size 27 #[.int .i64 0, .string ⟨#[]⟩, .int .i64 0, .slice none 0 0, .int .i64 0, .int .i64 0]) := Lib.hid ((((Bo.new w 27 #[.int .i64 0, .string ⟨#[]⟩, .int .i64 0, .slice none 0 0, .int .i64 0, .int .i64 0]).alloc _).alloc _).alloc _)
 have HBn : Hid (Bo ((((w.alloc (.cells #[.int .i64 0, .string ⟨#[]⟩, .int .i64 0, .slice none 0 0, .int .i64 0, .int .i64 0] 27)).alloc (.cells #[.int .i64 0] 3)).alloc (.cells #[.int .i64 0, .int .i64 0, .int .i64 0] 30)).alloc (.cells #[.slice aL n cap, .int .i64 (k : Int), .int .i64 0] 143)) (w.heap.size + 1) 3 #[.int .i64 0]) := Lib.hid ((((by have h := Bo.new (w.alloc (.cells #[.int .i64 0, .string ⟨#[]⟩, .int .i64 0, .slice none 0 0, .int .i64 0, .int .i64 0] 27)) 3 #[.int .i64 0]; rw [World.size_alloc] at h; exact h : Bo ((w.alloc (.cells #[.int .i64 0, .string ⟨#[]⟩, .int .i64 0, .slice none 0 0, .int .i64 0, .int .i64 0] 27)).alloc (.cells #[.int .i64 0] 3)) (w.heap.size + 1) 3 #[.int .i64 0])).alloc _).alloc _)
 have HBf : Hid (Bo ((((w.alloc (.cells #[.int .i64 0, .string ⟨#[]⟩, .int .i64 0, .slice none 0 0, .int .i64 0, .int .i64 0] 27)).alloc (.cells #[.int .i64 0] 3)).alloc (.cells #[.int .i64 0, .int .i64 0, .int .i64 0] 30)).alloc (.cells #[.slice aL n cap, .int .i64 (k : Int), .int .i64 0] 143)) (w.heap.size + 1 + 1) 30 #[.int .i64 0, .int .i64 0, .int .i64 0]) := Lib.hid (((by have h := Bo.new ((w.alloc (.cells #[.int .i64 0, .string ⟨#[]⟩, .int .i64 0, .slice none 0 0, .int .i64 0, .int .i64 0] 27)).alloc (.cells #[.int .i64 0] 3)) 30 #[.int .i64 0, .int .i64 0, .int .i64 0]; rw [World.size_alloc, World.size_alloc] at h; exact h : Bo (((w.alloc (.cells #[.int .i64 0, .string ⟨#[]⟩, .int .i64 0, .slice none 0 0, .int .i64 0, .int .i64 0] 27)).alloc (.cells #[.int .i64 0] 3)).alloc (.cells #[.int .i64 0, .int .i64 0, .int .i64 0] 30)) (w.heap.size + 1 + 1) 30 #[.int .i64 0, .int .i64 0, .int .i64 0])).alloc _)
 have hbo : Bo ((((w.alloc (.cells #[.int .i64 0, .string ⟨#[]⟩, .int .i64 0, .slice none 0 0, .int .i64 0, .int .i64 0] 27)).alloc (.cells #[.int .i64 0] 3)).alloc (.cells #[.int .i64 0, .int .i64 0, .int .i64 0] 30)).alloc (.cells #[.slice aL n cap, .int .i64 (k : Int), .int .i64 0] 143)) (w.heap.size + 1 + 1 + 1) 143 #[.slice aL n cap, .int .i64 (k : Int), .int .i64 0] := by have h := Bo.new (((w.alloc (.cells #[.int .i64 0, .string ⟨#[]⟩, .int .i64 0, .slice none 0 0, .int .i64 0, .int .i64 0] 27)).alloc (.cells #[.int .i64 0] 3)).alloc (.cells #[.int .i64 0, .int .i64 0, .int .i64 0] 30)) 143 #[.slice aL n cap, .int .i64 (k : Int), .int .i64 0]; rw [World.size_alloc, World.size_alloc, World.size_alloc] at h; exact h
 have hbel : Below w.heap.size w ((((w.alloc (.cells #[.int .i64 0, .string ⟨#[]⟩, .int .i64 0, .slice none 0 0, .int .i64 0, .int .i64 0] 27)).alloc (.cells #[.int .i64 0] 3)).alloc (.cells #[.int .i64 0, .int .i64 0, .int .i64 0] 30)).alloc (.cells #[.slice aL n cap, .int .i64 (k : Int), .int .i64 0] 143)) := (((below_new w _).alloc (by simp) _).alloc (by simp only [World.size_alloc]; omega) _).alloc (by simp only [World.size_alloc]; omega) _
 have htk := H.out.keep hbel
 generalize ((((w.alloc (.cells #[.int .i64 0, .string ⟨#[]⟩, .int .i64 0, .slice none 0 0, .int .i64 0, .int .i64 0] 27)).alloc (.cells #[.int .i64 0] 3)).alloc (.cells #[.int .i64 0, .int .i64 0, .int .i64 0] 30)).alloc (.cells #[.slice aL n cap, .int .i64 (k : Int), .int .i64 0] 143)) = w1 at *
 have htk2 : Mem (· < w.heap.size + 1 + 1 + 1) w1 (.s 5 (tkRows ts)) (.slice aL n cap) := (Mem.keep H.out (Nat.le_refl _) hbel).le (by omega)
 generalize hq : w.heap.size + 1 + 1 + 1 = q at *
 have HP : Hid (PS ts aL n cap q k ((0 : Nat) : Int) w1) := Lib.hid ⟨hbo, htk2, hn⟩
 have HF : Hid (FarB q w.heap.size w w1) := Lib.hid (Far.of hbel)
 have hq1 : w.heap.size + 1 + 1 < q := by omega
 have hs2 : w1.heap.size = q + 1 := by omega
 clear hq hs1 hbo htk htk2 hbel
 cases r with
 | bad l_ c_ =>
  refine (of1_any hr _ HP.out).mono ?_
  rintro _ w2 ⟨rfl, hf, hbo⟩
  replace HBe := qB HBe hf
  replace HBn := qB HBn hf
  replace HBf := qB HBf hf
  replace HF := qF HF hf
  have hs2 := hf.size
  go_wp2_with (fail)
  refine leaves_cons (f := 88) (args := #[.pointer (some ⟨w.heap.size, 0, none⟩), .pointer (some ⟨w.heap.size + 1, 0, none⟩), .pointer (some ⟨w.heap.size + 1 + 1, 0, none⟩)]) (by simp) (by simp [go_sem]) ?_
  refine (caught_fault w2 l_ c_ (by omega) (by omega) HBe.out HBn.out HBf.out).mono ?_
  rintro e u w3 ⟨rfl, hu, hf3, g0, g1, g2⟩
  show Leaves _ _ _ _ [] (settle u) w3
  rw [hu]
  have x0 := g0.cell (j := 0) rfl; have x1 := g0.cell (j := 1) rfl; have x2 := g0.cell (j := 2) rfl; have x3 := g0.cell (j := 3) rfl; have x4 := g0.cell (j := 4) rfl; have x5 := g0.cell (j := 5) rfl; have y0 := g1.cell (j := 0) rfl; have z0 := g2.cell (j := 0) rfl; have z1 := g2.cell (j := 1) rfl; have z2 := g2.cell (j := 2) rfl
  refine ⟨_, ?_, rfl, ?_⟩
  · (clear HF HBe HBn HBf H g0 g1 g2 hf3; simp [results, Try.results56, go_sem, x0, x1, x2, x3, x4, x5, y0, z0, z1, z2])
  · exact Far.toB (Far.trans (Far.mono HF.out (fun b e => by rcases e with e | e <;> omega)) (Far.mono hf3 (fun b e => by rcases e with e | e | e <;> omega))) (Nat.le_refl _)
 | ok x j =>
  refine (of1_any hr _ HP.out).mono ?_
  rintro _ w2 ⟨ax, mx, cx, rfl, hf, hp, hm⟩
  replace HBe := qB HBe hf
  replace HBn := qB HBn hf
  replace HBf := qB HBf hf
  replace HF := qF HF hf
  have hs2 := hf.size
  replace HP := Lib.hid hp
  have HMx := Lib.hid hm
  clear hf hp hm
  simp only [exV]
  have HBq := Lib.hid HP.out.bo
  clear HP
  have ec := kc6 HBe; have nc := kc1 HBn; have fc := kc3 HBf; have qc := kc3 HBq
  have hI := i01_q_q_0 w (w.heap.size + 1 + 1) q w2
  go_wp2_with (fail)
  clear ec nc fc qc
  generalize ee : ((((((w2.setCell ⟨w.heap.size, 0, none⟩ (.int .i64 x.kind)).setCell ⟨w.heap.size, 1, none⟩ (.string x.name)).setCell ⟨w.heap.size, 2, none⟩ (.int .i64 x.n)).setCell ⟨w.heap.size, 3, none⟩ (.slice ax mx cx)).setCell ⟨w.heap.size, 4, none⟩ (.int .i64 x.line)).setCell ⟨w.heap.size, 5, none⟩ (.int .i64 x.col)) = w3 at *
  have hsz3 := sizeS6 ee
  replace HF := fN6 HF ee
  replace HBe := bS6 HBe ee
  replace HBn := bF6 HBn ee
  replace HBf := bF6 HBf ee
  replace HBq := bF6 HBq ee
  replace HMx := mS6 HMx ee
  clear ee
  clear hI
  have ec := kc6 HBe; have nc := kc1 HBn; have fc := kc3 HBf; have qc := kc3 HBq
  have hI := i01_q_q_0 w (w.heap.size + 1 + 1) q w3
  have hZ := i01_q_q_0 w (w.heap.size + 1 + 1) q w2
  refine wp_nopanic ?_
  refine wp_region_held_drew (S := fun w' => Far (fun b => b = w.heap.size ∨ b = w.heap.size + 1 ∨ b = w.heap.size + 1 + 1) (w3) w') (by kernel_rfl) (Far.of (below_drew _)) (fun hS10 => ?_)
  refine takeA 1 (v := ?_) rfl ?_ ?_
  rotate_left
  · (intro w hSw; (try dsimp only at hSw); replace qc := Far.c3z qc hSw (by intro e; rcases e with e | e | e <;> omega); go_simp; try with_reducible rfl)
  try simp only [Act.put, pu1, pu2, pu3]
  refine takeA 2 (v := ?_) rfl ?_ ?_
  rotate_left
  · (intro w hSw; (try dsimp only at hSw); replace qc := Far.c3z qc hSw (by intro e; rcases e with e | e | e <;> omega); go_simp; try with_reducible rfl)
  try simp only [Act.put, pu1, pu2, pu3]
  refine takeA 3 (v := ?_) rfl ?_ ?_
  rotate_left
  · (intro w hSw; (try dsimp only at hSw); replace qc := Far.c3z qc hSw (by intro e; rcases e with e | e | e <;> omega); go_simp; try with_reducible rfl)
  try simp only [Act.put, pu1, pu2, pu3]
  refine takeA 4 (v := ?_) rfl ?_ ?_
  rotate_left
  · (intro w hSw; (try dsimp only at hSw); replace qc := Far.c3z qc hSw (by intro e; rcases e with e | e | e <;> omega); go_simp; try with_reducible rfl)
  try simp only [Act.put, pu1, pu2, pu3]
  refine takeA 5 (v := ?_) rfl ?_ ?_
  rotate_left
  · (intro w hSw; (try dsimp only at hSw); replace qc := Far.c3z qc hSw (by intro e; rcases e with e | e | e <;> omega); go_simp; try with_reducible rfl)
  try simp only [Act.put, pu1, pu2, pu3]

  refine callA 0 rfl fun K hK => ?_
  go_simp
  refine hK.out _ _ ?_ (fun hS11 => ?_)
  · exact hS10
  clear hK K
  refine callA 6 rfl fun K hK => ?_
  go_simp
  refine hK.out _ _ ?_ (fun hS12 => ?_)
  · exact (by refine Far.trans ?_ (Far.of (below_drew _)); (iterate 6 (refine Far.setCell (p := ⟨w.heap.size, _, none⟩) ?_ (.inl rfl) _)); exact Far.refl _ _)
  clear hK K

  clear ec nc fc qc
  generalize ee : ((((((w3.setCell ⟨w.heap.size, 0, none⟩ (.int .i64 x.kind)).setCell ⟨w.heap.size, 1, none⟩ (.string x.name)).setCell ⟨w.heap.size, 2, none⟩ (.int .i64 x.n)).setCell ⟨w.heap.size, 3, none⟩ (.slice ax mx cx)).setCell ⟨w.heap.size, 4, none⟩ (.int .i64 x.line)).setCell ⟨w.heap.size, 5, none⟩ (.int .i64 x.col)) = w4_1 at *
  have hq1 := sizeS6 ee
  replace HF := fN6 HF ee
  replace HBe := bS6 HBe ee
  replace HBn := bF6 HBn ee
  replace HBf := bF6 HBf ee
  replace HBq := bF6 HBq ee
  replace HMx := mS6 HMx ee
  clear ee
  generalize ee : (w4_1.drew) = w4 at *
  have hq2 := sizeD ee
  replace HF := fD HF ee
  replace HBe := bD HBe ee
  replace HBn := bD HBn ee
  replace HBf := bD HBf ee
  replace HBq := bD HBq ee
  replace HMx := mD HMx ee
  clear ee
  have hsa4 : w4.heap.size = w2.heap.size + 0 := by omega
  clear hq1 hq2
  clear hI hZ
  have ec := kc6 HBe; have nc := kc1 HBn; have fc := kc3 HBf; have qc := kc3 HBq
  have hI := i01_q_q_0 w (w.heap.size + 1 + 1) q w4
  have hZ := i01_q_q_0 w (w.heap.size + 1 + 1) q w2
  refine callA 7 rfl fun K hK => ?_
  go_simp
  refine hK.out _ _ ?_ (fun hS13 => ?_)
  · exact Far.setCell (p := ⟨w.heap.size + 1, 0, none⟩) hS12 (.inr (.inl rfl)) _
  clear hK K

  clear ec nc fc qc
  generalize ee : (w4.setCell ⟨(w.heap.size + 1), 0, none⟩ (.int .i64 (j : Int))) = w5 at *
  have hsz5 := sizeS1 ee
  replace HF := fN1 HF ee
  replace HBe := bF1 HBe ee
  replace HBn : Hid (Bo w5 (w.heap.size + 1) 3 #[.int .i64 (j : Int)]) := Lib.hid (by rw [← ee]; exact HBn.out.set 0 (.int .i64 (j : Int)))
  replace HBf := bF1 HBf ee
  replace HBq := bF1 HBq ee
  replace HMx := mS1 HMx ee
  clear ee
  clear hI hZ
  have ec := kc6 HBe; have nc := kc1 HBn; have fc := kc3 HBf; have qc := kc3 HBq
  have hI := i01_q_q_0 w (w.heap.size + 1 + 1) q w5
  have hZ := i01_q_q_0 w (w.heap.size + 1 + 1) q w2
  refine callA 8 rfl fun K hK => ?_
  go_simp
  refine hK.out _ _ ?_ (fun hS14 => ?_)
  · exact Far.setCell (p := ⟨w.heap.size + 1 + 1, 2, none⟩) (Far.setCell (p := ⟨w.heap.size + 1 + 1, 1, none⟩) (Far.setCell (p := ⟨w.heap.size + 1 + 1, 0, none⟩) hS13 (.inr (.inr rfl)) _) (.inr (.inr rfl)) _) (.inr (.inr rfl)) _
  clear hK K
  refine wpAnyH_done (by kernel_rfl) ?_ _

  clear ec nc fc qc
  generalize ee : (((w5.setCell ⟨(w.heap.size + 1 + 1), 0, none⟩ (.int .i64 0)).setCell ⟨(w.heap.size + 1 + 1), 1, none⟩ (.int .i64 0)).setCell ⟨(w.heap.size + 1 + 1), 2, none⟩ (.int .i64 0)) = w6 at *
  have hsz6 := sizeS3 ee
  replace HF := fN3 HF ee
  replace HBe := bF3 HBe ee
  replace HBn := bF3 HBn ee
  replace HBf := bS3 HBf ee
  replace HBq := bF3 HBq ee
  replace HMx := mS3 HMx ee
  clear ee
  clear hI hZ
  show Exit.then _ _ Exit.normal _ _
  go_wp2_with (fail)
  refine leaves_cons (f := 88) (args := #[.pointer (some ⟨w.heap.size, 0, none⟩), .pointer (some ⟨w.heap.size + 1, 0, none⟩), .pointer (some ⟨w.heap.size + 1 + 1, 0, none⟩)]) (by simp) (by simp [go_sem]) ?_
  refine (caught_none _).mono ?_
  rintro e u w9 ⟨rfl, rfl, rfl⟩
  have x0 := HBe.out.cell (j := 0) rfl; have x1 := HBe.out.cell (j := 1) rfl; have x2 := HBe.out.cell (j := 2) rfl; have x3 := HBe.out.cell (j := 3) rfl; have x4 := HBe.out.cell (j := 4) rfl; have x5 := HBe.out.cell (j := 5) rfl; have y0 := HBn.out.cell (j := 0) rfl; have z0 := HBf.out.cell (j := 0) rfl; have z1 := HBf.out.cell (j := 1) rfl; have z2 := HBf.out.cell (j := 2) rfl
  refine ⟨.tuple #[exV x ax mx cx, .int .i64 (j : Int), .agg #[.int .i64 0, .int .i64 0, .int .i64 0]], ?_, ax, mx, cx, rfl, ?_, memNw HMx.out (by omega)⟩
  · (clear HF HBe HBn HBf HBq HMx H; simp [results, Try.results56, go_sem, exV, x0, x1, x2, x3, x4, x5, y0, z0, z1, z2])
  · exact Far.toB (Far.mono HF.out (fun b e => by rcases e with e | e <;> omega)) (Nat.le_refl _)
theorem rof_any {F : Nat} {i : Int} {r : Rd1} (w : World) (h : MemW w (.s 5 (tkRows ts)) (.slice aL n cap)) (hn : n ≤ 1048576) (hr : readE ts F .expr i.toNat 0 = some r) :
  Calls Try.prog 56 #[.slice aL n cap, .int .i64 i, .func (.func 57) #[] #[]] w (RunAns r w) := by
 by_cases hi : i < 0
 · (rw [Int.toNat_of_nonpos (by omega)] at hr; exact run_of_neg hi w h hn hr)
 · (obtain ⟨k, rfl⟩ := Int.eq_ofNat_of_zero_le (show 0 ≤ i by omega); exact run_of_pos w h hn hr)
set_option maxRecDepth 100000 in
set_option maxHeartbeats 20000000 in
theorem of_any {F : Nat} {i : Int} {r : Rd1} (w : World) (h : MemW w (.s 5 (tkRows ts)) (.slice aL n cap)) (hn : n ≤ 1048576) (hr : readE ts F .expr i.toNat 0 = some r) :
  Calls Try.prog 25 #[.slice aL n cap, .int .i64 i] w (RunAns r w) := by
 have H := Lib.hid h
 clear h
 go_enter Try.func25, Try.ntmps25
 go_wp2_with (fail)
 have hs1 : ((w.alloc (.cells #[.int .i64 0, .string ⟨#[]⟩, .int .i64 0, .slice none 0 0, .int .i64 0, .int .i64 0] 27)).alloc (.cells #[.int .i64 0, .int .i64 0, .int .i64 0] 30)).heap.size = w.heap.size + 1 + 1 := by simp only [World.size_alloc]
 have HBe : Hid (Bo ((w.alloc (.cells #[.int .i64 0, .string ⟨#[]⟩, .int .i64 0, .slice none 0 0, .int .i64 0, .int .i64 0] 27)).alloc (.cells #[.int .i64 0, .int .i64 0, .int .i64 0] 30)) w.heap.size 27 #[.int .i64 0, .string ⟨#[]⟩, .int .i64 0, .slice none 0 0, .int .i64 0, .int .i64 0]) := Lib.hid ((Bo.new w 27 #[.int .i64 0, .string ⟨#[]⟩, .int .i64 0, .slice none 0 0, .int .i64 0, .int .i64 0]).alloc _)
 have HBf : Hid (Bo ((w.alloc (.cells #[.int .i64 0, .string ⟨#[]⟩, .int .i64 0, .slice none 0 0, .int .i64 0, .int .i64 0] 27)).alloc (.cells #[.int .i64 0, .int .i64 0, .int .i64 0] 30)) (w.heap.size + 1) 30 #[.int .i64 0, .int .i64 0, .int .i64 0]) := Lib.hid (by have h := Bo.new (w.alloc (.cells #[.int .i64 0, .string ⟨#[]⟩, .int .i64 0, .slice none 0 0, .int .i64 0, .int .i64 0] 27)) 30 #[.int .i64 0, .int .i64 0, .int .i64 0]; rw [World.size_alloc] at h; exact h)
 have hbel : Below w.heap.size w ((w.alloc (.cells #[.int .i64 0, .string ⟨#[]⟩, .int .i64 0, .slice none 0 0, .int .i64 0, .int .i64 0] 27)).alloc (.cells #[.int .i64 0, .int .i64 0, .int .i64 0] 30)) := ((below_new w _).alloc (by simp) _)
 have HM := Lib.hid (H.out.keep hbel)
 have HB := Lib.hid hbel
 clear hbel
 generalize ((w.alloc (.cells #[.int .i64 0, .string ⟨#[]⟩, .int .i64 0, .slice none 0 0, .int .i64 0, .int .i64 0] 27)).alloc (.cells #[.int .i64 0, .int .i64 0, .int .i64 0] 30)) = w1 at *
 refine (rof_any w1 HM.out hn hr).mono ?_
 cases r with
 | bad l_ c_ =>
  rintro _ w2 ⟨rfl, hb⟩
  replace HBe := kB HBe hb
  replace HBf := kB HBf hb
  have hs2 := hb.size
  have HF : Hid (Far (fun b => w.heap.size ≤ b) w w2) := Lib.hid (Far.of (HB.out.trans (hb.mono (by omega))))
  clear hb
  have ec := kc6 HBe; have fc := kc3 HBf
  have hI := i01_0 w w2
  go_wp2_with (fail)
  clear ec fc
  replace HBe := Lib.hid (HBe.out.set 0 (.int .i64 0))
  replace HBf := Lib.hid (HBf.out.far 0 (.int .i64 0) (g := w.heap.size) (by omega))
  replace HF := Lib.hid (HF.out.setCell (p := ⟨w.heap.size, 0, none⟩) (Nat.le_refl w.heap.size) (.int .i64 0))
  replace HBe := Lib.hid (HBe.out.set 1 (.string ⟨#[]⟩))
  replace HBf := Lib.hid (HBf.out.far 1 (.string ⟨#[]⟩) (g := w.heap.size) (by omega))
  replace HF := Lib.hid (HF.out.setCell (p := ⟨w.heap.size, 1, none⟩) (Nat.le_refl w.heap.size) (.string ⟨#[]⟩))
  replace HBe := Lib.hid (HBe.out.set 2 (.int .i64 0))
  replace HBf := Lib.hid (HBf.out.far 2 (.int .i64 0) (g := w.heap.size) (by omega))
  replace HF := Lib.hid (HF.out.setCell (p := ⟨w.heap.size, 2, none⟩) (Nat.le_refl w.heap.size) (.int .i64 0))
  replace HBe := Lib.hid (HBe.out.set 3 (.slice none 0 0))
  replace HBf := Lib.hid (HBf.out.far 3 (.slice none 0 0) (g := w.heap.size) (by omega))
  replace HF := Lib.hid (HF.out.setCell (p := ⟨w.heap.size, 3, none⟩) (Nat.le_refl w.heap.size) (.slice none 0 0))
  replace HBe := Lib.hid (HBe.out.set 4 (.int .i64 0))
  replace HBf := Lib.hid (HBf.out.far 4 (.int .i64 0) (g := w.heap.size) (by omega))
  replace HF := Lib.hid (HF.out.setCell (p := ⟨w.heap.size, 4, none⟩) (Nat.le_refl w.heap.size) (.int .i64 0))
  replace HBe := Lib.hid (HBe.out.set 5 (.int .i64 0))
  replace HBf := Lib.hid (HBf.out.far 5 (.int .i64 0) (g := w.heap.size) (by omega))
  replace HF := Lib.hid (HF.out.setCell (p := ⟨w.heap.size, 5, none⟩) (Nat.le_refl w.heap.size) (.int .i64 0))
  replace HBf := Lib.hid (HBf.out.set 0 (.int .i64 1))
  replace HBe := Lib.hid (HBe.out.far 0 (.int .i64 1) (g := (w.heap.size + 1)) (by omega))
  replace HF := Lib.hid (HF.out.setCell (p := ⟨(w.heap.size + 1), 0, none⟩) (Nat.le_succ w.heap.size) (.int .i64 1))
  replace HBf := Lib.hid (HBf.out.set 1 (.int .i64 l_))
  replace HBe := Lib.hid (HBe.out.far 1 (.int .i64 l_) (g := (w.heap.size + 1)) (by omega))
  replace HF := Lib.hid (HF.out.setCell (p := ⟨(w.heap.size + 1), 1, none⟩) (Nat.le_succ w.heap.size) (.int .i64 l_))
  replace HBf := Lib.hid (HBf.out.set 2 (.int .i64 c_))
  replace HBe := Lib.hid (HBe.out.far 2 (.int .i64 c_) (g := (w.heap.size + 1)) (by omega))
  replace HF := Lib.hid (HF.out.setCell (p := ⟨(w.heap.size + 1), 2, none⟩) (Nat.le_succ w.heap.size) (.int .i64 c_))
  replace HBe : Hid (Bo (((((((((w2.setCell ⟨w.heap.size, 0, none⟩ (.int .i64 0)).setCell ⟨w.heap.size, 1, none⟩ (.string ⟨#[]⟩)).setCell ⟨w.heap.size, 2, none⟩ (.int .i64 0)).setCell ⟨w.heap.size, 3, none⟩ (.slice none 0 0)).setCell ⟨w.heap.size, 4, none⟩ (.int .i64 0)).setCell ⟨w.heap.size, 5, none⟩ (.int .i64 0)).setCell ⟨(w.heap.size + 1), 0, none⟩ (.int .i64 1)).setCell ⟨(w.heap.size + 1), 1, none⟩ (.int .i64 l_)).setCell ⟨(w.heap.size + 1), 2, none⟩ (.int .i64 c_)) w.heap.size 27 #[.int .i64 0, .string ⟨#[]⟩, .int .i64 0, .slice none 0 0, .int .i64 0, .int .i64 0]) := HBe
  replace HBf : Hid (Bo (((((((((w2.setCell ⟨w.heap.size, 0, none⟩ (.int .i64 0)).setCell ⟨w.heap.size, 1, none⟩ (.string ⟨#[]⟩)).setCell ⟨w.heap.size, 2, none⟩ (.int .i64 0)).setCell ⟨w.heap.size, 3, none⟩ (.slice none 0 0)).setCell ⟨w.heap.size, 4, none⟩ (.int .i64 0)).setCell ⟨w.heap.size, 5, none⟩ (.int .i64 0)).setCell ⟨(w.heap.size + 1), 0, none⟩ (.int .i64 1)).setCell ⟨(w.heap.size + 1), 1, none⟩ (.int .i64 l_)).setCell ⟨(w.heap.size + 1), 2, none⟩ (.int .i64 c_)) (w.heap.size + 1) 30 #[.int .i64 1, .int .i64 l_, .int .i64 c_]) := HBf
  generalize (((((((((w2.setCell ⟨w.heap.size, 0, none⟩ (.int .i64 0)).setCell ⟨w.heap.size, 1, none⟩ (.string ⟨#[]⟩)).setCell ⟨w.heap.size, 2, none⟩ (.int .i64 0)).setCell ⟨w.heap.size, 3, none⟩ (.slice none 0 0)).setCell ⟨w.heap.size, 4, none⟩ (.int .i64 0)).setCell ⟨w.heap.size, 5, none⟩ (.int .i64 0)).setCell ⟨(w.heap.size + 1), 0, none⟩ (.int .i64 1)).setCell ⟨(w.heap.size + 1), 1, none⟩ (.int .i64 l_)).setCell ⟨(w.heap.size + 1), 2, none⟩ (.int .i64 c_)) = w3 at *
  have x0 := HBe.out.cell (j := 0) rfl; have x1 := HBe.out.cell (j := 1) rfl; have x2 := HBe.out.cell (j := 2) rfl; have x3 := HBe.out.cell (j := 3) rfl; have x4 := HBe.out.cell (j := 4) rfl; have x5 := HBe.out.cell (j := 5) rfl; have z0 := HBf.out.cell (j := 0) rfl; have z1 := HBf.out.cell (j := 1) rfl; have z2 := HBf.out.cell (j := 2) rfl
  refine bodyPost_ret (v := .tuple #[.agg #[.int .i64 0, .string ⟨#[]⟩, .int .i64 0, .slice none 0 0, .int .i64 0, .int .i64 0], .int .i64 0, .agg #[.int .i64 1, .int .i64 l_, .int .i64 c_]]) (by clear HF HBe HBf H HM HB; simp [results, Try.results25, go_sem, x0, x1, x2, x3, x4, x5, z0, z1, z2]) rfl ?_
  exact ⟨rfl, Far.toB HF.out (Nat.le_refl _)⟩
 | ok x j =>
  rintro _ w2 ⟨a, m, c, rfl, hb, hm⟩
  replace HBe := kB HBe hb
  replace HBf := kB HBf hb
  have hs2 := hb.size
  have HF : Hid (Far (fun b => w.heap.size ≤ b) w w2) := Lib.hid (Far.of (HB.out.trans (hb.mono (by omega))))
  clear hb
  have HM2 := Lib.hid hm
  clear hm
  simp only [exV]
  have ec := kc6 HBe; have fc := kc3 HBf
  have hI := i01_0 w w2
  go_wp2_with (fail)
  clear ec fc
  replace HBe := Lib.hid (HBe.out.set 0 (.int .i64 x.kind))
  replace HBf := Lib.hid (HBf.out.far 0 (.int .i64 x.kind) (g := w.heap.size) (by omega))
  replace HF := Lib.hid (HF.out.setCell (p := ⟨w.heap.size, 0, none⟩) (Nat.le_refl w.heap.size) (.int .i64 x.kind))
  replace HM2 := Lib.hid (memSet HM2.out (g := w.heap.size) (by omega) 0 (.int .i64 x.kind))
  replace HBe := Lib.hid (HBe.out.set 1 (.string x.name))
  replace HBf := Lib.hid (HBf.out.far 1 (.string x.name) (g := w.heap.size) (by omega))
  replace HF := Lib.hid (HF.out.setCell (p := ⟨w.heap.size, 1, none⟩) (Nat.le_refl w.heap.size) (.string x.name))
  replace HM2 := Lib.hid (memSet HM2.out (g := w.heap.size) (by omega) 1 (.string x.name))
  replace HBe := Lib.hid (HBe.out.set 2 (.int .i64 x.n))
  replace HBf := Lib.hid (HBf.out.far 2 (.int .i64 x.n) (g := w.heap.size) (by omega))
  replace HF := Lib.hid (HF.out.setCell (p := ⟨w.heap.size, 2, none⟩) (Nat.le_refl w.heap.size) (.int .i64 x.n))
  replace HM2 := Lib.hid (memSet HM2.out (g := w.heap.size) (by omega) 2 (.int .i64 x.n))
  replace HBe := Lib.hid (HBe.out.set 3 (.slice a m c))
  replace HBf := Lib.hid (HBf.out.far 3 (.slice a m c) (g := w.heap.size) (by omega))
  replace HF := Lib.hid (HF.out.setCell (p := ⟨w.heap.size, 3, none⟩) (Nat.le_refl w.heap.size) (.slice a m c))
  replace HM2 := Lib.hid (memSet HM2.out (g := w.heap.size) (by omega) 3 (.slice a m c))
  replace HBe := Lib.hid (HBe.out.set 4 (.int .i64 x.line))
  replace HBf := Lib.hid (HBf.out.far 4 (.int .i64 x.line) (g := w.heap.size) (by omega))
  replace HF := Lib.hid (HF.out.setCell (p := ⟨w.heap.size, 4, none⟩) (Nat.le_refl w.heap.size) (.int .i64 x.line))
  replace HM2 := Lib.hid (memSet HM2.out (g := w.heap.size) (by omega) 4 (.int .i64 x.line))
  replace HBe := Lib.hid (HBe.out.set 5 (.int .i64 x.col))
  replace HBf := Lib.hid (HBf.out.far 5 (.int .i64 x.col) (g := w.heap.size) (by omega))
  replace HF := Lib.hid (HF.out.setCell (p := ⟨w.heap.size, 5, none⟩) (Nat.le_refl w.heap.size) (.int .i64 x.col))
  replace HM2 := Lib.hid (memSet HM2.out (g := w.heap.size) (by omega) 5 (.int .i64 x.col))
  replace HBf := Lib.hid (HBf.out.set 0 (.int .i64 0))
  replace HBe := Lib.hid (HBe.out.far 0 (.int .i64 0) (g := (w.heap.size + 1)) (by omega))
  replace HF := Lib.hid (HF.out.setCell (p := ⟨(w.heap.size + 1), 0, none⟩) (Nat.le_succ w.heap.size) (.int .i64 0))
  replace HM2 := Lib.hid (memSet HM2.out (g := (w.heap.size + 1)) (by omega) 0 (.int .i64 0))
  replace HBf := Lib.hid (HBf.out.set 1 (.int .i64 0))
  replace HBe := Lib.hid (HBe.out.far 1 (.int .i64 0) (g := (w.heap.size + 1)) (by omega))
  replace HF := Lib.hid (HF.out.setCell (p := ⟨(w.heap.size + 1), 1, none⟩) (Nat.le_succ w.heap.size) (.int .i64 0))
  replace HM2 := Lib.hid (memSet HM2.out (g := (w.heap.size + 1)) (by omega) 1 (.int .i64 0))
  replace HBf := Lib.hid (HBf.out.set 2 (.int .i64 0))
  replace HBe := Lib.hid (HBe.out.far 2 (.int .i64 0) (g := (w.heap.size + 1)) (by omega))
  replace HF := Lib.hid (HF.out.setCell (p := ⟨(w.heap.size + 1), 2, none⟩) (Nat.le_succ w.heap.size) (.int .i64 0))
  replace HM2 := Lib.hid (memSet HM2.out (g := (w.heap.size + 1)) (by omega) 2 (.int .i64 0))
  replace HBe : Hid (Bo (((((((((w2.setCell ⟨w.heap.size, 0, none⟩ (.int .i64 x.kind)).setCell ⟨w.heap.size, 1, none⟩ (.string x.name)).setCell ⟨w.heap.size, 2, none⟩ (.int .i64 x.n)).setCell ⟨w.heap.size, 3, none⟩ (.slice a m c)).setCell ⟨w.heap.size, 4, none⟩ (.int .i64 x.line)).setCell ⟨w.heap.size, 5, none⟩ (.int .i64 x.col)).setCell ⟨(w.heap.size + 1), 0, none⟩ (.int .i64 0)).setCell ⟨(w.heap.size + 1), 1, none⟩ (.int .i64 0)).setCell ⟨(w.heap.size + 1), 2, none⟩ (.int .i64 0)) w.heap.size 27 #[.int .i64 x.kind, .string x.name, .int .i64 x.n, .slice a m c, .int .i64 x.line, .int .i64 x.col]) := HBe
  replace HBf : Hid (Bo (((((((((w2.setCell ⟨w.heap.size, 0, none⟩ (.int .i64 x.kind)).setCell ⟨w.heap.size, 1, none⟩ (.string x.name)).setCell ⟨w.heap.size, 2, none⟩ (.int .i64 x.n)).setCell ⟨w.heap.size, 3, none⟩ (.slice a m c)).setCell ⟨w.heap.size, 4, none⟩ (.int .i64 x.line)).setCell ⟨w.heap.size, 5, none⟩ (.int .i64 x.col)).setCell ⟨(w.heap.size + 1), 0, none⟩ (.int .i64 0)).setCell ⟨(w.heap.size + 1), 1, none⟩ (.int .i64 0)).setCell ⟨(w.heap.size + 1), 2, none⟩ (.int .i64 0)) (w.heap.size + 1) 30 #[.int .i64 0, .int .i64 0, .int .i64 0]) := HBf
  generalize (((((((((w2.setCell ⟨w.heap.size, 0, none⟩ (.int .i64 x.kind)).setCell ⟨w.heap.size, 1, none⟩ (.string x.name)).setCell ⟨w.heap.size, 2, none⟩ (.int .i64 x.n)).setCell ⟨w.heap.size, 3, none⟩ (.slice a m c)).setCell ⟨w.heap.size, 4, none⟩ (.int .i64 x.line)).setCell ⟨w.heap.size, 5, none⟩ (.int .i64 x.col)).setCell ⟨(w.heap.size + 1), 0, none⟩ (.int .i64 0)).setCell ⟨(w.heap.size + 1), 1, none⟩ (.int .i64 0)).setCell ⟨(w.heap.size + 1), 2, none⟩ (.int .i64 0)) = w3 at *
  have x0 := HBe.out.cell (j := 0) rfl; have x1 := HBe.out.cell (j := 1) rfl; have x2 := HBe.out.cell (j := 2) rfl; have x3 := HBe.out.cell (j := 3) rfl; have x4 := HBe.out.cell (j := 4) rfl; have x5 := HBe.out.cell (j := 5) rfl; have z0 := HBf.out.cell (j := 0) rfl; have z1 := HBf.out.cell (j := 1) rfl; have z2 := HBf.out.cell (j := 2) rfl
  refine bodyPost_ret (v := .tuple #[.agg #[.int .i64 x.kind, .string x.name, .int .i64 x.n, .slice a m c, .int .i64 x.line, .int .i64 x.col], .int .i64 (j : Int), .agg #[.int .i64 0, .int .i64 0, .int .i64 0]]) (by clear HF HBe HBf H HM HB HM2; simp [results, Try.results25, go_sem, x0, x1, x2, x3, x4, x5, z0, z1, z2]) rfl ?_
  exact ⟨_, _, _, rfl, Far.toB HF.out (Nat.le_refl _), memNw HM2.out (by omega)⟩
end
end Go.Proofs.Ytcoiagfeoonpbaa

/-
  The document's Binds and Starts. No condition.
-/
namespace Go.Proofs.Ytcoiagfeoonpbaa
open Go.RowKit
end Go.Proofs.Ytcoiagfeoonpbaa

/-
  Memory that lies in given blocks, and own rows whose elements do. Plain lemmas. No condition.
-/
namespace Go.Proofs.Ytcoiagfeoonpbaa
open Go.RowKit
def NwS (A : Nat → Prop) (top b : Nat) : Prop := A b ∧ b < top
def Av (base g h : Nat) (b : Nat) : Prop := base ≤ b ∧ b ≠ g ∧ b ≠ h
def Bt (base top b : Nat) : Prop := base ≤ b ∧ b < top
section
variable {w w' : World} {A : Nat → Prop} {x : At} {y : Value}
theorem memS_far {Z : Nat → Prop} (h : Mem (NwS A w.heap.size) w x y) (hf : Far Z w w') (hz : ∀ b, A b → ¬ Z b) : Mem (NwS A w'.heap.size) w' x y :=
  h.mono (fun _ hb => ⟨hb.1, Nat.lt_of_lt_of_le hb.2 hf.size⟩) fun b hb => hf.block b hb.2 (hz b hb.1)
theorem memS_keep (h : Mem (NwS A w.heap.size) w x y) (hb : Below w.heap.size w w') : Mem (NwS A w'.heap.size) w' x y :=
  memS_far (Z := fun _ => False) h (Far.of hb) fun _ _ h => h
theorem memS_alloc (h : Mem (NwS A w.heap.size) w x y) (o : Obj) : Mem (NwS A (w.alloc o).heap.size) (w.alloc o) x y := memS_keep h (below_new w o)
theorem memS_set {g : Nat} (h : Mem (NwS A w.heap.size) w x y) (hg : ¬ A g) (j : Nat) (v : Value) : Mem (NwS A (w.setCell ⟨g, j, none⟩ v).heap.size) (w.setCell ⟨g, j, none⟩ v) x y :=
  memS_far (Z := fun b => b = g) h ((Far.refl (fun b => b = g) w).setCell (p := ⟨g, j, none⟩) rfl v) fun b hb e => hg (by have e : b = g := e; rw [← e]; exact hb)
theorem memS_nw {base : Nat} (h : Mem (NwS A w.heap.size) w x y) (hA : ∀ b, A b → base ≤ b) : Mem (Nw 0 base w.heap.size) w x y :=
  h.mono (fun b hb => by have := hA b hb.1; have := hb.2; unfold Nw; omega) fun _ _ => rfl
end
def OwnS (A : Nat → Prop) (base : Nat) (e : TypeId) (sz : Nat) (w : World) (y : Value) (rs : List (List At)) : Prop :=
  ∃ css : List (List Value), w.ownsRow base e sz y rs.length css.flatten ∧ All2 (fun r cs => cs.length = sz ∧ All2 (Mem (fun b => NwS A w.heap.size b ∧ y.ownBlock ≠ some b) w) r cs) rs css
section
variable {A : Nat → Prop} {base sz : Nat} {e : TypeId} {w w' : World} {y : Value} {rs : List (List At)}
theorem OwnS.farZ {Z : Nat → Prop} (h : OwnS A base e sz w y rs) (hf : Far Z w w') (hz : ∀ b, A b → b < w.heap.size → ¬ Z b) (hz2 : ∀ b, base ≤ b → b < w.heap.size → ¬ Z b) : OwnS A base e sz w' y rs := by
  obtain ⟨css, h1, h2⟩ := h
  refine ⟨css, ⟨h1.1, ?_⟩, h2.imp fun r cs ⟨hc, hm⟩ => ⟨hc, hm.imp fun x y' hx => hx.mono (fun b ⟨hb, h2⟩ => ⟨⟨hb.1, Nat.lt_of_lt_of_le hb.2 hf.size⟩, h2⟩) fun b ⟨hb, _⟩ => hf.block b hb.2 (hz b hb.1 hb.2)⟩⟩
  rcases h1.2 with hn | ⟨g, cap, cur, rfl, hb, hgg, rest⟩
  · exact .inl hn
  · have hg := (Array.getElem?_eq_some_iff.1 hgg).1
    exact .inr ⟨g, cap, cur, rfl, hb, (hf.block g hg (hz2 g hb hg)).trans hgg, rest⟩
theorem OwnS.keep (h : OwnS A base e sz w y rs) (hb : Below w.heap.size w w') : OwnS A base e sz w' y rs := h.farZ (Z := fun _ => False) (Far.of hb) (fun _ _ _ h => h) fun _ _ _ h => h
theorem OwnS.alloc (h : OwnS A base e sz w y rs) (o : Obj) : OwnS A base e sz (w.alloc o) y rs := h.keep (below_new w o)
theorem OwnS.set {g : Nat} (h : OwnS A base e sz w y rs) (hg : ¬ A g) (hb : g < base) (j : Nat) (v : Value) : OwnS A base e sz (w.setCell ⟨g, j, none⟩ v) y rs :=
  h.farZ ((Far.refl (fun b => b = g) w).setCell (p := ⟨g, j, none⟩) rfl v) (fun b hA _ e => hg (by have e : b = g := e; rw [← e]; exact hA)) fun b h1 _ e => by have : b = g := e; omega
theorem OwnS.lt (h : OwnS A base e sz w y rs) : ∀ k, y.ownBlock = some k → base ≤ k ∧ k < w.heap.size := by
  obtain ⟨css, h1, _⟩ := h; exact h1.lt
theorem OwnS.form (h : OwnS A base e sz w y rs) : ∃ a m cap, y = .slice a m cap ∧ m = rs.length ∧ m ≤ cap ∧ cap ≤ 9223372036854775807 := by
  obtain ⟨css, h1, _⟩ := h
  rcases h1.2 with ⟨rfl, hn⟩ | ⟨g, cap, cur, rfl, hb, hgg, hncap, hcap, hsz, htake⟩
  · exact ⟨none, _, 0, rfl, hn.symm, by omega, by omega⟩
  · exact ⟨_, _, cap, rfl, rfl, hncap, by simpa [maxLen] using hcap⟩
theorem OwnS.mem (h : OwnS A base e sz w y rs) : Mem (NwS (fun b => A b ∨ base ≤ b) w.heap.size) w (.s sz rs) y := by
  obtain ⟨css, h1, h2⟩ := h
  have hlen := h2.len
  have hcs : ∀ cs ∈ css, cs.length = sz := fun cs hcs => by
    obtain ⟨i, hi, rfl⟩ := List.getElem_of_mem hcs
    exact (h2.at i (by omega) hi).1
  rcases h1.2 with ⟨rfl, hn⟩ | ⟨g, cap, cur, rfl, hb, hgg, hncap, hcap, hsz, htake⟩
  · have : rs = [] := List.eq_nil_of_length_eq_zero hn
    subst this
    exact .e none 0 sz (by decide)
  · refine .s g 0 rs.length cap sz rs (fun i j => css.flatten.getD (i * sz + j) undef) rfl hncap (by simpa [maxLen] using hcap) ⟨.inr hb, (Array.getElem?_eq_some_iff.1 hgg).1⟩ (fun i hi => ?_) (fun i j hi hj => ?_) (fun i j hi hj => ?_)
    · have hi' : i < css.length := by omega
      obtain ⟨e1, e2⟩ := h2.at i hi hi'
      rw [e2.len, e1]
    · have hi' : i < css.length := by omega
      obtain ⟨e1, e2⟩ := h2.at i hi hi'
      have hf := flat_at sz css hcs i j hi' (by omega)
      have := h1.cells (g := g) rfl (i * sz + j) _ hf
      have hadd : (⟨g, 0, none⟩ : Addr).add (i * sz + j) = ⟨g, i * sz + j, none⟩ := by unfold Addr.add; split <;> simp_all
      rw [hadd] at this
      rw [Nat.zero_add, this, List.getD_eq_getElem?_getD, hf]; rfl
    · have hi' : i < css.length := by omega
      obtain ⟨e1, e2⟩ := h2.at i hi hi'
      have hf := flat_at sz css hcs i j hi' (by have := e2.len; omega)
      rw [List.getD_eq_getElem?_getD, hf]
      exact (e2.at j hj (by have := e2.len; omega)).mono (fun b hb => ⟨.inl hb.1.1, hb.1.2⟩) fun _ _ => rfl
theorem OwnS.apart {v : Value} {x : At} (h : OwnS A base e sz w y rs) (hA : ∀ b, w.heap.size ≤ b → b < w'.heap.size → A b) (hm : Mem (Nw 0 w.heap.size w'.heap.size) w' x v) : Mem (fun b => NwS A w'.heap.size b ∧ y.ownBlock ≠ some b) w' x v :=
  hm.mono (fun b hb => by
    unfold Nw at hb
    refine ⟨⟨hA b (by omega) hb.2, hb.2⟩, fun e => ?_⟩
    have := h.lt b e
    omega) fun _ _ => rfl
theorem OwnS.built {css : List (List Value)} (h : All2 (fun r cs => cs.length = sz ∧ All2 (Mem (NwS A w.heap.size) w) r cs) rs css) (hbase : base ≤ w.heap.size) (n : Nat) (hn : rs.length = n) (hm : n ≤ maxLen) (cs : Array Value) (hcs : cs.toList = css.flatten) :
    OwnS A base e sz (w.alloc (.cells cs e)) (.slice (some ⟨w.heap.size, 0, none⟩) n n) rs := by
  subst hn
  have hl : ∀ cs ∈ css, cs.length = sz := fun cs hcs => by
    obtain ⟨i, hi, rfl⟩ := List.getElem_of_mem hcs
    exact (h.at i (by have := h.len; omega) hi).1
  have hfl := flat_len sz css hl
  refine ⟨css, ⟨by rw [hfl, h.len], .inr ⟨w.heap.size, rs.length, cs, rfl, hbase, (MapKept.heap_alloc w _).1, Nat.le_refl _, hm, ?_, ?_⟩⟩, h.imp fun r cs ⟨hc, hm⟩ => ⟨hc, hm.imp fun x y' hx => hx.mono (fun b ⟨h1, h3⟩ => ⟨⟨h1, by rw [World.size_alloc]; omega⟩, fun e => by injection e with e; subst e; simp at h3⟩) fun b ⟨_, h1⟩ => (below_new w _).block b h1⟩⟩
  · rw [← Array.length_toList, hcs, hfl, h.len]
  · rw [hcs, List.take_of_length_le (by rw [hfl, h.len]; exact Nat.le_refl _)]
end
section
variable {P : Program} {w : World} {t e : TypeId} {z : Value} {sz bytes : Nat}
end
section
variable {w W : World} {A : Nat → Prop} {base : Nat}
end
-- short forms
section
variable {w w' : World} {g j : Nat} {A : Nat → Prop}
theorem memS_set3 {x : At} {y : Value} {v0 v1 v2 : Value} (h : Mem (NwS A w.heap.size) w x y) (e : (((w.setCell ⟨g, 0, none⟩ v0).setCell ⟨g, 1, none⟩ v1).setCell ⟨g, 2, none⟩ v2) = w') (hg : ¬ A g) : Mem (NwS A w'.heap.size) w' x y := e ▸ (memS_set (memS_set (memS_set h hg 0 v0) hg 1 v1) hg 2 v2)
theorem OwnS.set3 {base sz : Nat} {et : TypeId} {y : Value} {rs : List (List At)} {v0 v1 v2 : Value} (h : OwnS A base et sz w y rs) (e : (((w.setCell ⟨g, 0, none⟩ v0).setCell ⟨g, 1, none⟩ v1).setCell ⟨g, 2, none⟩ v2) = w') (hg : ¬ A g) (hb : g < base) : OwnS A base et sz w' y rs := e ▸ (((h.set hg hb 0 v0).set hg hb 1 v1).set hg hb 2 v2)
theorem memS_set6 {x : At} {y : Value} {v0 v1 v2 v3 v4 v5 : Value} (h : Mem (NwS A w.heap.size) w x y) (e : ((((((w.setCell ⟨g, 0, none⟩ v0).setCell ⟨g, 1, none⟩ v1).setCell ⟨g, 2, none⟩ v2).setCell ⟨g, 3, none⟩ v3).setCell ⟨g, 4, none⟩ v4).setCell ⟨g, 5, none⟩ v5) = w') (hg : ¬ A g) : Mem (NwS A w'.heap.size) w' x y := e ▸ (memS_set (memS_set (memS_set (memS_set (memS_set (memS_set h hg 0 v0) hg 1 v1) hg 2 v2) hg 3 v3) hg 4 v4) hg 5 v5)
theorem OwnS.set6 {base sz : Nat} {et : TypeId} {y : Value} {rs : List (List At)} {v0 v1 v2 v3 v4 v5 : Value} (h : OwnS A base et sz w y rs) (e : ((((((w.setCell ⟨g, 0, none⟩ v0).setCell ⟨g, 1, none⟩ v1).setCell ⟨g, 2, none⟩ v2).setCell ⟨g, 3, none⟩ v3).setCell ⟨g, 4, none⟩ v4).setCell ⟨g, 5, none⟩ v5) = w') (hg : ¬ A g) (hb : g < base) : OwnS A base et sz w' y rs := e ▸ ((((((h.set hg hb 0 v0).set hg hb 1 v1).set hg hb 2 v2).set hg hb 3 v3).set hg hb 4 v4).set hg hb 5 v5)
theorem memS_allocE {x : At} {y : Value} {o : Obj} (h : Mem (NwS A w.heap.size) w x y) (e : w.alloc o = w') : Mem (NwS A w'.heap.size) w' x y := e ▸ memS_alloc h o
theorem OwnS.allocE {base sz : Nat} {et : TypeId} {y : Value} {rs : List (List At)} {o : Obj} (h : OwnS A base et sz w y rs) (e : w.alloc o = w') : OwnS A base et sz w' y rs := e ▸ h.alloc o
theorem memS_drewE {x : At} {y : Value} (h : Mem (NwS A w.heap.size) w x y) (e : w.drew = w') : Mem (NwS A w'.heap.size) w' x y := e ▸ memS_keep h (below_drew _)
theorem OwnS.drewE {base sz : Nat} {et : TypeId} {y : Value} {rs : List (List At)} (h : OwnS A base et sz w y rs) (e : w.drew = w') : OwnS A base et sz w' y rs := e ▸ h.keep (below_drew _)
theorem yS3 {x : At} {y : Value} {v0 v1 v2 : Value} (h : Hid (Mem (NwS A w.heap.size) w x y)) (e : (((w.setCell ⟨g, 0, none⟩ v0).setCell ⟨g, 1, none⟩ v1).setCell ⟨g, 2, none⟩ v2) = w') (hg : ¬ A g := by first | (unfold Av; omega) | (unfold Bt; omega)) : Hid (Mem (NwS A w'.heap.size) w' x y) := Lib.hid (memS_set3 h.out e hg)
theorem yS6 {x : At} {y : Value} {v0 v1 v2 v3 v4 v5 : Value} (h : Hid (Mem (NwS A w.heap.size) w x y)) (e : ((((((w.setCell ⟨g, 0, none⟩ v0).setCell ⟨g, 1, none⟩ v1).setCell ⟨g, 2, none⟩ v2).setCell ⟨g, 3, none⟩ v3).setCell ⟨g, 4, none⟩ v4).setCell ⟨g, 5, none⟩ v5) = w') (hg : ¬ A g := by first | (unfold Av; omega) | (unfold Bt; omega)) : Hid (Mem (NwS A w'.heap.size) w' x y) := Lib.hid (memS_set6 h.out e hg)
theorem yA {x : At} {y : Value} {o : Obj} (h : Hid (Mem (NwS A w.heap.size) w x y)) (e : w.alloc o = w') : Hid (Mem (NwS A w'.heap.size) w' x y) := Lib.hid (memS_allocE h.out e)
theorem yD {x : At} {y : Value} (h : Hid (Mem (NwS A w.heap.size) w x y)) (e : w.drew = w') : Hid (Mem (NwS A w'.heap.size) w' x y) := Lib.hid (memS_drewE h.out e)
theorem kY {x : At} {y : Value} (h : Hid (Mem (NwS A w.heap.size) w x y)) (hb : Below w.heap.size w w') : Hid (Mem (NwS A w'.heap.size) w' x y) := Lib.hid (memS_keep h.out hb)
end
-- end of short forms
end Go.Proofs.Ytcoiagfeoonpbaa

/-
 The document's reader, its small steps: now, fail, is, take, down, name. No condition but how the tokens lie.
-/
namespace Go.Proofs.Ytcoiagfeoonpbaa
open Go.RowKit
section
variable {ts : List Tk} {aL : Option Addr} {n cap : Nat}
theorem refBelow {w w' : World} (hf : FarB w.heap.size w.heap.size w w') : Below w.heap.size w w' := Far.toB (Far.mono hf fun b e => by rcases e with e | e <;> omega) (Nat.le_refl _)
attribute [local go_sem] tk_pos
theorem tk_text (k n l c : Int) (s : ByteArray) (w : World) : Sem.run Try.prog (Instr.field 71 (.agg #[.int .i64 k, .string s, .int .i64 n, .int .i64 l, .int .i64 c]) 1) w = .ok (.string s) w := by kernel_rfl
theorem tk_kind0 (k n l c : Int) (s : ByteArray) (w : World) : Sem.run Try.prog (Instr.field 71 (.agg #[.int .i64 k, .string s, .int .i64 n, .int .i64 l, .int .i64 c]) 0) w = .ok (.int .i64 k) w := by kernel_rfl
attribute [local go_sem] tk_text tk_kind0
end
end Go.Proofs.Ytcoiagfeoonpbaa
