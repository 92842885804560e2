/-
 The document's reader, its small steps: now, fail, is, take, down, name. No condition but how the tokens lie.
-/
import Derived.Test.YtnmlobakiclgiaaEx11
namespace Go.Proofs.Ytnmlobakiclgiaa
open Go.RowKit
section
variable {ts : List Tk} {aL : Option Addr} {n cap : Nat}
def rdV (aL : Option Addr) (n cap : Nat) (i d : Int) (b : Bool) (l c : Int) : Value := .agg #[.slice aL n cap, .int .i64 i, .int .i64 d, .bool b, .int .i64 l, .int .i64 c]
theorem refTok {w w' : World} (hf : FarB w.heap.size w.heap.size w w') (h : MemW w (.s 5 (tkRows ts)) (.slice aL n cap)) : MemW w' (.s 5 (tkRows ts)) (.slice aL n cap) :=
 Mem.mono h (fun _ hb => Nat.lt_of_lt_of_le hb hf.size) fun b hb => hf.block b hb (fun e => by have : b < w.heap.size := hb; rcases e with e | e <;> omega)
theorem refBelow {w w' : World} (hf : FarB w.heap.size w.heap.size w w') : Below w.heap.size w w' := Far.toB (Far.mono hf fun b e => by rcases e with e | e <;> omega) (Nat.le_refl _)
attribute [local go_sem] tk_pos
theorem tk_text (k n l c : Int) (s : ByteArray) (w : World) : Sem.run Try.prog (Instr.field 43 (.agg #[.int .i64 k, .string s, .int .i64 n, .int .i64 l, .int .i64 c]) 1) w = .ok (.string s) w := by kernel_rfl
theorem tk_kind0 (k n l c : Int) (s : ByteArray) (w : World) : Sem.run Try.prog (Instr.field 43 (.agg #[.int .i64 k, .string s, .int .i64 n, .int .i64 l, .int .i64 c]) 0) w = .ok (.int .i64 k) w := by kernel_rfl
attribute [local go_sem] tk_text tk_kind0
set_option maxRecDepth 100000 in
set_option maxHeartbeats 20000000 in
theorem nowR_any {i : Nat} {d : Int} {b : Bool} {l c : Int} (w : World) (h : MemW w (.s 5 (tkRows ts)) (.slice aL n cap))  :
  Calls Try.prog 23 #[rdV aL n cap (i : Int) d b l c] w fun e w' => e = .returned (tkV (nowT ts i)) ∧ Below w.heap.size w w' := by
 have H := Lib.hid h
 clear h
 have hl := H.out.len
 rw [tkRows_len] at hl
 have HL := Lib.hid hl.1
 have hn := hl.2.1
 simp only [rdV]
 clear hl
 by_cases hlt : i < n
 ·
  have hltz : (i : Int) < (n : Int) := by omega
  obtain ⟨b2, o, t, rfl, hb, Ht, x0, x1, x2, x3, x4⟩ := tk_at H.out i hlt
  have HNT : Hid (nowT ts i = t) := Lib.hid (now_at Ht.out)
  rw [HNT.out]
  clear Ht HNT
  go_enter Try.func23, Try.ntmps23
  go_wp2
  refine bodyPost_ret (v := tkV t) (by clear H HL; simp [results, Try.results23, go_sem, tkV] <;> rfl) rfl ?_
  exact ⟨rfl, (below_new w _).alloc (by simp) _⟩
 ·
  have hge : ¬ ((i : Int) < (n : Int)) := by omega
  by_cases hn0 : n = 0
  ·
   subst hn0
   have hts : ts = [] := List.eq_nil_of_length_eq_zero HL.out
   subst hts
   have HNT : Hid (nowT [] i = noTk 0 0) := Lib.hid now_none
   rw [HNT.out]
   clear HNT
   go_enter Try.func23, Try.ntmps23
   go_wp2
   refine bodyPost_ret (v := tkV (noTk 0 0)) (by clear H HL; simp [results, Try.results23, go_sem, tkV, noTk] <;> rfl) rfl ?_
   exact ⟨rfl, (below_new w _).alloc (by simp) _⟩
  ·
   obtain ⟨m, rfl⟩ : ∃ m, n = m + 1 := ⟨n - 1, by omega⟩
   obtain ⟨b2, o, t, rfl, hb, Ht, x0, x1, x2, x3, x4⟩ := tk_at H.out m (by omega)
   have HNT : Hid (nowT ts i = noTk t.l t.c) := Lib.hid (now_past (by have := HL.out; omega) (by rw [List.getLast?_eq_getElem?, HL.out]; exact Ht.out))
   rw [HNT.out]
   clear Ht HNT x0 x1 x2
   have hm0 : (m : Int) + 1 - 1 = (m : Int) := by omega
   have hm3 : (m : Int) ≤ 9223372036854775807 := by have := H.out.len; omega
   have hm1 : ¬ (((m : Nat) : Int) + 1 ≤ 0) := by omega
   have hm2 : m < m + 1 := by omega
   go_enter Try.func23, Try.ntmps23
   go_wp2
   refine bodyPost_ret (v := tkV (noTk t.l t.c)) (by clear H HL; simp [results, Try.results23, go_sem, tkV, noTk] <;> rfl) rfl ?_
   exact ⟨rfl, (below_new w _).alloc (by simp) _⟩
set_option maxRecDepth 100000 in
set_option maxHeartbeats 20000000 in
theorem failR_bad {i : Nat} {d l c : Int} (w : World) (h : MemW w (.s 5 (tkRows ts)) (.slice aL n cap))  :
  Calls Try.prog 24 #[rdV aL n cap (i : Int) d true l c] w fun e w' => e = .returned (rdV aL n cap (i : Int) d true l c) ∧ Below w.heap.size w w' := by
 have H := Lib.hid h
 clear h
 simp only [rdV]
 go_enter Try.func24, Try.ntmps24
 go_wp2
 refine bodyPost_ret (v := rdV aL n cap (i : Int) d true l c) (by clear H; simp [results, Try.results24, go_sem, rdV]) rfl ?_
 exact ⟨rfl, (below_new w _).alloc (by simp) _⟩
set_option maxRecDepth 100000 in
set_option maxHeartbeats 20000000 in
theorem failR_ok {i : Nat} {d l c : Int} (w : World) (h : MemW w (.s 5 (tkRows ts)) (.slice aL n cap))  :
  Calls Try.prog 24 #[rdV aL n cap (i : Int) d false l c] w fun e w' => e = .returned (rdV aL n cap (i : Int) d true (nowT ts i).l (nowT ts i).c) ∧ Below w.heap.size w w' := by
 have H := Lib.hid h
 clear h
 have HF : Hid (FarB w.heap.size w.heap.size w w) := Lib.hid (FarB.refl _ _ _)
 simp only [rdV]
 go_enter Try.func24, Try.ntmps24
 go_wp2_with (fail)
 generalize ee : World.alloc w _ = w1_1
 have hq1 := sizeA ee
 replace HF := fA HF ee
 have HBr := nB ee (w.heap.size)
 clear ee
 generalize ee : World.alloc w1_1 _ = w1
 have hq2 := sizeA ee
 replace HF := fA HF ee
 replace HBr := bA HBr ee
 have HBs := nB ee (w.heap.size + 1)
 clear ee
 have hsa1 : w1.heap.size = w.heap.size + 2 := by omega
 clear hq1 hq2
 have rc := kc6 HBr; have sc := kc6 HBs
 have hI := i01_0 w w1
 have hZ := i012 w
 clear rc sc
 refine (nowR_any _ (refTok HF.out H.out)).mono ?_
 rintro _ w2 ⟨rfl, hb⟩
 replace HBr := kB HBr hb
 replace HBs := kB HBs hb
 replace HF := kF HF hb
 have hs2 := hb.size
 clear hb
 simp only [tkV]
 clear hI hZ
 have rc := kc6 HBr; have sc := kc6 HBs
 have hI := i01_0 w w2
 go_wp2_with (fail)
 clear rc sc
 generalize ee : World.setCell w2 _ _ = w3_1
 have hq1 := sizeS1 ee
 replace HF := fN1 HF ee
 replace HBr : Hid (Bo w3_1 w.heap.size 47 #[.slice aL n cap, .int .i64 (i : Int), .int .i64 d, .bool false, .int .i64 (nowT ts i).l, .int .i64 c]) := Lib.hid (by rw [← ee]; exact HBr.out.set 4 (.int .i64 (nowT ts i).l))
 replace HBs := bF1 HBs ee
 clear ee
 generalize ee : World.setCell w3_1 _ _ = w3_2
 have hq2 := sizeS1 ee
 replace HF := fN1 HF ee
 replace HBr : Hid (Bo w3_2 w.heap.size 47 #[.slice aL n cap, .int .i64 (i : Int), .int .i64 d, .bool false, .int .i64 (nowT ts i).l, .int .i64 (nowT ts i).c]) := Lib.hid (by rw [← ee]; exact HBr.out.set 5 (.int .i64 (nowT ts i).c))
 replace HBs := bF1 HBs ee
 clear ee
 generalize ee : World.setCell w3_2 _ _ = w3_3
 have hq3 := sizeS1 ee
 replace HF := fN1 HF ee
 replace HBr : Hid (Bo w3_3 w.heap.size 47 #[.slice aL n cap, .int .i64 (i : Int), .int .i64 d, .bool true, .int .i64 (nowT ts i).l, .int .i64 (nowT ts i).c]) := Lib.hid (by rw [← ee]; exact HBr.out.set 3 (.bool true))
 replace HBs := bF1 HBs ee
 clear ee
 generalize ee : World.setCell _ ⟨(w.heap.size + 1), 5, none⟩ _ = w3
 have hq4 := sizeS6 ee
 replace HF := fN6 HF ee
 replace HBr := bF6 HBr ee
 replace HBs := bS6 HBs ee
 clear ee
 have hsz3 : w3.heap.size = w2.heap.size := by omega
 clear hq1 hq2 hq3 hq4
 clear hI
 have z := kc6 HBs
 refine bodyPost_ret (v := rdV aL n cap (i : Int) d true (nowT ts i).l (nowT ts i).c) (by clear HF H HBr HBs; simp [results, Try.results24, go_sem, rdV, z]) rfl ?_
 exact ⟨rfl, refBelow HF.out⟩
set_option maxRecDepth 100000 in
set_option maxHeartbeats 20000000 in
theorem isR_bad {i : Nat} {d l c : Int} {k : Int} {s : ByteArray} (w : World) (h : MemW w (.s 5 (tkRows ts)) (.slice aL n cap))  :
  Calls Try.prog 30 #[rdV aL n cap (i : Int) d true l c, .int .i64 k, .string s] w fun e w' => e = .returned (.bool false) ∧ Below w.heap.size w w' := by
 have H := Lib.hid h
 clear h
 simp only [rdV]
 go_enter Try.func30, Try.ntmps30
 go_wp2_with (fail)
 refine bodyPost_ret (results_tmp rfl _ _ _) rfl ?_
 exact ⟨rfl, below_new w _⟩
set_option maxRecDepth 100000 in
set_option maxHeartbeats 20000000 in
theorem isR_ok {i : Nat} {d l c : Int} {k : Int} {s : ByteArray} (w : World) (h : MemW w (.s 5 (tkRows ts)) (.slice aL n cap))  :
  Calls Try.prog 30 #[rdV aL n cap (i : Int) d false l c, .int .i64 k, .string s] w fun e w' => e = .returned (.bool (isT ts i k s)) ∧ Below w.heap.size w w' := by
 have H := Lib.hid h
 clear h
 have HF : Hid (FarB w.heap.size w.heap.size w w) := Lib.hid (FarB.refl _ _ _)
 simp only [rdV]
 go_enter Try.func30, Try.ntmps30
 go_wp2_with (fail)
 generalize ee : World.alloc w _ = w1
 have hsa1 := sizeA ee
 replace HF := fA HF ee
 have HBr := nB ee (w.heap.size)
 clear ee
 have rc := kc6 HBr
 have hI := i0_0 w w1
 have hZ := i01 w
 clear rc
 refine (nowR_any _ (refTok HF.out H.out)).mono ?_
 rintro _ w2 ⟨rfl, hb⟩
 replace HBr := kB HBr hb
 replace HF := kF HF hb
 have hs2 := hb.size
 clear hb
 simp only [tkV]
 by_cases hk : (nowT ts i).k = k
 rotate_left
 ·
  have e1 : ((nowT ts i).k == k) = false := by simp [hk]
  clear hI hZ
  have rc := kc6 HBr
  have hI := i0_0 w w2
  go_wp2_with (fail)
  refine bodyPost_ret (results_tmp rfl _ _ _) rfl ?_
  exact ⟨congrArg (fun b => Ending.returned (.bool b)) (by unfold isT; rw [decide_eq_false hk, Bool.false_and]), refBelow HF.out⟩
 have e1 : ((nowT ts i).k == k) = true := by simp [hk]
 clear hI hZ
 have rc := kc6 HBr
 have hI := i0_0 w w2
 go_wp2_with (fail)
 clear rc
 refine (nowR_any _ (refTok HF.out H.out)).mono ?_
 rintro _ w3 ⟨rfl, hb⟩
 replace HBr := kB HBr hb
 replace HF := kF HF hb
 have hs3 := hb.size
 clear hb
 simp only [tkV]
 clear hI
 have rc := kc6 HBr
 have hI := i0_0 w w3
 go_wp2_with (fail)
 refine bodyPost_ret (results_tmp rfl _ _ _) rfl ?_
 exact ⟨congrArg (fun b => Ending.returned (.bool b)) (by unfold isT; rw [decide_eq_true hk, Bool.true_and, ← ba_eq, ← toList_beq]), refBelow HF.out⟩
set_option maxRecDepth 100000 in
set_option maxHeartbeats 20000000 in
theorem takeR_bad {i : Nat} {d l c : Int} {k : Int} {s : ByteArray} (w : World) (h : MemW w (.s 5 (tkRows ts)) (.slice aL n cap))  :
  Calls Try.prog 33 #[rdV aL n cap (i : Int) d true l c, .int .i64 k, .string s] w fun e w' => e = .returned (rdV aL n cap (i : Int) d true l c) ∧ Below w.heap.size w w' := by
 have H := Lib.hid h
 clear h
 have HF : Hid (FarB w.heap.size w.heap.size w w) := Lib.hid (FarB.refl _ _ _)
 simp only [rdV]
 go_enter Try.func33, Try.ntmps33
 go_wp2_with (fail)
 generalize ee : World.alloc w _ = w1_1
 have hq1 := sizeA ee
 replace HF := fA HF ee
 have HBr := nB ee (w.heap.size)
 clear ee
 generalize ee : World.alloc w1_1 _ = w1
 have hq2 := sizeA ee
 replace HF := fA HF ee
 replace HBr := bA HBr ee
 have HBs := nB ee (w.heap.size + 1)
 clear ee
 have hsa1 : w1.heap.size = w.heap.size + 2 := by omega
 clear hq1 hq2
 have rc := kc6 HBr; have sc := kc6 HBs
 have hI := i01_0 w w1
 have hZ := i012 w
 clear rc sc
 refine (isR_bad _ (refTok HF.out H.out)).mono ?_
 rintro _ w2 ⟨rfl, hb⟩
 replace HBr := kB HBr hb
 replace HBs := kB HBs hb
 replace HF := kF HF hb
 have hs2 := hb.size
 clear hb
 clear hI hZ
 have rc := kc6 HBr; have sc := kc6 HBs
 have hI := i01_0 w w2
 go_wp2_with (fail)
 clear rc sc
 refine (failR_bad _ (refTok HF.out H.out)).mono ?_
 rintro _ w3 ⟨rfl, hb⟩
 replace HBr := kB HBr hb
 replace HBs := kB HBs hb
 replace HF := kF HF hb
 have hs3 := hb.size
 clear hb
 simp only [rdV]
 clear hI
 have rc := kc6 HBr; have sc := kc6 HBs
 have hI := i01_0 w w3
 go_wp2_with (fail)
 clear rc sc
 generalize ee : World.setCell _ ⟨(w.heap.size + 1), 5, none⟩ _ = w4
 have hsz4 := sizeS6 ee
 replace HF := fN6 HF ee
 replace HBr := bF6 HBr ee
 replace HBs := bS6 HBs ee
 clear ee
 clear hI
 have z := kc6 HBs
 refine bodyPost_ret (v := rdV aL n cap (i : Int) d true l c) (by clear HF H HBr HBs; simp [results, Try.results33, go_sem, rdV, z]) rfl ?_
 exact ⟨rfl, refBelow HF.out⟩
set_option maxRecDepth 100000 in
set_option maxHeartbeats 20000000 in
theorem takeR_no {i : Nat} {d l c : Int} {k : Int} {s : ByteArray} (w : World) (h : MemW w (.s 5 (tkRows ts)) (.slice aL n cap)) (hk : isT ts i k s = false) :
  Calls Try.prog 33 #[rdV aL n cap (i : Int) d false l c, .int .i64 k, .string s] w fun e w' => e = .returned (rdV aL n cap (i : Int) d true (nowT ts i).l (nowT ts i).c) ∧ Below w.heap.size w w' := by
 have H := Lib.hid h
 clear h
 have HF : Hid (FarB w.heap.size w.heap.size w w) := Lib.hid (FarB.refl _ _ _)
 simp only [rdV]
 go_enter Try.func33, Try.ntmps33
 go_wp2_with (fail)
 generalize ee : World.alloc w _ = w1_1
 have hq1 := sizeA ee
 replace HF := fA HF ee
 have HBr := nB ee (w.heap.size)
 clear ee
 generalize ee : World.alloc w1_1 _ = w1
 have hq2 := sizeA ee
 replace HF := fA HF ee
 replace HBr := bA HBr ee
 have HBs := nB ee (w.heap.size + 1)
 clear ee
 have hsa1 : w1.heap.size = w.heap.size + 2 := by omega
 clear hq1 hq2
 have rc := kc6 HBr; have sc := kc6 HBs
 have hI := i01_0 w w1
 have hZ := i012 w
 clear rc sc
 refine (isR_ok _ (refTok HF.out H.out)).mono ?_
 rintro _ w2 ⟨rfl, hb⟩
 replace HBr := kB HBr hb
 replace HBs := kB HBs hb
 replace HF := kF HF hb
 have hs2 := hb.size
 clear hb
 rw [hk]
 clear hI hZ
 have rc := kc6 HBr; have sc := kc6 HBs
 have hI := i01_0 w w2
 go_wp2_with (fail)
 clear rc sc
 refine (failR_ok _ (refTok HF.out H.out)).mono ?_
 rintro _ w3 ⟨rfl, hb⟩
 replace HBr := kB HBr hb
 replace HBs := kB HBs hb
 replace HF := kF HF hb
 have hs3 := hb.size
 clear hb
 simp only [rdV]
 clear hI
 have rc := kc6 HBr; have sc := kc6 HBs
 have hI := i01_0 w w3
 go_wp2_with (fail)
 clear rc sc
 generalize ee : World.setCell _ ⟨(w.heap.size + 1), 5, none⟩ _ = w4
 have hsz4 := sizeS6 ee
 replace HF := fN6 HF ee
 replace HBr := bF6 HBr ee
 replace HBs := bS6 HBs ee
 clear ee
 clear hI
 have z := kc6 HBs
 refine bodyPost_ret (v := rdV aL n cap (i : Int) d true (nowT ts i).l (nowT ts i).c) (by clear HF H HBr HBs; simp [results, Try.results33, go_sem, rdV, z]) rfl ?_
 exact ⟨rfl, refBelow HF.out⟩
set_option maxRecDepth 100000 in
set_option maxHeartbeats 20000000 in
theorem takeR_ok {i : Nat} {d l c : Int} {k : Int} {s : ByteArray} (w : World) (h : MemW w (.s 5 (tkRows ts)) (.slice aL n cap)) (hk : isT ts i k s = true) (hk1 : k ≠ -1) :
  Calls Try.prog 33 #[rdV aL n cap (i : Int) d false l c, .int .i64 k, .string s] w fun e w' => e = .returned (rdV aL n cap ((i + 1 : Nat) : Int) d false l c) ∧ Below w.heap.size w w' := by
 have H := Lib.hid h
 clear h
 have HF : Hid (FarB w.heap.size w.heap.size w w) := Lib.hid (FarB.refl _ _ _)
 simp only [rdV]
 go_enter Try.func33, Try.ntmps33
 have hil : i < ts.length := isT_lt hk (by assumption)
 have hoi : (i : Int) + 1 ≤ 9223372036854775807 := by have h1 := H.out.len; rw [tkRows_len] at h1; omega
 clear hil
 go_wp2_with (fail)
 generalize ee : World.alloc w _ = w1_1
 have hq1 := sizeA ee
 replace HF := fA HF ee
 have HBr := nB ee (w.heap.size)
 clear ee
 generalize ee : World.alloc w1_1 _ = w1
 have hq2 := sizeA ee
 replace HF := fA HF ee
 replace HBr := bA HBr ee
 have HBs := nB ee (w.heap.size + 1)
 clear ee
 have hsa1 : w1.heap.size = w.heap.size + 2 := by omega
 clear hq1 hq2
 have rc := kc6 HBr; have sc := kc6 HBs
 have hI := i01_0 w w1
 have hZ := i012 w
 clear rc sc
 refine (isR_ok _ (refTok HF.out H.out)).mono ?_
 rintro _ w2 ⟨rfl, hb⟩
 replace HBr := kB HBr hb
 replace HBs := kB HBs hb
 replace HF := kF HF hb
 have hs2 := hb.size
 clear hb
 rw [hk]
 clear hI hZ
 have rc := kc6 HBr; have sc := kc6 HBs
 have hI := i01_0 w w2
 go_wp2_with (fail)
 clear rc sc
 generalize ee : World.setCell w2 _ _ = w3_1
 have hq1 := sizeS1 ee
 replace HF := fN1 HF ee
 replace HBr : Hid (Bo w3_1 w.heap.size 47 #[.slice aL n cap, .int .i64 ((i : Int) + 1), .int .i64 d, .bool false, .int .i64 l, .int .i64 c]) := Lib.hid (by rw [← ee]; exact HBr.out.set 1 (.int .i64 ((i : Int) + 1)))
 replace HBs := bF1 HBs ee
 clear ee
 generalize ee : World.setCell _ ⟨(w.heap.size + 1), 5, none⟩ _ = w3
 have hq2 := sizeS6 ee
 replace HF := fN6 HF ee
 replace HBr := bF6 HBr ee
 replace HBs := bS6 HBs ee
 clear ee
 have hsz3 : w3.heap.size = w2.heap.size := by omega
 clear hq1 hq2
 clear hI
 have z := kc6 HBs
 refine bodyPost_ret (v := rdV aL n cap ((i + 1 : Nat) : Int) d false l c) (by clear HF H HBr HBs; simp [results, Try.results33, go_sem, rdV, z]) rfl ?_
 exact ⟨rfl, refBelow HF.out⟩
set_option maxRecDepth 100000 in
set_option maxHeartbeats 20000000 in
theorem downR_ok {i deep : Nat} {l c : Int} (w : World) (h : MemW w (.s 5 (tkRows ts)) (.slice aL n cap)) (hd : deep < 40) (hi : i < ts.length) :
  Calls Try.prog 31 #[rdV aL n cap (i : Int) (deep : Int) false l c] w fun e w' => e = .returned (rdV aL n cap ((i + 1 : Nat) : Int) ((deep + 1 : Nat) : Int) false l c) ∧ Below w.heap.size w w' := by
 have H := Lib.hid h
 clear h
 have HF : Hid (FarB w.heap.size w.heap.size w w) := Lib.hid (FarB.refl _ _ _)
 simp only [rdV]
 go_enter Try.func31, Try.ntmps31
 have hoi : (i : Int) + 1 ≤ 9223372036854775807 := by have h1 := H.out.len; rw [tkRows_len] at h1; omega
 have h40 : ¬ ((40 : Int) ≤ (deep : Int)) := by omega
 have hod : (deep : Int) + 1 ≤ 9223372036854775807 := by omega
 go_wp2_with (fail)
 refine bodyPost_ret (v := rdV aL n cap ((i + 1 : Nat) : Int) ((deep + 1 : Nat) : Int) false l c) (by clear H; simp [results, Try.results31, go_sem, rdV]) rfl ?_
 exact ⟨rfl, (below_new w _).alloc (by simp) _⟩
set_option maxRecDepth 100000 in
set_option maxHeartbeats 20000000 in
theorem downR_bad {i : Nat} {l c : Int} (w : World) (h : MemW w (.s 5 (tkRows ts)) (.slice aL n cap))  :
  Calls Try.prog 31 #[rdV aL n cap (i : Int) 40 false l c] w fun e w' => e = .returned (rdV aL n cap (i : Int) 40 true (nowT ts i).l (nowT ts i).c) ∧ Below w.heap.size w w' := by
 have H := Lib.hid h
 clear h
 have HF : Hid (FarB w.heap.size w.heap.size w w) := Lib.hid (FarB.refl _ _ _)
 simp only [rdV]
 go_enter Try.func31, Try.ntmps31
 go_wp2_with (fail)
 generalize ee : World.alloc w _ = w1_1
 have hq1 := sizeA ee
 replace HF := fA HF ee
 have HBr := nB ee (w.heap.size)
 clear ee
 generalize ee : World.alloc w1_1 _ = w1
 have hq2 := sizeA ee
 replace HF := fA HF ee
 replace HBr := bA HBr ee
 have HBs := nB ee (w.heap.size + 1)
 clear ee
 have hsa1 : w1.heap.size = w.heap.size + 2 := by omega
 clear hq1 hq2
 have rc := kc6 HBr; have sc := kc6 HBs
 have hI := i01_0 w w1
 have hZ := i012 w
 clear rc sc
 refine (failR_ok _ (refTok HF.out H.out)).mono ?_
 rintro _ w2 ⟨rfl, hb⟩
 replace HBr := kB HBr hb
 replace HBs := kB HBs hb
 replace HF := kF HF hb
 have hs2 := hb.size
 clear hb
 simp only [rdV]
 clear hI hZ
 have rc := kc6 HBr; have sc := kc6 HBs
 have hI := i01_0 w w2
 go_wp2_with (fail)
 clear rc sc
 generalize ee : World.setCell _ ⟨(w.heap.size + 1), 5, none⟩ _ = w3
 have hsz3 := sizeS6 ee
 replace HF := fN6 HF ee
 replace HBr := bF6 HBr ee
 replace HBs := bS6 HBs ee
 clear ee
 clear hI
 have z := kc6 HBs
 refine bodyPost_ret (v := rdV aL n cap (i : Int) 40 true (nowT ts i).l (nowT ts i).c) (by clear HF H HBr HBs; simp [results, Try.results31, go_sem, rdV, z]) rfl ?_
 exact ⟨rfl, refBelow HF.out⟩
end
end Go.Proofs.Ytnmlobakiclgiaa

/-
 The document's reader: name, plain. No condition but how the tokens lie.
-/
namespace Go.Proofs.Ytnmlobakiclgiaa
open Go.RowKit
theorem farS1 {g : Nat} {a w : World} (h : Far (fun b => b = g) a w) (j : Nat) (v : Value) : Far (fun b => b = g) a (w.setCell ⟨g, j, none⟩ v) := h.setCell (p := ⟨g, j, none⟩) rfl v
section
variable {ts : List Tk} {aL : Option Addr} {n cap : Nat}
set_option maxRecDepth 100000 in
set_option maxHeartbeats 20000000 in
theorem nameR_bad {i : Nat} {d l c : Int} {k : Int} (w : World) (h : MemW w (.s 5 (tkRows ts)) (.slice aL n cap))  :
  Calls Try.prog 32 #[rdV aL n cap (i : Int) d true l c, .int .i64 k] w fun e w' => e = .returned (.tuple #[rdV aL n cap (i : Int) d true l c, .string ⟨#[]⟩]) ∧ Below w.heap.size w w' := by
 have H := Lib.hid h
 clear h
 have HF : Hid (FarB w.heap.size w.heap.size w w) := Lib.hid (FarB.refl _ _ _)
 simp only [rdV]
 go_enter Try.func32, Try.ntmps32
 go_wp2_with (fail)
 generalize ee : World.alloc w _ = w1_1
 have hq1 := sizeA ee
 replace HF := fA HF ee
 have HBr := nB ee (w.heap.size)
 clear ee
 generalize ee : World.alloc w1_1 _ = w1
 have hq2 := sizeA ee
 replace HF := fA HF ee
 replace HBr := bA HBr ee
 have HBs := nB ee (w.heap.size + 1)
 clear ee
 have hsa1 : w1.heap.size = w.heap.size + 2 := by omega
 clear hq1 hq2
 have rc := kc6 HBr; have sc := kc6 HBs
 have hI := i01_0 w w1
 have hZ := i012 w
 clear rc sc
 refine (nowR_any _ (refTok HF.out H.out)).mono ?_
 rintro _ w2 ⟨rfl, hb⟩
 replace HBr := kB HBr hb
 replace HBs := kB HBs hb
 replace HF := kF HF hb
 have hs2 := hb.size
 clear hb
 simp only [tkV]
 clear hI hZ
 have rc := kc6 HBr; have sc := kc6 HBs
 have hI := i01_0 w w2
 go_wp2_with (fail)
 clear rc sc
 generalize ee : World.alloc w2 _ = w3
 have hsa3 := sizeA ee
 replace HF := fA HF ee
 replace HBr := bA HBr ee
 replace HBs := bA HBs ee
 have HBt := nB ee (w2.heap.size)
 clear ee
 clear hI
 have rc := kc6 HBr; have sc := kc6 HBs; have tc := kc5 HBt
 have hI := i01_0_0 w w2 w3
 have hZ := i01_01 w w2
 clear rc sc tc
 refine (failR_bad _ (refTok HF.out H.out)).mono ?_
 rintro _ w4 ⟨rfl, hb⟩
 replace HBr := kB HBr hb
 replace HBs := kB HBs hb
 replace HBt := kB HBt hb
 replace HF := kF HF hb
 have hs4 := hb.size
 clear hb
 simp only [rdV]
 clear hI hZ
 have rc := kc6 HBr; have sc := kc6 HBs; have tc := kc5 HBt
 have hI := i01_0_0 w w2 w4
 go_wp2_with (fail)
 clear rc sc tc
 generalize ee : World.setCell _ ⟨(w.heap.size + 1), 5, none⟩ _ = w5
 have hsz5 := sizeS6 ee
 replace HF := fN6 HF ee
 replace HBr := bF6 HBr ee
 replace HBs := bS6 HBs ee
 replace HBt := bF6 HBt ee
 clear ee
 clear hI
 have z := kc6 HBs
 refine bodyPost_ret (v := .tuple #[rdV aL n cap (i : Int) d true l c, .string ⟨#[]⟩]) (by clear HF H HBr HBs HBt; simp [results, Try.results32, go_sem, rdV, z]) rfl ?_
 exact ⟨rfl, refBelow HF.out⟩
set_option maxRecDepth 100000 in
set_option maxHeartbeats 20000000 in
theorem nameR_no {i : Nat} {d l c : Int} {k : Int} (w : World) (h : MemW w (.s 5 (tkRows ts)) (.slice aL n cap)) (hk : ¬ (nowT ts i).k = k) :
  Calls Try.prog 32 #[rdV aL n cap (i : Int) d false l c, .int .i64 k] w fun e w' => e = .returned (.tuple #[rdV aL n cap (i : Int) d true (nowT ts i).l (nowT ts i).c, .string ⟨#[]⟩]) ∧ Below w.heap.size w w' := by
 have H := Lib.hid h
 clear h
 have HF : Hid (FarB w.heap.size w.heap.size w w) := Lib.hid (FarB.refl _ _ _)
 simp only [rdV]
 go_enter Try.func32, Try.ntmps32
 go_wp2_with (fail)
 generalize ee : World.alloc w _ = w1_1
 have hq1 := sizeA ee
 replace HF := fA HF ee
 have HBr := nB ee (w.heap.size)
 clear ee
 generalize ee : World.alloc w1_1 _ = w1
 have hq2 := sizeA ee
 replace HF := fA HF ee
 replace HBr := bA HBr ee
 have HBs := nB ee (w.heap.size + 1)
 clear ee
 have hsa1 : w1.heap.size = w.heap.size + 2 := by omega
 clear hq1 hq2
 have rc := kc6 HBr; have sc := kc6 HBs
 have hI := i01_0 w w1
 have hZ := i012 w
 clear rc sc
 refine (nowR_any _ (refTok HF.out H.out)).mono ?_
 rintro _ w2 ⟨rfl, hb⟩
 replace HBr := kB HBr hb
 replace HBs := kB HBs hb
 replace HF := kF HF hb
 have hs2 := hb.size
 clear hb
 simp only [tkV]
 have e1 : ((nowT ts i).k != k) = true := by simp [hk]
 clear hI hZ
 have rc := kc6 HBr; have sc := kc6 HBs
 have hI := i01_0 w w2
 go_wp2_with (fail)
 clear rc sc
 generalize ee : World.alloc w2 _ = w3
 have hsa3 := sizeA ee
 replace HF := fA HF ee
 replace HBr := bA HBr ee
 replace HBs := bA HBs ee
 have HBt := nB ee (w2.heap.size)
 clear ee
 clear hI
 have rc := kc6 HBr; have sc := kc6 HBs; have tc := kc5 HBt
 have hI := i01_0_0 w w2 w3
 have hZ := i01_01 w w2
 clear rc sc tc
 refine (failR_ok _ (refTok HF.out H.out)).mono ?_
 rintro _ w4 ⟨rfl, hb⟩
 replace HBr := kB HBr hb
 replace HBs := kB HBs hb
 replace HBt := kB HBt hb
 replace HF := kF HF hb
 have hs4 := hb.size
 clear hb
 simp only [rdV]
 clear hI hZ
 have rc := kc6 HBr; have sc := kc6 HBs; have tc := kc5 HBt
 have hI := i01_0_0 w w2 w4
 go_wp2_with (fail)
 clear rc sc tc
 generalize ee : World.setCell _ ⟨(w.heap.size + 1), 5, none⟩ _ = w5
 have hsz5 := sizeS6 ee
 replace HF := fN6 HF ee
 replace HBr := bF6 HBr ee
 replace HBs := bS6 HBs ee
 replace HBt := bF6 HBt ee
 clear ee
 clear hI
 have z := kc6 HBs
 refine bodyPost_ret (v := .tuple #[rdV aL n cap (i : Int) d true (nowT ts i).l (nowT ts i).c, .string ⟨#[]⟩]) (by clear HF H HBr HBs HBt; simp [results, Try.results32, go_sem, rdV, z]) rfl ?_
 exact ⟨rfl, refBelow HF.out⟩
set_option maxRecDepth 100000 in
set_option maxHeartbeats 20000000 in
theorem nameR_ok {i : Nat} {d l c : Int} {k : Int} (w : World) (h : MemW w (.s 5 (tkRows ts)) (.slice aL n cap)) (hk : (nowT ts i).k = k) (hk1 : k ≠ -1) :
  Calls Try.prog 32 #[rdV aL n cap (i : Int) d false l c, .int .i64 k] w fun e w' => e = .returned (.tuple #[rdV aL n cap ((i + 1 : Nat) : Int) d false l c, .string (nowT ts i).s]) ∧ Below w.heap.size w w' := by
 have H := Lib.hid h
 clear h
 have HF : Hid (FarB w.heap.size w.heap.size w w) := Lib.hid (FarB.refl _ _ _)
 simp only [rdV]
 go_enter Try.func32, Try.ntmps32
 have hil : i < ts.length := now_lt (by rw [hk]; exact hk1)
 have hoi : (i : Int) + 1 ≤ 9223372036854775807 := by have h1 := H.out.len; rw [tkRows_len] at h1; omega
 clear hil
 go_wp2_with (fail)
 generalize ee : World.alloc w _ = w1_1
 have hq1 := sizeA ee
 replace HF := fA HF ee
 have HBr := nB ee (w.heap.size)
 clear ee
 generalize ee : World.alloc w1_1 _ = w1
 have hq2 := sizeA ee
 replace HF := fA HF ee
 replace HBr := bA HBr ee
 have HBs := nB ee (w.heap.size + 1)
 clear ee
 have hsa1 : w1.heap.size = w.heap.size + 2 := by omega
 clear hq1 hq2
 have rc := kc6 HBr; have sc := kc6 HBs
 have hI := i01_0 w w1
 have hZ := i012 w
 clear rc sc
 refine (nowR_any _ (refTok HF.out H.out)).mono ?_
 rintro _ w2 ⟨rfl, hb⟩
 replace HBr := kB HBr hb
 replace HBs := kB HBs hb
 replace HF := kF HF hb
 have hs2 := hb.size
 clear hb
 simp only [tkV]
 have e1 : ((nowT ts i).k != k) = false := by simp [hk]
 clear hI hZ
 have rc := kc6 HBr; have sc := kc6 HBs
 have hI := i01_0 w w2
 go_wp2_with (fail)
 clear rc sc
 generalize ee : World.setCell w2 _ _ = w3_1
 have hq1 := sizeS1 ee
 replace HF := fN1 HF ee
 replace HBr : Hid (Bo w3_1 w.heap.size 47 #[.slice aL n cap, .int .i64 ((i : Int) + 1), .int .i64 d, .bool false, .int .i64 l, .int .i64 c]) := Lib.hid (by rw [← ee]; exact HBr.out.set 1 (.int .i64 ((i : Int) + 1)))
 replace HBs := bF1 HBs ee
 clear ee
 generalize ee : World.alloc w3_1 _ = w3
 have hq2 := sizeA ee
 replace HF := fA HF ee
 replace HBr := bA HBr ee
 replace HBs := bA HBs ee
 have HBt := nB ee (w2.heap.size)
 clear ee
 have hsa3 : w3.heap.size = w2.heap.size + 1 := by omega
 clear hq1 hq2
 clear hI
 have rc := kc6 HBr; have sc := kc6 HBs; have tc := kc5 HBt
 have hI := i01_0_0 w w2 w3
 have hZ := i01_01 w w2
 refine wp_region_held_drew (S := fun w' => Far (fun b => b = (w.heap.size + 1)) (w3) w') (by kernel_rfl) (Far.of (below_drew _)) (fun hS40 => ?_)
 refine takeA 0 (v := ?_) rfl ?_ ?_
 rotate_left
 · (intro w hSw; (try dsimp only at hSw); replace rc := Far.c6z rc hSw (by intro e; have e : _ = _ := e; omega); replace tc := Far.c5z tc hSw (by intro e; have e : _ = _ := e; omega); go_simp; try with_reducible rfl)
 try simp only [Act.put, pu1, pu2, pu3]
 refine takeA 1 (v := ?_) rfl ?_ ?_
 rotate_left
 · (intro w hSw; (try dsimp only at hSw); replace rc := Far.c6z rc hSw (by intro e; have e : _ = _ := e; omega); replace tc := Far.c5z tc hSw (by intro e; have e : _ = _ := e; omega); go_simp; try with_reducible rfl)
 try simp only [Act.put, pu1, pu2, pu3]
 refine takeA 2 (v := ?_) rfl ?_ ?_
 rotate_left
 · (intro w hSw; (try dsimp only at hSw); replace rc := Far.c6z rc hSw (by intro e; have e : _ = _ := e; omega); replace tc := Far.c5z tc hSw (by intro e; have e : _ = _ := e; omega); go_simp; try with_reducible rfl)
 try simp only [Act.put, pu1, pu2, pu3]
 refine callA 3 rfl fun K hK => ?_
 go_simp
 refine hK.out _ _ ?_ (fun hS41 => ?_)
 · exact (by refine Far.trans ?_ (Far.of (below_drew _)); (iterate 6 (refine farS1 ?_ _ _)); exact Far.refl _ _)
 clear hK K
 refine takeA 4 (v := ?_) rfl ?_ ?_
 rotate_left
 · (intro w hSw; (try dsimp only at hSw); go_simp; try with_reducible rfl)
 try simp only [Act.put, pu1, pu2, pu3]
 refine wpAnyH_done (by kernel_rfl) ?_ _

 clear rc sc tc
 generalize ee : ((((((w3.setCell ⟨(w.heap.size + 1), 0, none⟩ (.slice aL n cap)).setCell ⟨(w.heap.size + 1), 1, none⟩ (.int .i64 ((i : Int) + 1))).setCell ⟨(w.heap.size + 1), 2, none⟩ (.int .i64 d)).setCell ⟨(w.heap.size + 1), 3, none⟩ (.bool false)).setCell ⟨(w.heap.size + 1), 4, none⟩ (.int .i64 l)).setCell ⟨(w.heap.size + 1), 5, none⟩ (.int .i64 c)) = w4_1 at *
 have hq1 := sizeS6 ee
 replace HF := fN6 HF ee
 replace HBr := bF6 HBr ee
 replace HBs := bS6 HBs ee
 replace HBt := bF6 HBt ee
 clear ee
 generalize ee : (w4_1.drew) = w4 at *
 have hq2 := sizeD ee
 replace HF := fD HF ee
 replace HBr := bD HBr ee
 replace HBs := bD HBs ee
 replace HBt := bD HBt ee
 clear ee
 have hsa4 : w4.heap.size = w2.heap.size + 1 := by omega
 clear hq1 hq2
 clear hI hZ
 have rc := kc6 HBr; have sc := kc6 HBs; have tc := kc5 HBt
 have hI := i01_0_0 w w2 w4
 have hZ := i01_01 w w2
 go_wp2_with (fail)
 clear rc sc tc
 have z := kc6 HBs
 refine bodyPost_ret (v := .tuple #[rdV aL n cap ((i + 1 : Nat) : Int) d false l c, .string (nowT ts i).s]) (by clear HF H HBr HBs HBt; simp [results, Try.results32, go_sem, rdV, z]) rfl ?_
 exact ⟨rfl, refBelow HF.out⟩
set_option maxRecDepth 100000 in
set_option maxHeartbeats 20000000 in
theorem plainR_bad {i : Nat} {d l c : Int} (w : World) (h : MemW w (.s 5 (tkRows ts)) (.slice aL n cap))  :
  Calls Try.prog 35 #[rdV aL n cap (i : Int) d true l c] w fun e w' => e = .returned (.tuple #[rdV aL n cap (i : Int) d true l c, .agg #[.int .i64 0, .string ⟨#[]⟩, .int .i64 0, .slice none 0 0, .int .i64 0, .int .i64 0]]) ∧ Below w.heap.size w w' := by
 have H := Lib.hid h
 clear h
 have HF : Hid (FarB w.heap.size w.heap.size w w) := Lib.hid (FarB.refl _ _ _)
 simp only [rdV]
 go_enter Try.func35, Try.ntmps35
 go_wp2_with (fail)
 generalize ee : World.alloc w _ = w1_1
 have hq1 := sizeA ee
 replace HF := fA HF ee
 have HBr := nB ee (w.heap.size)
 clear ee
 generalize ee : World.alloc w1_1 _ = w1_2
 have hq2 := sizeA ee
 replace HF := fA HF ee
 replace HBr := bA HBr ee
 have HBs := nB ee (w.heap.size + 1)
 clear ee
 generalize ee : World.alloc w1_2 _ = w1
 have hq3 := sizeA ee
 replace HF := fA HF ee
 replace HBr := bA HBr ee
 replace HBs := bA HBs ee
 have HBx := nB ee (w.heap.size + 2)
 clear ee
 have hsa1 : w1.heap.size = w.heap.size + 3 := by omega
 clear hq1 hq2 hq3
 have rc := kc6 HBr; have sc := kc6 HBs; have xc := kc6 HBx
 have hI := i012_0 w w1
 have hZ := i0123 w
 clear rc sc xc
 refine (nowR_any _ (refTok HF.out H.out)).mono ?_
 rintro _ w2 ⟨rfl, hb⟩
 replace HBr := kB HBr hb
 replace HBs := kB HBs hb
 replace HBx := kB HBx hb
 replace HF := kF HF hb
 have hs2 := hb.size
 clear hb
 simp only [tkV]
 clear hI hZ
 have rc := kc6 HBr; have sc := kc6 HBs; have xc := kc6 HBx
 have hI := i012_0 w w2
 go_wp2_with (fail)
 clear rc sc xc
 generalize ee : World.setCell _ ⟨(w.heap.size + 1), 5, none⟩ _ = w3_1
 have hq1 := sizeS6 ee
 replace HF := fN6 HF ee
 replace HBr := bF6 HBr ee
 replace HBs := bS6 HBs ee
 replace HBx := bF6 HBx ee
 clear ee
 generalize ee : World.setCell _ ⟨(w.heap.size + 2), 5, none⟩ _ = w3_2
 have hq2 := sizeS6 ee
 replace HF := fN6 HF ee
 replace HBr := bF6 HBr ee
 replace HBs := bF6 HBs ee
 replace HBx := bS6 HBx ee
 clear ee
 generalize ee : World.alloc w3_2 _ = w3
 have hq3 := sizeA ee
 replace HF := fA HF ee
 replace HBr := bA HBr ee
 replace HBs := bA HBs ee
 replace HBx := bA HBx ee
 have HBt := nB ee (w2.heap.size)
 clear ee
 have hsa3 : w3.heap.size = w2.heap.size + 1 := by omega
 clear hq1 hq2 hq3
 clear hI
 have z := kc6 HBs; have y := kc6 HBx
 refine bodyPost_ret (v := .tuple #[rdV aL n cap (i : Int) d true l c, .agg #[.int .i64 0, .string ⟨#[]⟩, .int .i64 0, .slice none 0 0, .int .i64 0, .int .i64 0]]) (by clear HF H HBr HBs HBx HBt; simp [results, Try.results35, go_sem, rdV, z, y]) rfl ?_
 exact ⟨rfl, refBelow HF.out⟩
set_option maxRecDepth 100000 in
set_option maxHeartbeats 20000000 in
theorem plainR_none {i : Nat} {d l c : Int} (w : World) (h : MemW w (.s 5 (tkRows ts)) (.slice aL n cap)) (hk2 : ¬ (nowT ts i).k = 2) (hk3 : ¬ (nowT ts i).k = 3) (hk4 : ¬ (nowT ts i).k = 4) :
  Calls Try.prog 35 #[rdV aL n cap (i : Int) d false l c] w fun e w' => e = .returned (.tuple #[rdV aL n cap (i : Int) d false l c, .agg #[.int .i64 0, .string ⟨#[]⟩, .int .i64 0, .slice none 0 0, .int .i64 0, .int .i64 0]]) ∧ Below w.heap.size w w' := by
 have H := Lib.hid h
 clear h
 have HF : Hid (FarB w.heap.size w.heap.size w w) := Lib.hid (FarB.refl _ _ _)
 simp only [rdV]
 go_enter Try.func35, Try.ntmps35
 go_wp2_with (fail)
 generalize ee : World.alloc w _ = w1_1
 have hq1 := sizeA ee
 replace HF := fA HF ee
 have HBr := nB ee (w.heap.size)
 clear ee
 generalize ee : World.alloc w1_1 _ = w1_2
 have hq2 := sizeA ee
 replace HF := fA HF ee
 replace HBr := bA HBr ee
 have HBs := nB ee (w.heap.size + 1)
 clear ee
 generalize ee : World.alloc w1_2 _ = w1
 have hq3 := sizeA ee
 replace HF := fA HF ee
 replace HBr := bA HBr ee
 replace HBs := bA HBs ee
 have HBx := nB ee (w.heap.size + 2)
 clear ee
 have hsa1 : w1.heap.size = w.heap.size + 3 := by omega
 clear hq1 hq2 hq3
 have rc := kc6 HBr; have sc := kc6 HBs; have xc := kc6 HBx
 have hI := i012_0 w w1
 have hZ := i0123 w
 clear rc sc xc
 refine (nowR_any _ (refTok HF.out H.out)).mono ?_
 rintro _ w2 ⟨rfl, hb⟩
 replace HBr := kB HBr hb
 replace HBs := kB HBs hb
 replace HBx := kB HBx hb
 replace HF := kF HF hb
 have hs2 := hb.size
 clear hb
 simp only [tkV]
 have e2 : ((nowT ts i).k == 2) = false := by simp [hk2]
 have e3 : ((nowT ts i).k == 3) = false := by simp [hk3]
 have e4 : ((nowT ts i).k == 4) = false := by simp [hk4]
 clear hI hZ
 have rc := kc6 HBr; have sc := kc6 HBs; have xc := kc6 HBx
 have hI := i012_0 w w2
 go_wp2_with (fail)
 clear rc sc xc
 generalize ee : World.setCell _ ⟨(w.heap.size + 1), 5, none⟩ _ = w3_1
 have hq1 := sizeS6 ee
 replace HF := fN6 HF ee
 replace HBr := bF6 HBr ee
 replace HBs := bS6 HBs ee
 replace HBx := bF6 HBx ee
 clear ee
 generalize ee : World.setCell _ ⟨(w.heap.size + 2), 5, none⟩ _ = w3_2
 have hq2 := sizeS6 ee
 replace HF := fN6 HF ee
 replace HBr := bF6 HBr ee
 replace HBs := bF6 HBs ee
 replace HBx := bS6 HBx ee
 clear ee
 generalize ee : World.alloc w3_2 _ = w3
 have hq3 := sizeA ee
 replace HF := fA HF ee
 replace HBr := bA HBr ee
 replace HBs := bA HBs ee
 replace HBx := bA HBx ee
 have HBt := nB ee (w2.heap.size)
 clear ee
 have hsa3 : w3.heap.size = w2.heap.size + 1 := by omega
 clear hq1 hq2 hq3
 clear hI
 have z := kc6 HBs; have y := kc6 HBx
 refine bodyPost_ret (v := .tuple #[rdV aL n cap (i : Int) d false l c, .agg #[.int .i64 0, .string ⟨#[]⟩, .int .i64 0, .slice none 0 0, .int .i64 0, .int .i64 0]]) (by clear HF H HBr HBs HBx HBt; simp [results, Try.results35, go_sem, rdV, z, y]) rfl ?_
 exact ⟨rfl, refBelow HF.out⟩
set_option maxRecDepth 100000 in
set_option maxHeartbeats 20000000 in
theorem plainR_2 {i : Nat} {d l c : Int} (w : World) (h : MemW w (.s 5 (tkRows ts)) (.slice aL n cap)) (hk : (nowT ts i).k = 2) :
  Calls Try.prog 35 #[rdV aL n cap (i : Int) d false l c] w fun e w' => e = .returned (.tuple #[rdV aL n cap ((i + 1 : Nat) : Int) d false l c, .agg #[.int .i64 1, .string (nowT ts i).s, .int .i64 0, .slice none 0 0, .int .i64 (nowT ts i).l, .int .i64 (nowT ts i).c]]) ∧ Below w.heap.size w w' := by
 have H := Lib.hid h
 clear h
 have HF : Hid (FarB w.heap.size w.heap.size w w) := Lib.hid (FarB.refl _ _ _)
 simp only [rdV]
 go_enter Try.func35, Try.ntmps35
 have hil : i < ts.length := now_lt (by rw [hk]; decide)
 have hoi : (i : Int) + 1 ≤ 9223372036854775807 := by have h1 := H.out.len; rw [tkRows_len] at h1; omega
 clear hil
 go_wp2_with (fail)
 generalize ee : World.alloc w _ = w1_1
 have hq1 := sizeA ee
 replace HF := fA HF ee
 have HBr := nB ee (w.heap.size)
 clear ee
 generalize ee : World.alloc w1_1 _ = w1_2
 have hq2 := sizeA ee
 replace HF := fA HF ee
 replace HBr := bA HBr ee
 have HBs := nB ee (w.heap.size + 1)
 clear ee
 generalize ee : World.alloc w1_2 _ = w1
 have hq3 := sizeA ee
 replace HF := fA HF ee
 replace HBr := bA HBr ee
 replace HBs := bA HBs ee
 have HBx := nB ee (w.heap.size + 2)
 clear ee
 have hsa1 : w1.heap.size = w.heap.size + 3 := by omega
 clear hq1 hq2 hq3
 have rc := kc6 HBr; have sc := kc6 HBs; have xc := kc6 HBx
 have hI := i012_0 w w1
 have hZ := i0123 w
 clear rc sc xc
 refine (nowR_any _ (refTok HF.out H.out)).mono ?_
 rintro _ w2 ⟨rfl, hb⟩
 replace HBr := kB HBr hb
 replace HBs := kB HBs hb
 replace HBx := kB HBx hb
 replace HF := kF HF hb
 have hs2 := hb.size
 clear hb
 simp only [tkV]
 have e2 : ((nowT ts i).k == 2) = true := by simp [hk]
 have e3 : ((nowT ts i).k == 3) = false := by simp [hk]
 have e4 : ((nowT ts i).k == 4) = false := by simp [hk]
 clear hI hZ
 have rc := kc6 HBr; have sc := kc6 HBs; have xc := kc6 HBx
 have hI := i012_0 w w2
 go_wp2_with (fail)
 clear rc sc xc
 generalize ee : World.setCell w2 _ _ = w3_1
 have hq1 := sizeS1 ee
 replace HF := fN1 HF ee
 replace HBr : Hid (Bo w3_1 w.heap.size 47 #[.slice aL n cap, .int .i64 ((i : Int) + 1), .int .i64 d, .bool false, .int .i64 l, .int .i64 c]) := Lib.hid (by rw [← ee]; exact HBr.out.set 1 (.int .i64 ((i : Int) + 1)))
 replace HBs := bF1 HBs ee
 replace HBx := bF1 HBx ee
 clear ee
 generalize ee : World.alloc w3_1 _ = w3
 have hq2 := sizeA ee
 replace HF := fA HF ee
 replace HBr := bA HBr ee
 replace HBs := bA HBs ee
 replace HBx := bA HBx ee
 have HBt := nB ee (w2.heap.size)
 clear ee
 have hsa3 : w3.heap.size = w2.heap.size + 1 := by omega
 clear hq1 hq2
 clear hI
 have rc := kc6 HBr; have sc := kc6 HBs; have xc := kc6 HBx; have tc := kc5 HBt
 have hI := i012_0_0 w w2 w3
 have hZ := i012_01 w w2
 refine wp_region_held_drew (S := fun w' => Far (fun b => b = (w.heap.size + 1) ∨ b = (w.heap.size + 2)) (w3) w') (by kernel_rfl) (Far.of (below_drew _)) (fun hS40 => ?_)
 refine takeA 0 (v := ?_) rfl ?_ ?_
 rotate_left
 · (intro w hSw; (try dsimp only at hSw); replace rc := Far.c6z rc hSw; replace tc := Far.c5z tc hSw; go_simp; try with_reducible rfl)
 try simp only [Act.put, pu1, pu2, pu3]
 refine takeA 1 (v := ?_) rfl ?_ ?_
 rotate_left
 · (intro w hSw; (try dsimp only at hSw); replace rc := Far.c6z rc hSw; replace tc := Far.c5z tc hSw; go_simp; try with_reducible rfl)
 try simp only [Act.put, pu1, pu2, pu3]
 refine takeA 2 (v := ?_) rfl ?_ ?_
 rotate_left
 · (intro w hSw; (try dsimp only at hSw); replace rc := Far.c6z rc hSw; replace tc := Far.c5z tc hSw; go_simp; try with_reducible rfl)
 try simp only [Act.put, pu1, pu2, pu3]
 refine takeA 3 (v := ?_) rfl ?_ ?_
 rotate_left
 · (intro w hSw; (try dsimp only at hSw); replace rc := Far.c6z rc hSw; replace tc := Far.c5z tc hSw; go_simp; try with_reducible rfl)
 try simp only [Act.put, pu1, pu2, pu3]
 refine takeA 4 (v := ?_) rfl ?_ ?_
 rotate_left
 · (intro w hSw; (try dsimp only at hSw); replace rc := Far.c6z rc hSw; replace tc := Far.c5z tc hSw; go_simp; try with_reducible rfl)
 try simp only [Act.put, pu1, pu2, pu3]
 refine takeA 5 (v := ?_) rfl ?_ ?_
 rotate_left
 · (intro w hSw; (try dsimp only at hSw); replace rc := Far.c6z rc hSw; replace tc := Far.c5z tc hSw; go_simp; try with_reducible rfl)
 try simp only [Act.put, pu1, pu2, pu3]

 refine callA 6 rfl fun K hK => ?_
 go_simp
 refine hK.out _ _ ?_ (fun hS41 => ?_)
 · exact (by refine Far.trans ?_ (Far.of (below_drew _)); (iterate 6 (refine Far.setCell (p := ⟨(w.heap.size + 1), _, none⟩) ?_ (.inl rfl) _)); exact Far.refl _ _)
 clear hK K

 clear rc sc xc tc
 generalize ee : ((((((w3.setCell ⟨(w.heap.size + 1), 0, none⟩ (.slice aL n cap)).setCell ⟨(w.heap.size + 1), 1, none⟩ (.int .i64 ((i : Int) + 1))).setCell ⟨(w.heap.size + 1), 2, none⟩ (.int .i64 d)).setCell ⟨(w.heap.size + 1), 3, none⟩ (.bool false)).setCell ⟨(w.heap.size + 1), 4, none⟩ (.int .i64 l)).setCell ⟨(w.heap.size + 1), 5, none⟩ (.int .i64 c)) = w4_1 at *
 have hq1 := sizeS6 ee
 replace HF := fN6 HF ee
 replace HBr := bF6 HBr ee
 replace HBs := bS6 HBs ee
 replace HBx := bF6 HBx ee
 replace HBt := bF6 HBt ee
 clear ee
 generalize ee : (w4_1.drew) = w4 at *
 have hq2 := sizeD ee
 replace HF := fD HF ee
 replace HBr := bD HBr ee
 replace HBs := bD HBs ee
 replace HBx := bD HBx ee
 replace HBt := bD HBt ee
 clear ee
 have hsa4 : w4.heap.size = w2.heap.size + 1 := by omega
 clear hq1 hq2
 clear hI hZ
 have rc := kc6 HBr; have sc := kc6 HBs; have xc := kc6 HBx; have tc := kc5 HBt
 have hI := i012_0_0 w w2 w4
 have hZ := i012_01 w w2
 refine callA 7 rfl fun K hK => ?_
 go_simp
 refine hK.out _ _ ?_ (fun hS42 => ?_)
 · exact (by (iterate 6 (refine Far.setCell (p := ⟨(w.heap.size + 2), _, none⟩) ?_ (.inr rfl) _)); exact hS41)
 clear hK K
 refine wpAnyH_done (by kernel_rfl) ?_ _

 clear rc sc xc tc
 generalize ee : World.setCell _ ⟨(w.heap.size + 2), 5, none⟩ _ = w5
 have hsz5 := sizeS6 ee
 replace HF := fN6 HF ee
 replace HBr := bF6 HBr ee
 replace HBs := bF6 HBs ee
 replace HBx := bS6 HBx ee
 replace HBt := bF6 HBt ee
 clear ee
 clear hI hZ
 go_wp2_with (fail)
 have z := kc6 HBs; have y := kc6 HBx
 refine bodyPost_ret (v := .tuple #[rdV aL n cap ((i + 1 : Nat) : Int) d false l c, .agg #[.int .i64 1, .string (nowT ts i).s, .int .i64 0, .slice none 0 0, .int .i64 (nowT ts i).l, .int .i64 (nowT ts i).c]]) (by clear HF H HBr HBs HBx HBt; simp [results, Try.results35, go_sem, rdV, z, y]) rfl ?_
 exact ⟨rfl, refBelow HF.out⟩
set_option maxRecDepth 100000 in
set_option maxHeartbeats 20000000 in
theorem plainR_3 {i : Nat} {d l c : Int} (w : World) (h : MemW w (.s 5 (tkRows ts)) (.slice aL n cap)) (hk : (nowT ts i).k = 3) :
  Calls Try.prog 35 #[rdV aL n cap (i : Int) d false l c] w fun e w' => e = .returned (.tuple #[rdV aL n cap ((i + 1 : Nat) : Int) d false l c, .agg #[.int .i64 2, .string (nowT ts i).s, .int .i64 0, .slice none 0 0, .int .i64 (nowT ts i).l, .int .i64 (nowT ts i).c]]) ∧ Below w.heap.size w w' := by
 have H := Lib.hid h
 clear h
 have HF : Hid (FarB w.heap.size w.heap.size w w) := Lib.hid (FarB.refl _ _ _)
 simp only [rdV]
 go_enter Try.func35, Try.ntmps35
 have hil : i < ts.length := now_lt (by rw [hk]; decide)
 have hoi : (i : Int) + 1 ≤ 9223372036854775807 := by have h1 := H.out.len; rw [tkRows_len] at h1; omega
 clear hil
 go_wp2_with (fail)
 generalize ee : World.alloc w _ = w1_1
 have hq1 := sizeA ee
 replace HF := fA HF ee
 have HBr := nB ee (w.heap.size)
 clear ee
 generalize ee : World.alloc w1_1 _ = w1_2
 have hq2 := sizeA ee
 replace HF := fA HF ee
 replace HBr := bA HBr ee
 have HBs := nB ee (w.heap.size + 1)
 clear ee
 generalize ee : World.alloc w1_2 _ = w1
 have hq3 := sizeA ee
 replace HF := fA HF ee
 replace HBr := bA HBr ee
 replace HBs := bA HBs ee
 have HBx := nB ee (w.heap.size + 2)
 clear ee
 have hsa1 : w1.heap.size = w.heap.size + 3 := by omega
 clear hq1 hq2 hq3
 have rc := kc6 HBr; have sc := kc6 HBs; have xc := kc6 HBx
 have hI := i012_0 w w1
 have hZ := i0123 w
 clear rc sc xc
 refine (nowR_any _ (refTok HF.out H.out)).mono ?_
 rintro _ w2 ⟨rfl, hb⟩
 replace HBr := kB HBr hb
 replace HBs := kB HBs hb
 replace HBx := kB HBx hb
 replace HF := kF HF hb
 have hs2 := hb.size
 clear hb
 simp only [tkV]
 have e2 : ((nowT ts i).k == 2) = false := by simp [hk]
 have e3 : ((nowT ts i).k == 3) = true := by simp [hk]
 have e4 : ((nowT ts i).k == 4) = false := by simp [hk]
 clear hI hZ
 have rc := kc6 HBr; have sc := kc6 HBs; have xc := kc6 HBx
 have hI := i012_0 w w2
 go_wp2_with (fail)
 clear rc sc xc
 generalize ee : World.setCell w2 _ _ = w3_1
 have hq1 := sizeS1 ee
 replace HF := fN1 HF ee
 replace HBr : Hid (Bo w3_1 w.heap.size 47 #[.slice aL n cap, .int .i64 ((i : Int) + 1), .int .i64 d, .bool false, .int .i64 l, .int .i64 c]) := Lib.hid (by rw [← ee]; exact HBr.out.set 1 (.int .i64 ((i : Int) + 1)))
 replace HBs := bF1 HBs ee
 replace HBx := bF1 HBx ee
 clear ee
 generalize ee : World.alloc w3_1 _ = w3
 have hq2 := sizeA ee
 replace HF := fA HF ee
 replace HBr := bA HBr ee
 replace HBs := bA HBs ee
 replace HBx := bA HBx ee
 have HBt := nB ee (w2.heap.size)
 clear ee
 have hsa3 : w3.heap.size = w2.heap.size + 1 := by omega
 clear hq1 hq2
 clear hI
 have rc := kc6 HBr; have sc := kc6 HBs; have xc := kc6 HBx; have tc := kc5 HBt
 have hI := i012_0_0 w w2 w3
 have hZ := i012_01 w w2
 refine wp_region_held_drew (S := fun w' => Far (fun b => b = (w.heap.size + 1) ∨ b = (w.heap.size + 2)) (w3) w') (by kernel_rfl) (Far.of (below_drew _)) (fun hS40 => ?_)
 refine takeA 0 (v := ?_) rfl ?_ ?_
 rotate_left
 · (intro w hSw; (try dsimp only at hSw); replace rc := Far.c6z rc hSw; replace tc := Far.c5z tc hSw; go_simp; try with_reducible rfl)
 try simp only [Act.put, pu1, pu2, pu3]
 refine takeA 1 (v := ?_) rfl ?_ ?_
 rotate_left
 · (intro w hSw; (try dsimp only at hSw); replace rc := Far.c6z rc hSw; replace tc := Far.c5z tc hSw; go_simp; try with_reducible rfl)
 try simp only [Act.put, pu1, pu2, pu3]
 refine takeA 2 (v := ?_) rfl ?_ ?_
 rotate_left
 · (intro w hSw; (try dsimp only at hSw); replace rc := Far.c6z rc hSw; replace tc := Far.c5z tc hSw; go_simp; try with_reducible rfl)
 try simp only [Act.put, pu1, pu2, pu3]
 refine takeA 3 (v := ?_) rfl ?_ ?_
 rotate_left
 · (intro w hSw; (try dsimp only at hSw); replace rc := Far.c6z rc hSw; replace tc := Far.c5z tc hSw; go_simp; try with_reducible rfl)
 try simp only [Act.put, pu1, pu2, pu3]
 refine takeA 4 (v := ?_) rfl ?_ ?_
 rotate_left
 · (intro w hSw; (try dsimp only at hSw); replace rc := Far.c6z rc hSw; replace tc := Far.c5z tc hSw; go_simp; try with_reducible rfl)
 try simp only [Act.put, pu1, pu2, pu3]
 refine takeA 5 (v := ?_) rfl ?_ ?_
 rotate_left
 · (intro w hSw; (try dsimp only at hSw); replace rc := Far.c6z rc hSw; replace tc := Far.c5z tc hSw; go_simp; try with_reducible rfl)
 try simp only [Act.put, pu1, pu2, pu3]

 refine callA 6 rfl fun K hK => ?_
 go_simp
 refine hK.out _ _ ?_ (fun hS41 => ?_)
 · exact (by refine Far.trans ?_ (Far.of (below_drew _)); (iterate 6 (refine Far.setCell (p := ⟨(w.heap.size + 1), _, none⟩) ?_ (.inl rfl) _)); exact Far.refl _ _)
 clear hK K

 clear rc sc xc tc
 generalize ee : ((((((w3.setCell ⟨(w.heap.size + 1), 0, none⟩ (.slice aL n cap)).setCell ⟨(w.heap.size + 1), 1, none⟩ (.int .i64 ((i : Int) + 1))).setCell ⟨(w.heap.size + 1), 2, none⟩ (.int .i64 d)).setCell ⟨(w.heap.size + 1), 3, none⟩ (.bool false)).setCell ⟨(w.heap.size + 1), 4, none⟩ (.int .i64 l)).setCell ⟨(w.heap.size + 1), 5, none⟩ (.int .i64 c)) = w4_1 at *
 have hq1 := sizeS6 ee
 replace HF := fN6 HF ee
 replace HBr := bF6 HBr ee
 replace HBs := bS6 HBs ee
 replace HBx := bF6 HBx ee
 replace HBt := bF6 HBt ee
 clear ee
 generalize ee : (w4_1.drew) = w4 at *
 have hq2 := sizeD ee
 replace HF := fD HF ee
 replace HBr := bD HBr ee
 replace HBs := bD HBs ee
 replace HBx := bD HBx ee
 replace HBt := bD HBt ee
 clear ee
 have hsa4 : w4.heap.size = w2.heap.size + 1 := by omega
 clear hq1 hq2
 clear hI hZ
 have rc := kc6 HBr; have sc := kc6 HBs; have xc := kc6 HBx; have tc := kc5 HBt
 have hI := i012_0_0 w w2 w4
 have hZ := i012_01 w w2
 refine callA 7 rfl fun K hK => ?_
 go_simp
 refine hK.out _ _ ?_ (fun hS42 => ?_)
 · exact (by (iterate 6 (refine Far.setCell (p := ⟨(w.heap.size + 2), _, none⟩) ?_ (.inr rfl) _)); exact hS41)
 clear hK K
 refine wpAnyH_done (by kernel_rfl) ?_ _

 clear rc sc xc tc
 generalize ee : World.setCell _ ⟨(w.heap.size + 2), 5, none⟩ _ = w5
 have hsz5 := sizeS6 ee
 replace HF := fN6 HF ee
 replace HBr := bF6 HBr ee
 replace HBs := bF6 HBs ee
 replace HBx := bS6 HBx ee
 replace HBt := bF6 HBt ee
 clear ee
 clear hI hZ
 go_wp2_with (fail)
 have z := kc6 HBs; have y := kc6 HBx
 refine bodyPost_ret (v := .tuple #[rdV aL n cap ((i + 1 : Nat) : Int) d false l c, .agg #[.int .i64 2, .string (nowT ts i).s, .int .i64 0, .slice none 0 0, .int .i64 (nowT ts i).l, .int .i64 (nowT ts i).c]]) (by clear HF H HBr HBs HBx HBt; simp [results, Try.results35, go_sem, rdV, z, y]) rfl ?_
 exact ⟨rfl, refBelow HF.out⟩
set_option maxRecDepth 100000 in
set_option maxHeartbeats 20000000 in
theorem plainR_4 {i : Nat} {d l c : Int} (w : World) (h : MemW w (.s 5 (tkRows ts)) (.slice aL n cap)) (hk : (nowT ts i).k = 4) :
  Calls Try.prog 35 #[rdV aL n cap (i : Int) d false l c] w fun e w' => e = .returned (.tuple #[rdV aL n cap ((i + 1 : Nat) : Int) d false l c, .agg #[.int .i64 3, .string ⟨#[]⟩, .int .i64 (nowT ts i).n, .slice none 0 0, .int .i64 (nowT ts i).l, .int .i64 (nowT ts i).c]]) ∧ Below w.heap.size w w' := by
 have H := Lib.hid h
 clear h
 have HF : Hid (FarB w.heap.size w.heap.size w w) := Lib.hid (FarB.refl _ _ _)
 simp only [rdV]
 go_enter Try.func35, Try.ntmps35
 have hil : i < ts.length := now_lt (by rw [hk]; decide)
 have hoi : (i : Int) + 1 ≤ 9223372036854775807 := by have h1 := H.out.len; rw [tkRows_len] at h1; omega
 clear hil
 go_wp2_with (fail)
 generalize ee : World.alloc w _ = w1_1
 have hq1 := sizeA ee
 replace HF := fA HF ee
 have HBr := nB ee (w.heap.size)
 clear ee
 generalize ee : World.alloc w1_1 _ = w1_2
 have hq2 := sizeA ee
 replace HF := fA HF ee
 replace HBr := bA HBr ee
 have HBs := nB ee (w.heap.size + 1)
 clear ee
 generalize ee : World.alloc w1_2 _ = w1
 have hq3 := sizeA ee
 replace HF := fA HF ee
 replace HBr := bA HBr ee
 replace HBs := bA HBs ee
 have HBx := nB ee (w.heap.size + 2)
 clear ee
 have hsa1 : w1.heap.size = w.heap.size + 3 := by omega
 clear hq1 hq2 hq3
 have rc := kc6 HBr; have sc := kc6 HBs; have xc := kc6 HBx
 have hI := i012_0 w w1
 have hZ := i0123 w
 clear rc sc xc
 refine (nowR_any _ (refTok HF.out H.out)).mono ?_
 rintro _ w2 ⟨rfl, hb⟩
 replace HBr := kB HBr hb
 replace HBs := kB HBs hb
 replace HBx := kB HBx hb
 replace HF := kF HF hb
 have hs2 := hb.size
 clear hb
 simp only [tkV]
 have e2 : ((nowT ts i).k == 2) = false := by simp [hk]
 have e3 : ((nowT ts i).k == 3) = false := by simp [hk]
 have e4 : ((nowT ts i).k == 4) = true := by simp [hk]
 clear hI hZ
 have rc := kc6 HBr; have sc := kc6 HBs; have xc := kc6 HBx
 have hI := i012_0 w w2
 go_wp2_with (fail)
 clear rc sc xc
 generalize ee : World.setCell w2 _ _ = w3_1
 have hq1 := sizeS1 ee
 replace HF := fN1 HF ee
 replace HBr : Hid (Bo w3_1 w.heap.size 47 #[.slice aL n cap, .int .i64 ((i : Int) + 1), .int .i64 d, .bool false, .int .i64 l, .int .i64 c]) := Lib.hid (by rw [← ee]; exact HBr.out.set 1 (.int .i64 ((i : Int) + 1)))
 replace HBs := bF1 HBs ee
 replace HBx := bF1 HBx ee
 clear ee
 generalize ee : World.alloc w3_1 _ = w3
 have hq2 := sizeA ee
 replace HF := fA HF ee
 replace HBr := bA HBr ee
 replace HBs := bA HBs ee
 replace HBx := bA HBx ee
 have HBt := nB ee (w2.heap.size)
 clear ee
 have hsa3 : w3.heap.size = w2.heap.size + 1 := by omega
 clear hq1 hq2
 clear hI
 have rc := kc6 HBr; have sc := kc6 HBs; have xc := kc6 HBx; have tc := kc5 HBt
 have hI := i012_0_0 w w2 w3
 have hZ := i012_01 w w2
 refine wp_region_held_drew (S := fun w' => Far (fun b => b = (w.heap.size + 1) ∨ b = (w.heap.size + 2)) (w3) w') (by kernel_rfl) (Far.of (below_drew _)) (fun hS40 => ?_)
 refine takeA 0 (v := ?_) rfl ?_ ?_
 rotate_left
 · (intro w hSw; (try dsimp only at hSw); replace rc := Far.c6z rc hSw; replace tc := Far.c5z tc hSw; go_simp; try with_reducible rfl)
 try simp only [Act.put, pu1, pu2, pu3]
 refine takeA 1 (v := ?_) rfl ?_ ?_
 rotate_left
 · (intro w hSw; (try dsimp only at hSw); replace rc := Far.c6z rc hSw; replace tc := Far.c5z tc hSw; go_simp; try with_reducible rfl)
 try simp only [Act.put, pu1, pu2, pu3]
 refine takeA 2 (v := ?_) rfl ?_ ?_
 rotate_left
 · (intro w hSw; (try dsimp only at hSw); replace rc := Far.c6z rc hSw; replace tc := Far.c5z tc hSw; go_simp; try with_reducible rfl)
 try simp only [Act.put, pu1, pu2, pu3]
 refine takeA 3 (v := ?_) rfl ?_ ?_
 rotate_left
 · (intro w hSw; (try dsimp only at hSw); replace rc := Far.c6z rc hSw; replace tc := Far.c5z tc hSw; go_simp; try with_reducible rfl)
 try simp only [Act.put, pu1, pu2, pu3]
 refine takeA 4 (v := ?_) rfl ?_ ?_
 rotate_left
 · (intro w hSw; (try dsimp only at hSw); replace rc := Far.c6z rc hSw; replace tc := Far.c5z tc hSw; go_simp; try with_reducible rfl)
 try simp only [Act.put, pu1, pu2, pu3]
 refine takeA 5 (v := ?_) rfl ?_ ?_
 rotate_left
 · (intro w hSw; (try dsimp only at hSw); replace rc := Far.c6z rc hSw; replace tc := Far.c5z tc hSw; go_simp; try with_reducible rfl)
 try simp only [Act.put, pu1, pu2, pu3]

 refine callA 6 rfl fun K hK => ?_
 go_simp
 refine hK.out _ _ ?_ (fun hS41 => ?_)
 · exact (by refine Far.trans ?_ (Far.of (below_drew _)); (iterate 6 (refine Far.setCell (p := ⟨(w.heap.size + 1), _, none⟩) ?_ (.inl rfl) _)); exact Far.refl _ _)
 clear hK K

 clear rc sc xc tc
 generalize ee : ((((((w3.setCell ⟨(w.heap.size + 1), 0, none⟩ (.slice aL n cap)).setCell ⟨(w.heap.size + 1), 1, none⟩ (.int .i64 ((i : Int) + 1))).setCell ⟨(w.heap.size + 1), 2, none⟩ (.int .i64 d)).setCell ⟨(w.heap.size + 1), 3, none⟩ (.bool false)).setCell ⟨(w.heap.size + 1), 4, none⟩ (.int .i64 l)).setCell ⟨(w.heap.size + 1), 5, none⟩ (.int .i64 c)) = w4_1 at *
 have hq1 := sizeS6 ee
 replace HF := fN6 HF ee
 replace HBr := bF6 HBr ee
 replace HBs := bS6 HBs ee
 replace HBx := bF6 HBx ee
 replace HBt := bF6 HBt ee
 clear ee
 generalize ee : (w4_1.drew) = w4 at *
 have hq2 := sizeD ee
 replace HF := fD HF ee
 replace HBr := bD HBr ee
 replace HBs := bD HBs ee
 replace HBx := bD HBx ee
 replace HBt := bD HBt ee
 clear ee
 have hsa4 : w4.heap.size = w2.heap.size + 1 := by omega
 clear hq1 hq2
 clear hI hZ
 have rc := kc6 HBr; have sc := kc6 HBs; have xc := kc6 HBx; have tc := kc5 HBt
 have hI := i012_0_0 w w2 w4
 have hZ := i012_01 w w2
 refine callA 7 rfl fun K hK => ?_
 go_simp
 refine hK.out _ _ ?_ (fun hS42 => ?_)
 · exact (by (iterate 6 (refine Far.setCell (p := ⟨(w.heap.size + 2), _, none⟩) ?_ (.inr rfl) _)); exact hS41)
 clear hK K
 refine wpAnyH_done (by kernel_rfl) ?_ _

 clear rc sc xc tc
 generalize ee : World.setCell _ ⟨(w.heap.size + 2), 5, none⟩ _ = w5
 have hsz5 := sizeS6 ee
 replace HF := fN6 HF ee
 replace HBr := bF6 HBr ee
 replace HBs := bF6 HBs ee
 replace HBx := bS6 HBx ee
 replace HBt := bF6 HBt ee
 clear ee
 clear hI hZ
 go_wp2_with (fail)
 have z := kc6 HBs; have y := kc6 HBx
 refine bodyPost_ret (v := .tuple #[rdV aL n cap ((i + 1 : Nat) : Int) d false l c, .agg #[.int .i64 3, .string ⟨#[]⟩, .int .i64 (nowT ts i).n, .slice none 0 0, .int .i64 (nowT ts i).l, .int .i64 (nowT ts i).c]]) (by clear HF H HBr HBs HBx HBt; simp [results, Try.results35, go_sem, rdV, z, y]) rfl ?_
 exact ⟨rfl, refBelow HF.out⟩
theorem plainR_ok {i : Nat} {d l c : Int} {x : Ex} (w : World) (h : MemW w (.s 5 (tkRows ts)) (.slice aL n cap)) (hx : plainE (nowT ts i) = some x) :
  Calls Try.prog 35 #[rdV aL n cap (i : Int) d false l c] w fun e w' => e = .returned (.tuple #[rdV aL n cap ((i + 1 : Nat) : Int) d false l c, exV x none 0 0]) ∧ Below w.heap.size w w' := by
 unfold plainE at hx
 split at hx
 · (cases hx; exact plainR_2 w h (by assumption))
 ·
  split at hx
  · (cases hx; exact plainR_3 w h (by assumption))
  ·
   split at hx
   · (cases hx; exact plainR_4 w h (by assumption))
   · cases hx
theorem plainR_no {i : Nat} {d l c : Int} (w : World) (h : MemW w (.s 5 (tkRows ts)) (.slice aL n cap)) (hx : plainE (nowT ts i) = none) :
  Calls Try.prog 35 #[rdV aL n cap (i : Int) d false l c] w fun e w' => e = .returned (.tuple #[rdV aL n cap (i : Int) d false l c, .agg #[.int .i64 0, .string ⟨#[]⟩, .int .i64 0, .slice none 0 0, .int .i64 0, .int .i64 0]]) ∧ Below w.heap.size w w' := by
 unfold plainE at hx
 split at hx
 · cases hx
 ·
  split at hx
  · cases hx
  ·
   split at hx
   · cases hx
   · exact plainR_none w h (by assumption) (by assumption) (by assumption)
end
end Go.Proofs.Ytnmlobakiclgiaa

/-
 What the document's reader's functions are to answer; and what they do once something can't be: they hand it on. No condition but how the tokens lie.
-/
namespace Go.Proofs.Ytnmlobakiclgiaa
open Go.RowKit
section
variable (ts : List Tk) (aL : Option Addr) (n cap : Nat)
def AnsR (r : Rd1) (deep : Nat) (a0 b0 : Int) (W : World) (e : Ending) (w' : World) : Prop :=
 match r with
 | .ok x j => ∃ a m c, e = .returned (.tuple #[rdV aL n cap (j : Int) (deep : Int) false a0 b0, exV x a m c]) ∧ Below W.heap.size W w' ∧ Mem (Nw 0 W.heap.size w'.heap.size) w' (.s 6 (Ex.rows x.args)) (.slice a m c)
 | .bad l c => ∃ (i' : Nat) (d' k : Int) (s : ByteArray) (nn : Int) (sa : Option Addr) (sm sc : Nat) (u v : Int), e = .returned (.tuple #[rdV aL n cap (i' : Int) d' true l c, .agg #[.int .i64 k, .string s, .int .i64 nn, .slice sa sm sc, .int .i64 u, .int .i64 v]]) ∧ Below W.heap.size W w'
def ReadsR (fn : FuncId) (nt : Nt) (f : Nat) : Prop := ∀ (i deep : Nat) (r : Rd1) (a0 b0 : Int) (w : World), deep ≤ 40 → MemW w (.s 5 (tkRows ts)) (.slice aL n cap) → n ≤ 1048576 → readE ts f nt i deep = some r →
 Calls Try.prog fn #[rdV aL n cap (i : Int) (deep : Int) false a0 b0] w (AnsR aL n cap r deep a0 b0 w)
end
section
variable {ts : List Tk} {aL : Option Addr} {n cap : Nat}
attribute [local go_sem] tk_pos
set_option maxRecDepth 100000 in
set_option maxHeartbeats 20000000 in
theorem exprR_bad {i : Nat} {d l c : Int}  (w : World) (h : MemW w (.s 5 (tkRows ts)) (.slice aL n cap)) :
  Calls Try.prog 14 #[rdV aL n cap (i : Int) d true l c] w (AnsR aL n cap (.bad l c) 0 0 0 w) := by
 have H := Lib.hid h
 clear h
 have HF : Hid (FarB w.heap.size w.heap.size w w) := Lib.hid (FarB.refl _ _ _)
 simp only [rdV]
 go_enter Try.func14, Try.ntmps14
 go_wp2_with (fail)
 generalize ee : World.alloc w _ = w1_1
 have hq1 := sizeA ee
 replace HF := fA HF ee
 have HBr := nB ee (w.heap.size)
 clear ee
 generalize ee : World.alloc w1_1 _ = w1_2
 have hq2 := sizeA ee
 replace HF := fA HF ee
 replace HBr := bA HBr ee
 have HBs := nB ee (w.heap.size + 1)
 clear ee
 generalize ee : World.alloc w1_2 _ = w1
 have hq3 := sizeA ee
 replace HF := fA HF ee
 replace HBr := bA HBr ee
 replace HBs := bA HBs ee
 have HBx := nB ee (w.heap.size + 2)
 clear ee
 have hsa1 : w1.heap.size = w.heap.size + 3 := by omega
 clear hq1 hq2 hq3
 have rc := kc6 HBr; have sc := kc6 HBs; have xc := kc6 HBx
 have hI := i012_0 w w1
 have hZ := i0123 w
 clear rc sc xc
 refine (nowR_any _ (refTok HF.out H.out)).mono ?_
 rintro _ w2 ⟨rfl, hb⟩
 replace HBr := kB HBr hb
 replace HBs := kB HBs hb
 replace HBx := kB HBx hb
 replace HF := kF HF hb
 have hs2 := hb.size
 clear hb
 simp only [tkV]
 clear hI hZ
 have rc := kc6 HBr; have sc := kc6 HBs; have xc := kc6 HBx
 have hI := i012_0 w w2
 go_wp2_with (fail)
 clear rc sc xc
 generalize ee : World.alloc w2 _ = w3_1
 have hq1 := sizeA ee
 replace HF := fA HF ee
 replace HBr := bA HBr ee
 replace HBs := bA HBs ee
 replace HBx := bA HBx ee
 have HBp := nB ee (w2.heap.size)
 clear ee
 generalize ee : World.alloc w3_1 _ = w3
 have hq2 := sizeA ee
 replace HF := fA HF ee
 replace HBr := bA HBr ee
 replace HBs := bA HBs ee
 replace HBx := bA HBx ee
 replace HBp := bA HBp ee
 have HBe := nB ee (w2.heap.size + 1)
 clear ee
 have hsa3 : w3.heap.size = w2.heap.size + 2 := by omega
 clear hq1 hq2
 clear hI
 have rc := kc6 HBr; have sc := kc6 HBs; have xc := kc6 HBx; have pc := kc2 HBp; have ec := kc6 HBe
 have hI := i012_01_0 w w2 w3
 have hZ := i012_012 w w2
 clear rc sc xc pc ec
 clear hI hZ
 clear HBp
 have rc := kc6 HBr; have sc := kc6 HBs; have xc := kc6 HBx; have ec := kc6 HBe
 have hI := i012_1_0 w w2 w3
 have hZ := i012_12 w w2
 refine wp_region_held_drew (S := fun w' => Far (fun b => b = (w.heap.size + 1) ∨ b = (w.heap.size + 2)) (w3) w') (by kernel_rfl) (Far.of (below_drew _)) (fun hS40 => ?_)
 refine takeA 0 (v := ?_) rfl ?_ ?_
 rotate_left
 · (intro w hSw; (try dsimp only at hSw); replace rc := Far.c6z rc hSw; go_simp; try with_reducible rfl)
 try simp only [Act.put, pu1, pu2, pu3]
 refine takeA 1 (v := ?_) rfl ?_ ?_
 rotate_left
 · (intro w hSw; (try dsimp only at hSw); replace ec := Far.c6z ec hSw; go_simp; try with_reducible rfl)
 try simp only [Act.put, pu1, pu2, pu3]

 refine callA 2 rfl fun K hK => ?_
 go_simp
 refine hK.out _ _ ?_ (fun hS41 => ?_)
 · exact (by refine Far.trans ?_ (Far.of (below_drew _)); (iterate 6 (refine Far.setCell (p := ⟨(w.heap.size + 1), _, none⟩) ?_ (.inl rfl) _)); exact Far.refl _ _)
 clear hK K

 clear rc sc xc ec
 generalize ee : ((((((w3.setCell ⟨(w.heap.size + 1), 0, none⟩ (.slice aL n cap)).setCell ⟨(w.heap.size + 1), 1, none⟩ (.int .i64 (i : Int))).setCell ⟨(w.heap.size + 1), 2, none⟩ (.int .i64 d)).setCell ⟨(w.heap.size + 1), 3, none⟩ (.bool true)).setCell ⟨(w.heap.size + 1), 4, none⟩ (.int .i64 l)).setCell ⟨(w.heap.size + 1), 5, none⟩ (.int .i64 c)) = w4_1 at *
 have hq1 := sizeS6 ee
 replace HF := fN6 HF ee
 replace HBr := bF6 HBr ee
 replace HBs := bS6 HBs ee
 replace HBx := bF6 HBx ee
 replace HBe := bF6 HBe ee
 clear ee
 generalize ee : (w4_1.drew) = w4 at *
 have hq2 := sizeD ee
 replace HF := fD HF ee
 replace HBr := bD HBr ee
 replace HBs := bD HBs ee
 replace HBx := bD HBx ee
 replace HBe := bD HBe ee
 clear ee
 have hsa4 : w4.heap.size = w2.heap.size + 2 := by omega
 clear hq1 hq2
 clear hI hZ
 have rc := kc6 HBr; have sc := kc6 HBs; have xc := kc6 HBx; have ec := kc6 HBe
 have hI := i012_1_0 w w2 w4
 have hZ := i012_12 w w2
 refine callA 3 rfl fun K hK => ?_
 go_simp
 refine hK.out _ _ ?_ (fun hS42 => ?_)
 · exact (by (iterate 6 (refine Far.setCell (p := ⟨(w.heap.size + 2), _, none⟩) ?_ (.inr rfl) _)); exact hS41)
 clear hK K
 refine wpAnyH_done (by kernel_rfl) ?_ _

 clear rc sc xc ec
 generalize ee : World.setCell _ ⟨(w.heap.size + 2), 5, none⟩ _ = w5
 have hsz5 := sizeS6 ee
 replace HF := fN6 HF ee
 replace HBr := bF6 HBr ee
 replace HBs := bF6 HBs ee
 replace HBx := bS6 HBx ee
 replace HBe := bF6 HBe ee
 clear ee
 clear hI hZ
 go_wp2_with (fail)
 have z := kc6 HBs; have y := kc6 HBx
 refine bodyPost_ret (v := .tuple #[.agg #[.slice aL n cap, .int .i64 (i : Int), .int .i64 d, .bool true, .int .i64 l, .int .i64 c], .agg #[.int .i64 0, .string ⟨#[]⟩, .int .i64 0, .slice none 0 0, .int .i64 0, .int .i64 0]]) (by clear HF H HBr HBs HBx HBe; simp [results, Try.results14, go_sem, z, y]) rfl ?_
 exact ⟨_, _, _, _, _, _, _, _, _, _, rfl, refBelow HF.out⟩
set_option maxRecDepth 100000 in
set_option maxHeartbeats 20000000 in
theorem patR_bad {i : Nat} {d l c : Int}  (w : World) (h : MemW w (.s 5 (tkRows ts)) (.slice aL n cap)) :
  Calls Try.prog 15 #[rdV aL n cap (i : Int) d true l c] w (AnsR aL n cap (.bad l c) 0 0 0 w) := by
 have H := Lib.hid h
 clear h
 have HF : Hid (FarB w.heap.size w.heap.size w w) := Lib.hid (FarB.refl _ _ _)
 simp only [rdV]
 go_enter Try.func15, Try.ntmps15
 go_wp2_with (fail)
 generalize ee : World.alloc w _ = w1_1
 have hq1 := sizeA ee
 replace HF := fA HF ee
 have HBr := nB ee (w.heap.size)
 clear ee
 generalize ee : World.alloc w1_1 _ = w1_2
 have hq2 := sizeA ee
 replace HF := fA HF ee
 replace HBr := bA HBr ee
 have HBs := nB ee (w.heap.size + 1)
 clear ee
 generalize ee : World.alloc w1_2 _ = w1
 have hq3 := sizeA ee
 replace HF := fA HF ee
 replace HBr := bA HBr ee
 replace HBs := bA HBs ee
 have HBx := nB ee (w.heap.size + 2)
 clear ee
 have hsa1 : w1.heap.size = w.heap.size + 3 := by omega
 clear hq1 hq2 hq3
 have rc := kc6 HBr; have sc := kc6 HBs; have xc := kc6 HBx
 have hI := i012_0 w w1
 have hZ := i0123 w
 clear rc sc xc
 refine (nowR_any _ (refTok HF.out H.out)).mono ?_
 rintro _ w2 ⟨rfl, hb⟩
 replace HBr := kB HBr hb
 replace HBs := kB HBs hb
 replace HBx := kB HBx hb
 replace HF := kF HF hb
 have hs2 := hb.size
 clear hb
 simp only [tkV]
 clear hI hZ
 have rc := kc6 HBr; have sc := kc6 HBs; have xc := kc6 HBx
 have hI := i012_0 w w2
 go_wp2_with (fail)
 clear rc sc xc
 generalize ee : World.alloc w2 _ = w3
 have hsa3 := sizeA ee
 replace HF := fA HF ee
 replace HBr := bA HBr ee
 replace HBs := bA HBs ee
 replace HBx := bA HBx ee
 have HBp := nB ee (w2.heap.size)
 clear ee
 clear hI
 have rc := kc6 HBr; have sc := kc6 HBs; have xc := kc6 HBx; have pc := kc2 HBp
 have hI := i012_0_0 w w2 w3
 have hZ := i012_01 w w2
 clear rc sc xc pc
 refine (isR_bad _ (refTok HF.out H.out)).mono ?_
 rintro _ w4 ⟨rfl, hb⟩
 replace HBr := kB HBr hb
 replace HBs := kB HBs hb
 replace HBx := kB HBx hb
 replace HBp := kB HBp hb
 replace HF := kF HF hb
 have hs4 := hb.size
 clear hb
 clear hI hZ
 have rc := kc6 HBr; have sc := kc6 HBs; have xc := kc6 HBx; have pc := kc2 HBp
 have hI := i012_0_0 w w2 w4
 go_wp2_with (fail)
 clear rc sc xc pc
 refine (plainR_bad _ (refTok HF.out H.out)).mono ?_
 rintro _ w5 ⟨rfl, hb⟩
 replace HBr := kB HBr hb
 replace HBs := kB HBs hb
 replace HBx := kB HBx hb
 replace HBp := kB HBp hb
 replace HF := kF HF hb
 have hs5 := hb.size
 clear hb
 simp only [rdV]
 clear hI
 have rc := kc6 HBr; have sc := kc6 HBs; have xc := kc6 HBx; have pc := kc2 HBp
 have hI := i012_0_0 w w2 w5
 go_wp2_with (fail)
 clear rc sc xc pc
 generalize ee : World.alloc w5 _ = w6_1
 have hq1 := sizeA ee
 replace HF := fA HF ee
 replace HBr := bA HBr ee
 replace HBs := bA HBs ee
 replace HBx := bA HBx ee
 replace HBp := bA HBp ee
 have HBt := nB ee (w5.heap.size)
 clear ee
 generalize ee : World.alloc w6_1 _ = w6
 have hq2 := sizeA ee
 replace HF := fA HF ee
 replace HBr := bA HBr ee
 replace HBs := bA HBs ee
 replace HBx := bA HBx ee
 replace HBp := bA HBp ee
 replace HBt := bA HBt ee
 have HBe := nB ee (w5.heap.size + 1)
 clear ee
 have hsa6 : w6.heap.size = w5.heap.size + 2 := by omega
 clear hq1 hq2
 clear hI
 have rc := kc6 HBr; have sc := kc6 HBs; have xc := kc6 HBx; have pc := kc2 HBp; have tc := kc6 HBt; have ec := kc6 HBe
 have hI := i012_0_01_0 w w2 w5 w6
 have hZ := i012_0_012 w w2 w5
 clear rc sc xc pc tc ec
 clear hI hZ
 clear HBr HBp
 have sc := kc6 HBs; have xc := kc6 HBx; have tc := kc6 HBt; have ec := kc6 HBe
 have hI := i12_01_0 w w5 w6
 have hZ := i12_012 w w5
 refine wp_region_held_drew (S := fun w' => Far (fun b => b = (w.heap.size + 1) ∨ b = (w.heap.size + 2)) (w6) w') (by kernel_rfl) (Far.of (below_drew _)) (fun hS40 => ?_)
 refine takeA 0 (v := ?_) rfl ?_ ?_
 rotate_left
 · (intro w hSw; (try dsimp only at hSw); replace tc := Far.c6z tc hSw; go_simp; try with_reducible rfl)
 try simp only [Act.put, pu1, pu2, pu3]
 refine takeA 1 (v := ?_) rfl ?_ ?_
 rotate_left
 · (intro w hSw; (try dsimp only at hSw); replace ec := Far.c6z ec hSw; go_simp; try with_reducible rfl)
 try simp only [Act.put, pu1, pu2, pu3]

 refine callA 2 rfl fun K hK => ?_
 go_simp
 refine hK.out _ _ ?_ (fun hS41 => ?_)
 · exact (by refine Far.trans ?_ (Far.of (below_drew _)); (iterate 6 (refine Far.setCell (p := ⟨(w.heap.size + 1), _, none⟩) ?_ (.inl rfl) _)); exact Far.refl _ _)
 clear hK K

 clear sc xc tc ec
 generalize ee : ((((((w6.setCell ⟨(w.heap.size + 1), 0, none⟩ (.slice aL n cap)).setCell ⟨(w.heap.size + 1), 1, none⟩ (.int .i64 (i : Int))).setCell ⟨(w.heap.size + 1), 2, none⟩ (.int .i64 d)).setCell ⟨(w.heap.size + 1), 3, none⟩ (.bool true)).setCell ⟨(w.heap.size + 1), 4, none⟩ (.int .i64 l)).setCell ⟨(w.heap.size + 1), 5, none⟩ (.int .i64 c)) = w7_1 at *
 have hq1 := sizeS6 ee
 replace HF := fN6 HF ee
 replace HBs := bS6 HBs ee
 replace HBx := bF6 HBx ee
 replace HBt := bF6 HBt ee
 replace HBe := bF6 HBe ee
 clear ee
 generalize ee : (w7_1.drew) = w7 at *
 have hq2 := sizeD ee
 replace HF := fD HF ee
 replace HBs := bD HBs ee
 replace HBx := bD HBx ee
 replace HBt := bD HBt ee
 replace HBe := bD HBe ee
 clear ee
 have hsa7 : w7.heap.size = w5.heap.size + 2 := by omega
 clear hq1 hq2
 clear hI hZ
 have sc := kc6 HBs; have xc := kc6 HBx; have tc := kc6 HBt; have ec := kc6 HBe
 have hI := i12_01_0 w w5 w7
 have hZ := i12_012 w w5
 refine callA 3 rfl fun K hK => ?_
 go_simp
 refine hK.out _ _ ?_ (fun hS42 => ?_)
 · exact (by (iterate 6 (refine Far.setCell (p := ⟨(w.heap.size + 2), _, none⟩) ?_ (.inr rfl) _)); exact hS41)
 clear hK K
 refine wpAnyH_done (by kernel_rfl) ?_ _

 clear sc xc tc ec
 generalize ee : World.setCell _ ⟨(w.heap.size + 2), 5, none⟩ _ = w8
 have hsz8 := sizeS6 ee
 replace HF := fN6 HF ee
 replace HBs := bF6 HBs ee
 replace HBx := bS6 HBx ee
 replace HBt := bF6 HBt ee
 replace HBe := bF6 HBe ee
 clear ee
 clear hI hZ
 go_wp2_with (fail)
 have z := kc6 HBs; have y := kc6 HBx
 refine bodyPost_ret (v := .tuple #[.agg #[.slice aL n cap, .int .i64 (i : Int), .int .i64 d, .bool true, .int .i64 l, .int .i64 c], .agg #[.int .i64 0, .string ⟨#[]⟩, .int .i64 0, .slice none 0 0, .int .i64 0, .int .i64 0]]) (by clear HF H HBs HBx HBt HBe; simp [results, Try.results15, go_sem, z, y]) rfl ?_
 exact ⟨_, _, _, _, _, _, _, _, _, _, rfl, refBelow HF.out⟩
end
end Go.Proofs.Ytnmlobakiclgiaa

/-
 The document's reader's app and rank, once something can't be: they hand it on. No condition but how the tokens lie.
-/
namespace Go.Proofs.Ytnmlobakiclgiaa
open Go.RowKit
section
variable {ts : List Tk} {aL : Option Addr} {n cap : Nat}
attribute [local go_sem] tk_pos
end
end Go.Proofs.Ytnmlobakiclgiaa
