/-
  ShowExprs: it answers true. No condition but sizes.
-/
import Derived.Test.YtcoiagfeoonpbaaSe29
import Derived.Test.YtcoiagfeoonpbaaSe37
import Derived.Test.YtcoiagfeoonpbaaSe36
import Derived.Test.YtcoiagfeoonpbaaSe38
namespace Go.Proofs.Ytcoiagfeoonpbaa
open Go.RowKit
attribute [local go_sem] toList_beq
theorem memW_e0 {base : Nat} {x : At} {y : Value} {w : World} (h : Mem (Nw 0 base w.heap.size) w x y) : MemW w x y := h.mono (fun _ hb => hb.2) fun _ _ => rfl
theorem bad_kind8 {s : ByteArray} {k l c : Int} (h : parseE s = .bad k l c) : k ≠ 0 := by
  unfold parseE at h
  split at h
  · rename_i h0
    obtain ⟨r, h1, _⟩ := parse_parts h0
    rw [h1] at h
    cases r with
    | bad l c => injection h with h; rw [← h]; decide
    | ok x j =>
      simp only at h
      split at h
      · cases h
      · injection h with h; rw [← h]; decide
  · rename_i h0
    injection h with h
    rw [← h]
    exact h0
set_option maxRecDepth 100000 in
set_option maxHeartbeats 20000000 in
theorem showExprs_any (s : ByteArray) (w : World) (_hs : s.size ≤ maxLen) : Calls Try.prog 3 #[.string s] w fun e w' => e = .returned (.bool true) ∧ Below w.heap.size w w' := by
 have H := Lib.hid True.intro
 have HF : Hid (FarB w.heap.size w.heap.size w w) := Lib.hid (FarB.refl _ _ _)
 go_enter Try.func3, Try.ntmps3
 go_wp2_with (fail)
 refine (awake08_any _).mono ?_
 rintro _ w1 ⟨rfl, hb⟩
 replace HF := kF HF hb
 have hs1 := hb.size
 clear hb
 by_cases hbig : 2000 < s.size
 ·
  have hb3 : ((2000 : Int) < (s.size : Int)) = True := by simp; omega
  go_wp2_with (fail)
  go_ret
  exact ⟨rfl, refBelow HF.out⟩
 have hb3 : ((2000 : Int) < (s.size : Int)) = False := by simp; omega
 obtain ⟨rp, hrp⟩ : ∃ rp, parseE s = rp := ⟨_, rfl⟩
 have HRP := Lib.hid hrp
 clear hrp
 go_wp2_with (fail)
 cases rp with
 | ok x =>
  have hpp := parse_any s w1 (by omega)
  rw [HRP.out] at hpp
  refine hpp.mono ?_
  clear hpp
  rintro _ w2 ⟨ax, mx, cx, rfl, hb, hm⟩
  replace HF := kF HF hb
  have hs2 := hb.size
  clear hb
  have HMx := Lib.hid hm
  clear hm
  simp only [exV]
  go_upto_region 6 with (fail)
  generalize ee : World.alloc w2 _ = w3_1
  have hq1 := sizeA ee
  replace HF := fA HF ee
  replace HMx := mA HMx ee
  have HBe := nB ee (w2.heap.size)
  clear ee
  generalize ee : World.alloc w3_1 _ = w3
  have hq2 := sizeA ee
  replace HF := fA HF ee
  replace HBe := bA HBe ee
  replace HMx := mA HMx ee
  have HBf := nB ee (w2.heap.size + 1)
  clear ee
  have hsa3 : w3.heap.size = w2.heap.size + 2 := by omega
  clear hq1 hq2
  have ec := kc6 HBe; have fc := kc3 HBf
  have hI := i01_0 w2 w3
  have hZ := i012 w2
  obtain ⟨hnum, hsz⟩ := parse_short HRP.out
  obtain ⟨t, ht⟩ : ∃ t, showX x = t := ⟨_, rfl⟩
  have hbk : t.size ≤ 4096 → ∃ y, parseE t = .ok y ∧ SamE false x y := fun h => by
   obtain ⟨h1, h2, _⟩ := parse_fit HRP.out
   have := parse_back h1 h2 (by rw [ht]; exact h)
   rw [ht] at this
   exact this
  have HBK := Lib.hid hbk
  have HT := Lib.hid ht
  have htz : t.size ≤ 1000000 := by rw [← ht]; exact hsz
  have htz8 : (showX x).size ≤ 100000000 := by omega
  clear hbk hsz
  go_wp2_with (fail)
  clear ec fc
  refine (showX_any x _ _ _ _ (memW_e0 HMx.out) hnum htz8).mono ?_
  rintro _ w4 ⟨rfl, hb⟩
  replace HBe := kB HBe hb
  replace HBf := kB HBf hb
  replace HMx := kM HMx hb
  replace HF := kF HF hb
  have hs4 := hb.size
  clear hb
  rw [HT.out]
  clear hI hZ
  have ec := kc6 HBe; have fc := kc3 HBf
  have hI := i01_0 w2 w4
  clear hnum htz8 ht
  go_wp2_with (fail)
  by_cases hlg : 4096 < t.size
  ·
   have hb4 : ((4096 : Int) < (t.size : Int)) = True := by simp; omega
   obtain ⟨rq, hrq⟩ : ∃ rq, parseE t = rq := ⟨_, rfl⟩
   have HRQ := Lib.hid hrq
   clear hrq
   cases rq with
   | ok y =>
    have hpp := parse_any t w4 (by omega)
    rw [HRQ.out] at hpp
    clear ec fc
    refine hpp.mono ?_
    clear hpp
    rintro _ w5 ⟨ay, my, cy, rfl, hb, hm⟩
    replace HBe := kB HBe hb
    replace HBf := kB HBf hb
    replace HMx := kM HMx hb
    replace HF := kF HF hb
    have hs5 := hb.size
    clear hb
    have HMy := Lib.hid hm
    clear hm
    simp only [exV]
    clear hI
    have ec := kc6 HBe; have fc := kc3 HBf
    have hI := i01_0 w2 w5
    go_upto_region 10 with (fail)
    clear ec fc
    generalize ee : World.alloc w5 _ = w6_1
    have hq1 := sizeA ee
    replace HF := fA HF ee
    replace HBe := bA HBe ee
    replace HBf := bA HBf ee
    replace HMx := mA HMx ee
    replace HMy := mA HMy ee
    have HBb := nB ee (w5.heap.size)
    clear ee
    generalize ee : World.alloc w6_1 _ = w6
    have hq2 := sizeA ee
    replace HF := fA HF ee
    replace HBe := bA HBe ee
    replace HBf := bA HBf ee
    replace HBb := bA HBb ee
    replace HMx := mA HMx ee
    replace HMy := mA HMy ee
    have HBg := nB ee (w5.heap.size + 1)
    clear ee
    have hsa6 : w6.heap.size = w5.heap.size + 2 := by omega
    clear hq1 hq2
    clear hI
    have ec := kc6 HBe; have fc := kc3 HBf; have bc := kc6 HBb; have gc := kc3 HBg
    have hI := i01_01_0 w2 w5 w6
    have hZ := i01_012 w2 w5
    go_wp2_with (fail)
    clear ec fc bc gc
    go_ret
    exact ⟨rfl, refBelow HF.out⟩
   | bad kq lq cq =>
    have hpp := parse_any t w4 (by omega)
    rw [HRQ.out] at hpp
    clear ec fc
    refine hpp.mono ?_
    clear hpp
    rintro _ w5 ⟨rfl, hb⟩
    replace HBe := kB HBe hb
    replace HBf := kB HBf hb
    replace HMx := kM HMx hb
    replace HF := kF HF hb
    have hs5 := hb.size
    clear hb
    clear hI
    have ec := kc6 HBe; have fc := kc3 HBf
    have hI := i01_0 w2 w5
    go_upto_region 10 with (fail)
    clear ec fc
    generalize ee : World.alloc w5 _ = w6_1
    have hq1 := sizeA ee
    replace HF := fA HF ee
    replace HBe := bA HBe ee
    replace HBf := bA HBf ee
    replace HMx := mA HMx ee
    have HBb := nB ee (w5.heap.size)
    clear ee
    generalize ee : World.alloc w6_1 _ = w6
    have hq2 := sizeA ee
    replace HF := fA HF ee
    replace HBe := bA HBe ee
    replace HBf := bA HBf ee
    replace HBb := bA HBb ee
    replace HMx := mA HMx ee
    have HBg := nB ee (w5.heap.size + 1)
    clear ee
    have hsa6 : w6.heap.size = w5.heap.size + 2 := by omega
    clear hq1 hq2
    clear hI
    have ec := kc6 HBe; have fc := kc3 HBf; have bc := kc6 HBb; have gc := kc3 HBg
    have hI := i01_01_0 w2 w5 w6
    have hZ := i01_012 w2 w5
    go_wp2_with (fail)
    clear ec fc bc gc
    go_ret
    exact ⟨rfl, refBelow HF.out⟩
  have hb4 : ((4096 : Int) < (t.size : Int)) = False := by simp; omega
  obtain ⟨y, hy, hsame⟩ := HBK.out (by omega)
  have HRQ := Lib.hid hy
  have HSM := Lib.hid hsame
  have hty : showX y = t := by rw [← (same_show hsame).2.2]; exact HT.out
  have HTY := Lib.hid hty
  have HNY := Lib.hid (parse_short hy).1
  have htz8 : (showX y).size ≤ 100000000 := by rw [hty]; omega
  clear hy hsame hty HBK
  have hpp := parse_any t w4 (by omega)
  rw [HRQ.out] at hpp
  clear ec fc
  refine hpp.mono ?_
  clear hpp
  rintro _ w5 ⟨ay, my, cy, rfl, hb, hm⟩
  replace HBe := kB HBe hb
  replace HBf := kB HBf hb
  replace HMx := kM HMx hb
  replace HF := kF HF hb
  have hs5 := hb.size
  clear hb
  have HMy := Lib.hid hm
  clear hm
  simp only [exV]
  clear hI
  have ec := kc6 HBe; have fc := kc3 HBf
  have hI := i01_0 w2 w5
  go_upto_region 10 with (fail)
  clear ec fc
  generalize ee : World.alloc w5 _ = w6_1
  have hq1 := sizeA ee
  replace HF := fA HF ee
  replace HBe := bA HBe ee
  replace HBf := bA HBf ee
  replace HMx := mA HMx ee
  replace HMy := mA HMy ee
  have HBb := nB ee (w5.heap.size)
  clear ee
  generalize ee : World.alloc w6_1 _ = w6
  have hq2 := sizeA ee
  replace HF := fA HF ee
  replace HBe := bA HBe ee
  replace HBf := bA HBf ee
  replace HBb := bA HBb ee
  replace HMx := mA HMx ee
  replace HMy := mA HMy ee
  have HBg := nB ee (w5.heap.size + 1)
  clear ee
  have hsa6 : w6.heap.size = w5.heap.size + 2 := by omega
  clear hq1 hq2
  clear hI
  have ec := kc6 HBe; have fc := kc3 HBf; have bc := kc6 HBb; have gc := kc3 HBg
  have hI := i01_01_0 w2 w5 w6
  have hZ := i01_012 w2 w5
  go_wp2_with (fail)
  clear ec fc bc gc
  refine (same_ast _ x y (Nat.le_refl _) HSM.out _ _ _ _ _ _ _ (memW_e0 HMx.out) (memW_e0 HMy.out)).mono ?_
  rintro _ w7 ⟨rfl, hb⟩
  replace HBe := kB HBe hb
  replace HBf := kB HBf hb
  replace HBb := kB HBb hb
  replace HBg := kB HBg hb
  replace HMx := kM HMx hb
  replace HMy := kM HMy hb
  replace HF := kF HF hb
  have hs7 := hb.size
  clear hb
  clear hI hZ
  have ec := kc6 HBe; have fc := kc3 HBf; have bc := kc6 HBb; have gc := kc3 HBg
  have hI := i01_01_0 w2 w5 w7
  go_wp2_with (fail)
  clear ec fc bc gc
  refine (showX_any y _ _ _ _ (memW_e0 HMy.out) HNY.out htz8).mono ?_
  rintro _ w8 ⟨rfl, hb⟩
  replace HBe := kB HBe hb
  replace HBf := kB HBf hb
  replace HBb := kB HBb hb
  replace HBg := kB HBg hb
  replace HMx := kM HMx hb
  replace HMy := kM HMy hb
  replace HF := kF HF hb
  have hs8 := hb.size
  clear hb
  rw [HTY.out]
  clear hI
  have ec := kc6 HBe; have fc := kc3 HBf; have bc := kc6 HBb; have gc := kc3 HBg
  have hI := i01_01_0 w2 w5 w8
  go_wp2_with (fail)
  clear ec fc bc gc
  go_ret
  exact ⟨rfl, refBelow HF.out⟩
 | bad kk l_ c_ =>
  have hpp := parse_any s w1 (by omega)
  rw [HRP.out] at hpp
  refine hpp.mono ?_
  clear hpp
  rintro _ w2 ⟨rfl, hb⟩
  replace HF := kF HF hb
  have hs2 := hb.size
  clear hb
  go_upto_region 6 with (fail)
  generalize ee : World.alloc w2 _ = w3_1
  have hq1 := sizeA ee
  replace HF := fA HF ee
  have HBe := nB ee (w2.heap.size)
  clear ee
  generalize ee : World.alloc w3_1 _ = w3
  have hq2 := sizeA ee
  replace HF := fA HF ee
  replace HBe := bA HBe ee
  have HBf := nB ee (w2.heap.size + 1)
  clear ee
  have hsa3 : w3.heap.size = w2.heap.size + 2 := by omega
  clear hq1 hq2
  have ec := kc6 HBe; have fc := kc3 HBf
  have hI := i01_0 w2 w3
  have hZ := i012 w2
  have hkk : (kk == 0) = false := by have h := bad_kind8 HRP.out; simpa using h
  go_wp2_with (fail)
  clear ec fc
  go_ret
  exact ⟨rfl, refBelow HF.out⟩
end Go.Proofs.Ytcoiagfeoonpbaa
