/-
 ExprParses: it answers true. No condition but sizes.
-/
import Derived.Test.YtnmlobakiclgiaaEx25
import Derived.Test.YtnmlobakiclgiaaEx28
import Derived.Test.YtnmlobakiclgiaaEx29
import Derived.Deep.Cut
namespace Go.Proofs.Ytnmlobakiclgiaa
open Go.RowKit
attribute [local go_sem] tk_pos
set_option maxRecDepth 100000 in
set_option maxHeartbeats 20000000 in
theorem exprParses_any (s : ByteArray) (w : World) (_hs : s.size ≤ maxLen) : Calls Try.prog 3 #[.string s] w fun e w' => e = .returned (.bool true) ∧ Below w.heap.size w w' := by
 have H := Lib.hid True.intro
 have HF : Hid (FarB w.heap.size w.heap.size w w) := Lib.hid (FarB.refl _ _ _)
 go_enter Try.func3, Try.ntmps3
 go_wp2_with (fail)
 refine (awake06_any _).mono ?_
 rintro _ w1 ⟨rfl, hb⟩
 replace HF := kF HF hb
 have hs1 := hb.size
 clear hb
 by_cases hbig : 3000 < s.size
 ·
  have hb3 : ((3000 : Int) < (s.size : Int)) = True := by simp; omega
  go_wp2_with (fail)
  go_ret
  exact ⟨rfl, refBelow HF.out⟩
 have hb3 : ((3000 : Int) < (s.size : Int)) = False := by simp; omega
 obtain ⟨rp, hrp⟩ : ∃ rp, parseE s = rp := ⟨_, rfl⟩
 go_wp2_with (fail)
 cases rp with
 | ok x =>
  have hpp := parse_any s w1 (by omega)
  rw [hrp] at hpp
  refine hpp.mono ?_
  clear hpp
  rintro _ w2 ⟨ax, mx, cx, rfl, hb, hm⟩
  replace HF := kF HF hb
  have hs2 := hb.size
  clear hb
  have HMx := Lib.hid hm
  clear hm
  simp only [exV]
  go_upto_region 6 with (fail)
  generalize ee : World.alloc w2 _ = w3_1
  have hq1 := sizeA ee
  replace HF := fA HF ee
  replace HMx := mA HMx ee
  have HBa := nB ee (w2.heap.size)
  clear ee
  generalize ee : World.alloc w3_1 _ = w3
  have hq2 := sizeA ee
  replace HF := fA HF ee
  replace HBa := bA HBa ee
  replace HMx := mA HMx ee
  have HBf := nB ee (w2.heap.size + 1)
  clear ee
  have hsa3 : w3.heap.size = w2.heap.size + 2 := by omega
  clear hq1 hq2
  have ac := kc6 HBa; have fc := kc3 HBf
  have hI := i01_0 w2 w3
  have hZ := i012 w2
  go_wp2_with (fail)
  have hpp := rparse_any s w3 (by omega)
  rw [hrp] at hpp
  clear ac fc
  refine hpp.mono ?_
  clear hpp
  rintro _ w4 ⟨ay, my, cy, rfl, hb, hm⟩
  replace HBa := kB HBa hb
  replace HBf := kB HBf hb
  replace HMx := kM HMx hb
  replace HF := kF HF hb
  have hs4 := hb.size
  clear hb
  have HMy := Lib.hid hm
  clear hm
  simp only [exV]
  clear hI hZ
  have ac := kc6 HBa; have fc := kc3 HBf
  have hI := i01_0 w2 w4
  go_upto_region 7 with (fail)
  clear ac fc
  generalize ee : World.alloc w4 _ = w5_1
  have hq1 := sizeA ee
  replace HF := fA HF ee
  replace HBa := bA HBa ee
  replace HBf := bA HBf ee
  replace HMx := mA HMx ee
  replace HMy := mA HMy ee
  have HBb := nB ee (w4.heap.size)
  clear ee
  generalize ee : World.alloc w5_1 _ = w5
  have hq2 := sizeA ee
  replace HF := fA HF ee
  replace HBa := bA HBa ee
  replace HBf := bA HBf ee
  replace HBb := bA HBb ee
  replace HMx := mA HMx ee
  replace HMy := mA HMy ee
  have HBp := nB ee (w4.heap.size + 1)
  clear ee
  have hsa5 : w5.heap.size = w4.heap.size + 2 := by omega
  clear hq1 hq2
  clear hI
  have ac := kc6 HBa; have fc := kc3 HBf; have bc := kc6 HBb; have pc := kc2 HBp
  have hI := i01_01_0 w2 w4 w5
  have hZ := i01_012 w2 w4
  go_wp2_with (fail)
  clear ac fc bc pc
  refine (sameE_self x _ (memW_nw HMx.out) (memW_nw HMy.out)).mono ?_
  rintro _ w6 ⟨rfl, hb⟩
  replace HBa := kB HBa hb
  replace HBf := kB HBf hb
  replace HBb := kB HBb hb
  replace HBp := kB HBp hb
  replace HMx := kM HMx hb
  replace HMy := kM HMy hb
  replace HF := kF HF hb
  have hs6 := hb.size
  clear hb
  go_wp2_with (fail)
  go_ret
  exact ⟨rfl, refBelow HF.out⟩
 | bad kk l_ c_ =>
  have hpp := parse_any s w1 (by omega)
  rw [hrp] at hpp
  refine hpp.mono ?_
  clear hpp
  rintro _ w2 ⟨rfl, hb⟩
  replace HF := kF HF hb
  have hs2 := hb.size
  clear hb
  go_upto_region 6 with (fail)
  generalize ee : World.alloc w2 _ = w3_1
  have hq1 := sizeA ee
  replace HF := fA HF ee
  have HBa := nB ee (w2.heap.size)
  clear ee
  generalize ee : World.alloc w3_1 _ = w3
  have hq2 := sizeA ee
  replace HF := fA HF ee
  replace HBa := bA HBa ee
  have HBf := nB ee (w2.heap.size + 1)
  clear ee
  have hsa3 : w3.heap.size = w2.heap.size + 2 := by omega
  clear hq1 hq2
  have ac := kc6 HBa; have fc := kc3 HBf
  have hI := i01_0 w2 w3
  have hZ := i012 w2
  go_wp2_with (fail)
  have hpp := rparse_any s w3 (by omega)
  rw [hrp] at hpp
  clear ac fc
  refine hpp.mono ?_
  clear hpp
  rintro _ w4 ⟨rfl, hb⟩
  replace HBa := kB HBa hb
  replace HBf := kB HBf hb
  replace HF := kF HF hb
  have hs4 := hb.size
  clear hb
  clear hI hZ
  have ac := kc6 HBa; have fc := kc3 HBf
  have hI := i01_0 w2 w4
  go_upto_region 7 with (fail)
  clear ac fc
  generalize ee : World.alloc w4 _ = w5_1
  have hq1 := sizeA ee
  replace HF := fA HF ee
  replace HBa := bA HBa ee
  replace HBf := bA HBf ee
  have HBb := nB ee (w4.heap.size)
  clear ee
  generalize ee : World.alloc w5_1 _ = w5
  have hq2 := sizeA ee
  replace HF := fA HF ee
  replace HBa := bA HBa ee
  replace HBf := bA HBf ee
  replace HBb := bA HBb ee
  have HBp := nB ee (w4.heap.size + 1)
  clear ee
  have hsa5 : w5.heap.size = w4.heap.size + 2 := by omega
  clear hq1 hq2
  clear hI
  have ac := kc6 HBa; have fc := kc3 HBf; have bc := kc6 HBb; have pc := kc2 HBp
  have hI := i01_01_0 w2 w4 w5
  have hZ := i01_012 w2 w4
  go_wp2_with (fail)
  clear ac fc bc pc
  refine (sameE_self (.mk 0 ⟨#[]⟩ 0 [] 0 0) _ memW_none memW_none).mono ?_
  rintro _ w6 ⟨rfl, hb⟩
  replace HBa := kB HBa hb
  replace HBf := kB HBf hb
  replace HBb := kB HBb hb
  replace HBp := kB HBp hb
  replace HF := kF HF hb
  have hs6 := hb.size
  clear hb
  go_wp2_with (fail)
  go_ret
  exact ⟨rfl, refBelow HF.out⟩
end Go.Proofs.Ytnmlobakiclgiaa
