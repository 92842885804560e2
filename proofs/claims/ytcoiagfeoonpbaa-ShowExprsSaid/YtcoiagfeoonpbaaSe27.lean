/-
 show.Expr, and what it is made of: expressions as texts. No condition but how they lie, and sizes.
-/
import Derived.Test.YtcoiagfeoonpbaaSe26
import Derived.Test.YtcoiagfeoonpbaaSe18
import Derived.Test.YtcoiagfeoonpbaaSe19
import Derived.Deep.Cut
import Derived.Test.YtcoiagfeoonpbaaSe20
namespace Go.Proofs.Ytcoiagfeoonpbaa
open Go.RowKit
def ShowsAt (x : Ex) : Prop := ∀ (a : Option Addr) (n c : Nat) (w : World), MemW w (.s 6 (Ex.rows x.args)) (.slice a n c) → NumX x → (showX x).size ≤ 100000000 →
 Calls Try.prog 9 #[.agg #[.int .i64 x.kind, .string x.name, .int .i64 x.n, .slice a n c, .int .i64 x.line, .int .i64 x.col]] w fun e w' => e = .returned (.string (showX x)) ∧ Below w.heap.size w w'
theorem one_at {l : List Ex} {S : Nat → Prop} {w : World} {a : Option Addr} {m c : Nat} (h : Mem S w (.s 6 (Ex.rows l)) (.slice a m c)) {i : Nat} {x : Ex} (hx : l[i]? = some x) {k : Nat} (hk : i * 6 = k) :
  ∃ b o a' m' c', a = some ⟨b, o, none⟩ ∧ i < m ∧ m ≤ c ∧ c ≤ 9223372036854775807 ∧ w.cell? ⟨b, o + k, none⟩ = some (.int .i64 x.kind) ∧ w.cell? ⟨b, o + k + 1, none⟩ = some (.string x.name) ∧ w.cell? ⟨b, o + k + 2, none⟩ = some (.int .i64 x.n) ∧ w.cell? ⟨b, o + k + 3, none⟩ = some (.slice a' m' c') ∧ w.cell? ⟨b, o + k + 4, none⟩ = some (.int .i64 x.line) ∧ w.cell? ⟨b, o + k + 5, none⟩ = some (.int .i64 x.col) ∧ Hid (Mem S w (.s 6 (Ex.rows x.args)) (.slice a' m' c')) := by
 subst hk
 have hl := h.len
 rw [Ex.rows_len] at hl
 have hi := (List.getElem?_eq_some_iff.1 hx).1
 obtain ⟨b, o, y, a', m', c', ha, hy, g0, g1, g2, g3, g4, g5, g6⟩ := ex_at h i hi
 obtain rfl : x = y := by have := hy.out; rw [hx] at this; exact Option.some.inj this
 exact ⟨b, o, a', m', c', ha, by omega, hl.2.1, hl.2.2, g0, g1, g2, g3, g4, g5, g6⟩
set_option maxRecDepth 100000 in
set_option maxHeartbeats 20000000 in
theorem atom_any {e : Ex} (hs : ShowsAt e) (hz : (showX e).size ≤ 100000000) (a : Option Addr) (n c : Nat) (w : World) (hm : MemW w (.s 6 (Ex.rows e.args)) (.slice a n c)) (hnum : NumX e) :
  Calls Try.prog 27 #[.agg #[.int .i64 e.kind, .string e.name, .int .i64 e.n, .slice a n c, .int .i64 e.line, .int .i64 e.col]] w fun e' w' => e' = .returned (.string (atomX e (showX e))) ∧ Below w.heap.size w w' := by
 have HM := Lib.hid hm
 have HN := Lib.hid hnum
 clear hm hnum
 have HS := Lib.hid hs
 have HZ := Lib.hid hz
 obtain ⟨sx, hsx⟩ : ∃ s, showX e = s := ⟨_, rfl⟩
 have hz2 : sx.size ≤ 100000000 := by rw [← hsx]; exact hz
 clear hs hz
 rw [hsx]
 by_cases h1 : e.kind = 1
 ·
  have e1 : (e.kind == 1) = true := by simp [h1]
  have HK : Hid (smallX e.kind = true) := Lib.hid (by unfold smallX; exact decide_eq_true (by omega))
  clear h1
  have HF : Hid (FarB w.heap.size w.heap.size w w) := Lib.hid (FarB.refl _ _ _)
  go_enter Try.func27, Try.ntmps27
  go_wp2_with (fail)
  generalize ee : World.alloc w _ = w1
  have hsa1 := sizeA ee
  replace HF := fA HF ee
  have HBr := nB ee (w.heap.size)
  clear ee
  have rc := kc6 HBr
  have hI := i0_0 w w1
  have hZ := i01 w
  clear rc
  refine (HS.out _ _ _ _ (HM.out.keep (refBelow HF.out)) HN.out HZ.out).mono ?_
  rintro _ w2 ⟨rfl, hb⟩
  replace HBr := kB HBr hb
  replace HF := kF HF hb
  have hs2 := hb.size
  clear hb
  rw [hsx]
  have HQ : Hid (atomX e sx = sx) := Lib.hid (by unfold atomX; rw [HK.out]; rfl)
  clear hI hZ
  have rc := kc6 HBr
  have hI := i0_0 w w2
  go_wp2_with (fail)
  clear rc
  go_ret
  exact ⟨congrArg (fun s => Ending.returned (Value.string s)) HQ.out.symm, refBelow HF.out⟩
 by_cases h2 : e.kind = 2
 ·
  have e1 : (e.kind == 1) = false := by simp [h1]
  have e2 : (e.kind == 2) = true := by simp [h2]
  have HK : Hid (smallX e.kind = true) := Lib.hid (by unfold smallX; exact decide_eq_true (by omega))
  clear h1 h2
  have HF : Hid (FarB w.heap.size w.heap.size w w) := Lib.hid (FarB.refl _ _ _)
  go_enter Try.func27, Try.ntmps27
  go_wp2_with (fail)
  generalize ee : World.alloc w _ = w1
  have hsa1 := sizeA ee
  replace HF := fA HF ee
  have HBr := nB ee (w.heap.size)
  clear ee
  have rc := kc6 HBr
  have hI := i0_0 w w1
  have hZ := i01 w
  clear rc
  refine (HS.out _ _ _ _ (HM.out.keep (refBelow HF.out)) HN.out HZ.out).mono ?_
  rintro _ w2 ⟨rfl, hb⟩
  replace HBr := kB HBr hb
  replace HF := kF HF hb
  have hs2 := hb.size
  clear hb
  rw [hsx]
  have HQ : Hid (atomX e sx = sx) := Lib.hid (by unfold atomX; rw [HK.out]; rfl)
  clear hI hZ
  have rc := kc6 HBr
  have hI := i0_0 w w2
  go_wp2_with (fail)
  clear rc
  go_ret
  exact ⟨congrArg (fun s => Ending.returned (Value.string s)) HQ.out.symm, refBelow HF.out⟩
 by_cases h3 : e.kind = 3
 ·
  have e1 : (e.kind == 1) = false := by simp [h1]
  have e2 : (e.kind == 2) = false := by simp [h2]
  have e3 : (e.kind == 3) = true := by simp [h3]
  have HK : Hid (smallX e.kind = true) := Lib.hid (by unfold smallX; exact decide_eq_true (by omega))
  clear h1 h2 h3
  have HF : Hid (FarB w.heap.size w.heap.size w w) := Lib.hid (FarB.refl _ _ _)
  go_enter Try.func27, Try.ntmps27
  go_wp2_with (fail)
  generalize ee : World.alloc w _ = w1
  have hsa1 := sizeA ee
  replace HF := fA HF ee
  have HBr := nB ee (w.heap.size)
  clear ee
  have rc := kc6 HBr
  have hI := i0_0 w w1
  have hZ := i01 w
  clear rc
  refine (HS.out _ _ _ _ (HM.out.keep (refBelow HF.out)) HN.out HZ.out).mono ?_
  rintro _ w2 ⟨rfl, hb⟩
  replace HBr := kB HBr hb
  replace HF := kF HF hb
  have hs2 := hb.size
  clear hb
  rw [hsx]
  have HQ : Hid (atomX e sx = sx) := Lib.hid (by unfold atomX; rw [HK.out]; rfl)
  clear hI hZ
  have rc := kc6 HBr
  have hI := i0_0 w w2
  go_wp2_with (fail)
  clear rc
  go_ret
  exact ⟨congrArg (fun s => Ending.returned (Value.string s)) HQ.out.symm, refBelow HF.out⟩
 by_cases h9 : e.kind = 9
 ·
  have e1 : (e.kind == 1) = false := by simp [h1]
  have e2 : (e.kind == 2) = false := by simp [h2]
  have e3 : (e.kind == 3) = false := by simp [h3]
  have e9 : (e.kind == 9) = true := by simp [h9]
  have HK : Hid (smallX e.kind = true) := Lib.hid (by unfold smallX; exact decide_eq_true (by omega))
  clear h1 h2 h3 h9
  have HF : Hid (FarB w.heap.size w.heap.size w w) := Lib.hid (FarB.refl _ _ _)
  go_enter Try.func27, Try.ntmps27
  go_wp2_with (fail)
  generalize ee : World.alloc w _ = w1
  have hsa1 := sizeA ee
  replace HF := fA HF ee
  have HBr := nB ee (w.heap.size)
  clear ee
  have rc := kc6 HBr
  have hI := i0_0 w w1
  have hZ := i01 w
  clear rc
  refine (HS.out _ _ _ _ (HM.out.keep (refBelow HF.out)) HN.out HZ.out).mono ?_
  rintro _ w2 ⟨rfl, hb⟩
  replace HBr := kB HBr hb
  replace HF := kF HF hb
  have hs2 := hb.size
  clear hb
  rw [hsx]
  have HQ : Hid (atomX e sx = sx) := Lib.hid (by unfold atomX; rw [HK.out]; rfl)
  clear hI hZ
  have rc := kc6 HBr
  have hI := i0_0 w w2
  go_wp2_with (fail)
  clear rc
  go_ret
  exact ⟨congrArg (fun s => Ending.returned (Value.string s)) HQ.out.symm, refBelow HF.out⟩
 have e1 : (e.kind == 1) = false := by simp [h1]
 have e2 : (e.kind == 2) = false := by simp [h2]
 have e3 : (e.kind == 3) = false := by simp [h3]
 have e9 : (e.kind == 9) = false := by simp [h9]
 have HK : Hid (smallX e.kind = false) := Lib.hid (by unfold smallX; exact decide_eq_false (by omega))
 clear h1 h2 h3 h9
 have HF : Hid (FarB w.heap.size w.heap.size w w) := Lib.hid (FarB.refl _ _ _)
 go_enter Try.func27, Try.ntmps27
 go_wp2_with (fail)
 generalize ee : World.alloc w _ = w1
 have hsa1 := sizeA ee
 replace HF := fA HF ee
 have HBr := nB ee (w.heap.size)
 clear ee
 have rc := kc6 HBr
 have hI := i0_0 w w1
 have hZ := i01 w
 clear rc
 refine (HS.out _ _ _ _ (HM.out.keep (refBelow HF.out)) HN.out HZ.out).mono ?_
 rintro _ w2 ⟨rfl, hb⟩
 replace HBr := kB HBr hb
 replace HF := kF HF hb
 have hs2 := hb.size
 clear hb
 rw [hsx]
 have HQ : Hid (atomX e sx = (⟨#[40]⟩ ++ sx) ++ ⟨#[41]⟩) := Lib.hid (by unfold atomX; rw [HK.out]; rfl)
 have i1 : ¬ (9223372036854775807 < 1 + sx.size) := by omega
 have i2 : ¬ (9223372036854775807 < 1 + sx.size + 1) := by omega
 clear hI hZ
 have rc := kc6 HBr
 have hI := i0_0 w w2
 go_wp2_with (fail)
 clear rc
 go_ret
 exact ⟨congrArg (fun s => Ending.returned (Value.string s)) HQ.out.symm, refBelow HF.out⟩
set_option maxRecDepth 100000 in
set_option maxHeartbeats 20000000 in
theorem operand_any {e : Ex} (hs : ShowsAt e) (hz : (showX e).size ≤ 100000000) (rank : Nat) (strict : Bool) (hr : rank ≤ 10) (a : Option Addr) (n c : Nat) (w : World) (hm : MemW w (.s 6 (Ex.rows e.args)) (.slice a n c)) (hnum : NumX e) :
  Calls Try.prog 64 #[.agg #[.int .i64 e.kind, .string e.name, .int .i64 e.n, .slice a n c, .int .i64 e.line, .int .i64 e.col], .int .i64 (rank : Int), .bool strict] w fun e' w' => e' = .returned (.string (opndX e (showX e) rank strict)) ∧ Below w.heap.size w w' := by
 have HM := Lib.hid hm
 have HN := Lib.hid hnum
 clear hm hnum
 have HS := Lib.hid hs
 have HZ := Lib.hid hz
 obtain ⟨sx, hsx⟩ : ∃ s, showX e = s := ⟨_, rfl⟩
 have hz2 : sx.size ≤ 100000000 := by rw [← hsx]; exact hz
 clear hs hz
 have HR := Lib.hid hr
 clear hr
 rw [hsx]
 by_cases h5 : e.kind = 5
 ·
  have HK5 : Hid (decide (e.kind = 5) = true) := Lib.hid (decide_eq_true h5)
  have e5 : (e.kind == 5) = true := by simp [h5]
  clear h5
  have HF : Hid (FarB w.heap.size w.heap.size w w) := Lib.hid (FarB.refl _ _ _)
  go_enter Try.func64, Try.ntmps64
  go_wp2_with (fail)
  generalize ee : World.alloc w _ = w1
  have hsa1 := sizeA ee
  replace HF := fA HF ee
  have HBr := nB ee (w.heap.size)
  clear ee
  have rc := kc6 HBr
  have hI := i0_0 w w1
  have hZ := i01 w
  refine (binds_any _ _).mono ?_
  rintro _ _ ⟨rfl, rfl⟩
  obtain ⟨bk, hbk⟩ : ∃ bk, bindsE e.name = bk := ⟨_, rfl⟩
  rw [hbk]
  have HL : Hid (lessX e rank strict = (decide (bk < rank) || (decide (bk = rank) && strict))) := Lib.hid (by unfold lessX; rw [HK5.out, hbk]; rfl)
  clear hbk
  by_cases hlt : bk < rank
  ·
   have q1 : bk < rank := hlt
   have q2 : ¬ bk = rank := by omega
   have q3 : True := trivial
   have t1 : (bk : Int) < (rank : Int) := by omega

   replace HL : Hid (lessX e rank strict = true) := Lib.hid (by rw [HL.out]; simp [q1, q2])
   clear q1 q2 q3
   clear rc
   clear hI hZ
   have rc := kc6 HBr
   have hI := i0_0 w w1
   have hZ := i01 w
   go_upto_region 5 with (fail)
   refine wp_region_held_drew (S := fun w' => Far (fun _ => False) (w1) w') (by kernel_rfl) (Far.of (below_drew _)) (fun hS20 => ?_)
   refine takeA 0 (v := ?_) rfl ?_ ?_
   rotate_left
   · (intro w hSw; (try dsimp only at hSw); replace rc := Far.c6z rc hSw (fun e => e); go_simp; try with_reducible rfl)
   try simp only [Act.put, pu1, pu2, pu3]
   refine takeA 5 (v := ?_) rfl ?_ ?_
   rotate_left
   · (intro w hSw; (try dsimp only at hSw); replace rc := Far.c6z rc hSw (fun e => e); go_simp; try with_reducible rfl)
   try simp only [Act.put, pu1, pu2, pu3]

   refine callA 1 rfl fun K hK => ?_
   go_simp
   refine (open_any e a n c _).mono ?_
   rintro e wx21 ⟨rfl, hb⟩
   clear rc
   clear hI hZ
   have hbk := hb
   replace hb := Below.one hb
   replace HBr := kB HBr hb
   replace HF := kF HF hb
   have hs21 := hb.size
   clear hb
   generalize hox : openX e.kind = ox
   have HOX := Lib.hid hox
   clear hox
   go_simp
   refine hK.out _ _ ?_ (fun hS21 => ?_)
   · exact Far.trans hS20 (Far.of hbk)
   clear hK K

   cases ox with
   | true =>
    refine takeA 2 (v := ?_) rfl ?_ ?_
    rotate_left
    · (intro w hSw; (try dsimp only at hSw); go_simp; try with_reducible rfl)
    try simp only [Act.put, pu1, pu2, pu3]
    refine skipA 3 rfl ?_
    try simp only [Act.put, pu1, pu2, pu3]
    refine takeA 4 (v := ?_) rfl ?_ ?_
    rotate_left
    · (intro w hSw; (try dsimp only at hSw); go_simp; try with_reducible rfl)
    try simp only [Act.put, pu1, pu2, pu3]

    refine callA 6 rfl fun K hK => ?_
    go_simp
    refine (HS.out _ _ _ _ (HM.out.keep (refBelow HF.out)) HN.out HZ.out).mono ?_
    rintro e wx22 ⟨rfl, hb⟩
    have hbk := hb
    replace HBr := kB HBr hb
    replace HF := kF HF hb
    have hs22 := hb.size
    clear hb
    rw [hsx]
    go_simp
    refine hK.out _ _ ?_ (fun hS22 => ?_)
    · exact Far.trans hS21 (Far.of hbk)
    clear hK K

    refine callA 7 rfl fun K hK => ?_
    go_simp
    refine (brackets_any _ sx _ (by omega)).mono ?_
    rintro e wx23 ⟨rfl, rfl⟩
    have hbk := Below.refl wx22.heap.size wx22
    go_simp
    refine hK.out _ _ ?_ (fun hS23 => ?_)
    · exact Far.trans hS22 (Far.refl _ _)
    clear hK K

    refine takeA 8 (v := ?_) rfl ?_ ?_
    rotate_left
    · (intro w hSw; (try dsimp only at hSw); go_simp; try with_reducible rfl)
    try simp only [Act.put, pu1, pu2, pu3]
    refine wpAnyH_done (by kernel_rfl) ?_ _

    go_wp2_with (fail)
    have HQ : Hid (opndX e sx rank strict = brkX true sx) := Lib.hid (by unfold opndX; rw [HOX.out, HL.out]; rfl)
    go_ret
    exact ⟨congrArg (fun s => Ending.returned (Value.string s)) HQ.out.symm, refBelow HF.out⟩
   | false =>
    refine takeA 2 (v := ?_) rfl ?_ ?_
    rotate_left
    · (intro w hSw; (try dsimp only at hSw); go_simp; try with_reducible rfl)
    try simp only [Act.put, pu1, pu2, pu3]
    refine takeA 3 (v := ?_) rfl ?_ ?_
    rotate_left
    · (intro w hSw; (try dsimp only at hSw); go_simp; try with_reducible rfl)
    try simp only [Act.put, pu1, pu2, pu3]
    refine takeA 4 (v := ?_) rfl ?_ ?_
    rotate_left
    · (intro w hSw; (try dsimp only at hSw); go_simp; try with_reducible rfl)
    try simp only [Act.put, pu1, pu2, pu3]

    refine callA 6 rfl fun K hK => ?_
    go_simp
    refine (HS.out _ _ _ _ (HM.out.keep (refBelow HF.out)) HN.out HZ.out).mono ?_
    rintro e wx22 ⟨rfl, hb⟩
    have hbk := hb
    replace HBr := kB HBr hb
    replace HF := kF HF hb
    have hs22 := hb.size
    clear hb
    rw [hsx]
    go_simp
    refine hK.out _ _ ?_ (fun hS22 => ?_)
    · exact Far.trans hS21 (Far.of hbk)
    clear hK K

    refine callA 7 rfl fun K hK => ?_
    go_simp
    refine (brackets_any _ sx _ (by omega)).mono ?_
    rintro e wx23 ⟨rfl, rfl⟩
    have hbk := Below.refl wx22.heap.size wx22
    go_simp
    refine hK.out _ _ ?_ (fun hS23 => ?_)
    · exact Far.trans hS22 (Far.refl _ _)
    clear hK K

    refine takeA 8 (v := ?_) rfl ?_ ?_
    rotate_left
    · (intro w hSw; (try dsimp only at hSw); go_simp; try with_reducible rfl)
    try simp only [Act.put, pu1, pu2, pu3]
    refine wpAnyH_done (by kernel_rfl) ?_ _

    go_wp2_with (fail)
    have HQ : Hid (opndX e sx rank strict = brkX true sx) := Lib.hid (by unfold opndX; rw [HOX.out, HL.out]; rfl)
    go_ret
    exact ⟨congrArg (fun s => Ending.returned (Value.string s)) HQ.out.symm, refBelow HF.out⟩
  by_cases heq : bk = rank
  ·
   have q1 : ¬ bk < rank := hlt
   have q2 : bk = rank := heq
   have q3 : True := trivial
   have t1 : ¬ ((bk : Int) < (rank : Int)) := by omega
   have t2 : ((bk : Int) == (rank : Int)) = true := by simp; omega

   replace HL : Hid (lessX e rank strict = strict) := Lib.hid (by rw [HL.out]; simp [q2])
   clear q1 q2 q3
   clear rc
   clear hI hZ
   have rc := kc6 HBr
   have hI := i0_0 w w1
   have hZ := i01 w
   go_upto_region 5 with (fail)
   refine wp_region_held_drew (S := fun w' => Far (fun _ => False) (w1) w') (by kernel_rfl) (Far.of (below_drew _)) (fun hS20 => ?_)
   refine takeA 0 (v := ?_) rfl ?_ ?_
   rotate_left
   · (intro w hSw; (try dsimp only at hSw); replace rc := Far.c6z rc hSw (fun e => e); go_simp; try with_reducible rfl)
   try simp only [Act.put, pu1, pu2, pu3]
   refine takeA 5 (v := ?_) rfl ?_ ?_
   rotate_left
   · (intro w hSw; (try dsimp only at hSw); replace rc := Far.c6z rc hSw (fun e => e); go_simp; try with_reducible rfl)
   try simp only [Act.put, pu1, pu2, pu3]

   refine callA 1 rfl fun K hK => ?_
   go_simp
   refine (open_any e a n c _).mono ?_
   rintro e wx21 ⟨rfl, hb⟩
   clear rc
   clear hI hZ
   have hbk := hb
   replace hb := Below.one hb
   replace HBr := kB HBr hb
   replace HF := kF HF hb
   have hs21 := hb.size
   clear hb
   generalize hox : openX e.kind = ox
   have HOX := Lib.hid hox
   clear hox
   go_simp
   refine hK.out _ _ ?_ (fun hS21 => ?_)
   · exact Far.trans hS20 (Far.of hbk)
   clear hK K

   cases ox with
   | true =>
    refine takeA 2 (v := ?_) rfl ?_ ?_
    rotate_left
    · (intro w hSw; (try dsimp only at hSw); go_simp; try with_reducible rfl)
    try simp only [Act.put, pu1, pu2, pu3]
    refine skipA 3 rfl ?_
    try simp only [Act.put, pu1, pu2, pu3]
    refine takeA 4 (v := ?_) rfl ?_ ?_
    rotate_left
    · (intro w hSw; (try dsimp only at hSw); go_simp; try with_reducible rfl)
    try simp only [Act.put, pu1, pu2, pu3]

    refine callA 6 rfl fun K hK => ?_
    go_simp
    refine (HS.out _ _ _ _ (HM.out.keep (refBelow HF.out)) HN.out HZ.out).mono ?_
    rintro e wx22 ⟨rfl, hb⟩
    have hbk := hb
    replace HBr := kB HBr hb
    replace HF := kF HF hb
    have hs22 := hb.size
    clear hb
    rw [hsx]
    go_simp
    refine hK.out _ _ ?_ (fun hS22 => ?_)
    · exact Far.trans hS21 (Far.of hbk)
    clear hK K

    refine callA 7 rfl fun K hK => ?_
    go_simp
    refine (brackets_any _ sx _ (by omega)).mono ?_
    rintro e wx23 ⟨rfl, rfl⟩
    have hbk := Below.refl wx22.heap.size wx22
    go_simp
    refine hK.out _ _ ?_ (fun hS23 => ?_)
    · exact Far.trans hS22 (Far.refl _ _)
    clear hK K

    refine takeA 8 (v := ?_) rfl ?_ ?_
    rotate_left
    · (intro w hSw; (try dsimp only at hSw); go_simp; try with_reducible rfl)
    try simp only [Act.put, pu1, pu2, pu3]
    refine wpAnyH_done (by kernel_rfl) ?_ _

    go_wp2_with (fail)
    have HQ : Hid (opndX e sx rank strict = brkX true sx) := Lib.hid (by unfold opndX; rw [HOX.out, HL.out]; rfl)
    go_ret
    exact ⟨congrArg (fun s => Ending.returned (Value.string s)) HQ.out.symm, refBelow HF.out⟩
   | false =>
    refine takeA 2 (v := ?_) rfl ?_ ?_
    rotate_left
    · (intro w hSw; (try dsimp only at hSw); go_simp; try with_reducible rfl)
    try simp only [Act.put, pu1, pu2, pu3]
    refine takeA 3 (v := ?_) rfl ?_ ?_
    rotate_left
    · (intro w hSw; (try dsimp only at hSw); go_simp; try with_reducible rfl)
    try simp only [Act.put, pu1, pu2, pu3]
    refine takeA 4 (v := ?_) rfl ?_ ?_
    rotate_left
    · (intro w hSw; (try dsimp only at hSw); go_simp; try with_reducible rfl)
    try simp only [Act.put, pu1, pu2, pu3]

    refine callA 6 rfl fun K hK => ?_
    go_simp
    refine (HS.out _ _ _ _ (HM.out.keep (refBelow HF.out)) HN.out HZ.out).mono ?_
    rintro e wx22 ⟨rfl, hb⟩
    have hbk := hb
    replace HBr := kB HBr hb
    replace HF := kF HF hb
    have hs22 := hb.size
    clear hb
    rw [hsx]
    go_simp
    refine hK.out _ _ ?_ (fun hS22 => ?_)
    · exact Far.trans hS21 (Far.of hbk)
    clear hK K

    refine callA 7 rfl fun K hK => ?_
    go_simp
    refine (brackets_any _ sx _ (by omega)).mono ?_
    rintro e wx23 ⟨rfl, rfl⟩
    have hbk := Below.refl wx22.heap.size wx22
    go_simp
    refine hK.out _ _ ?_ (fun hS23 => ?_)
    · exact Far.trans hS22 (Far.refl _ _)
    clear hK K

    refine takeA 8 (v := ?_) rfl ?_ ?_
    rotate_left
    · (intro w hSw; (try dsimp only at hSw); go_simp; try with_reducible rfl)
    try simp only [Act.put, pu1, pu2, pu3]
    refine wpAnyH_done (by kernel_rfl) ?_ _

    go_wp2_with (fail)
    have HQ : Hid (opndX e sx rank strict = brkX strict sx) := Lib.hid (by unfold opndX; rw [HOX.out, HL.out]; rfl)
    go_ret
    exact ⟨congrArg (fun s => Ending.returned (Value.string s)) HQ.out.symm, refBelow HF.out⟩
  have q1 : ¬ bk < rank := hlt
  have q2 : ¬ bk = rank := heq
  have q3 : True := trivial
  have t1 : ¬ ((bk : Int) < (rank : Int)) := by omega
  have t2 : ((bk : Int) == (rank : Int)) = false := by simp; omega

  replace HL : Hid (lessX e rank strict = false) := Lib.hid (by rw [HL.out]; simp [q1, q2])
  clear q1 q2 q3
  clear rc
  clear hI hZ
  have rc := kc6 HBr
  have hI := i0_0 w w1
  have hZ := i01 w
  go_upto_region 5 with (fail)
  refine wp_region_held_drew (S := fun w' => Far (fun _ => False) (w1) w') (by kernel_rfl) (Far.of (below_drew _)) (fun hS20 => ?_)
  refine takeA 0 (v := ?_) rfl ?_ ?_
  rotate_left
  · (intro w hSw; (try dsimp only at hSw); replace rc := Far.c6z rc hSw (fun e => e); go_simp; try with_reducible rfl)
  try simp only [Act.put, pu1, pu2, pu3]
  refine takeA 5 (v := ?_) rfl ?_ ?_
  rotate_left
  · (intro w hSw; (try dsimp only at hSw); replace rc := Far.c6z rc hSw (fun e => e); go_simp; try with_reducible rfl)
  try simp only [Act.put, pu1, pu2, pu3]

  refine callA 1 rfl fun K hK => ?_
  go_simp
  refine (open_any e a n c _).mono ?_
  rintro e wx21 ⟨rfl, hb⟩
  clear rc
  clear hI hZ
  have hbk := hb
  replace hb := Below.one hb
  replace HBr := kB HBr hb
  replace HF := kF HF hb
  have hs21 := hb.size
  clear hb
  generalize hox : openX e.kind = ox
  have HOX := Lib.hid hox
  clear hox
  go_simp
  refine hK.out _ _ ?_ (fun hS21 => ?_)
  · exact Far.trans hS20 (Far.of hbk)
  clear hK K

  cases ox with
  | true =>
   refine takeA 2 (v := ?_) rfl ?_ ?_
   rotate_left
   · (intro w hSw; (try dsimp only at hSw); go_simp; try with_reducible rfl)
   try simp only [Act.put, pu1, pu2, pu3]
   refine skipA 3 rfl ?_
   try simp only [Act.put, pu1, pu2, pu3]
   refine takeA 4 (v := ?_) rfl ?_ ?_
   rotate_left
   · (intro w hSw; (try dsimp only at hSw); go_simp; try with_reducible rfl)
   try simp only [Act.put, pu1, pu2, pu3]

   refine callA 6 rfl fun K hK => ?_
   go_simp
   refine (HS.out _ _ _ _ (HM.out.keep (refBelow HF.out)) HN.out HZ.out).mono ?_
   rintro e wx22 ⟨rfl, hb⟩
   have hbk := hb
   replace HBr := kB HBr hb
   replace HF := kF HF hb
   have hs22 := hb.size
   clear hb
   rw [hsx]
   go_simp
   refine hK.out _ _ ?_ (fun hS22 => ?_)
   · exact Far.trans hS21 (Far.of hbk)
   clear hK K

   refine callA 7 rfl fun K hK => ?_
   go_simp
   refine (brackets_any _ sx _ (by omega)).mono ?_
   rintro e wx23 ⟨rfl, rfl⟩
   have hbk := Below.refl wx22.heap.size wx22
   go_simp
   refine hK.out _ _ ?_ (fun hS23 => ?_)
   · exact Far.trans hS22 (Far.refl _ _)
   clear hK K

   refine takeA 8 (v := ?_) rfl ?_ ?_
   rotate_left
   · (intro w hSw; (try dsimp only at hSw); go_simp; try with_reducible rfl)
   try simp only [Act.put, pu1, pu2, pu3]
   refine wpAnyH_done (by kernel_rfl) ?_ _

   go_wp2_with (fail)
   have HQ : Hid (opndX e sx rank strict = brkX true sx) := Lib.hid (by unfold opndX; rw [HOX.out, HL.out]; rfl)
   go_ret
   exact ⟨congrArg (fun s => Ending.returned (Value.string s)) HQ.out.symm, refBelow HF.out⟩
  | false =>
   refine takeA 2 (v := ?_) rfl ?_ ?_
   rotate_left
   · (intro w hSw; (try dsimp only at hSw); go_simp; try with_reducible rfl)
   try simp only [Act.put, pu1, pu2, pu3]
   refine takeA 3 (v := ?_) rfl ?_ ?_
   rotate_left
   · (intro w hSw; (try dsimp only at hSw); go_simp; try with_reducible rfl)
   try simp only [Act.put, pu1, pu2, pu3]
   refine takeA 4 (v := ?_) rfl ?_ ?_
   rotate_left
   · (intro w hSw; (try dsimp only at hSw); go_simp; try with_reducible rfl)
   try simp only [Act.put, pu1, pu2, pu3]

   refine callA 6 rfl fun K hK => ?_
   go_simp
   refine (HS.out _ _ _ _ (HM.out.keep (refBelow HF.out)) HN.out HZ.out).mono ?_
   rintro e wx22 ⟨rfl, hb⟩
   have hbk := hb
   replace HBr := kB HBr hb
   replace HF := kF HF hb
   have hs22 := hb.size
   clear hb
   rw [hsx]
   go_simp
   refine hK.out _ _ ?_ (fun hS22 => ?_)
   · exact Far.trans hS21 (Far.of hbk)
   clear hK K

   refine callA 7 rfl fun K hK => ?_
   go_simp
   refine (brackets_any _ sx _ (by omega)).mono ?_
   rintro e wx23 ⟨rfl, rfl⟩
   have hbk := Below.refl wx22.heap.size wx22
   go_simp
   refine hK.out _ _ ?_ (fun hS23 => ?_)
   · exact Far.trans hS22 (Far.refl _ _)
   clear hK K

   refine takeA 8 (v := ?_) rfl ?_ ?_
   rotate_left
   · (intro w hSw; (try dsimp only at hSw); go_simp; try with_reducible rfl)
   try simp only [Act.put, pu1, pu2, pu3]
   refine wpAnyH_done (by kernel_rfl) ?_ _

   go_wp2_with (fail)
   have HQ : Hid (opndX e sx rank strict = brkX false sx) := Lib.hid (by unfold opndX; rw [HOX.out, HL.out]; rfl)
   go_ret
   exact ⟨congrArg (fun s => Ending.returned (Value.string s)) HQ.out.symm, refBelow HF.out⟩
 have HF : Hid (FarB w.heap.size w.heap.size w w) := Lib.hid (FarB.refl _ _ _)
 go_enter Try.func64, Try.ntmps64
 have HL : Hid (lessX e rank strict = false) := Lib.hid (by unfold lessX; rw [decide_eq_false h5]; rfl)
 have e5 : (e.kind == 5) = false := by simp [h5]
 clear h5
 go_upto_region 5 with (fail)
 generalize ee : World.alloc w _ = w1
 have hsa1 := sizeA ee
 replace HF := fA HF ee
 have HBr := nB ee (w.heap.size)
 clear ee
 have rc := kc6 HBr
 have hI := i0_0 w w1
 have hZ := i01 w
 clear rc
 clear hI hZ
 have rc := kc6 HBr
 have hI := i0_0 w w1
 have hZ := i01 w
 go_upto_region 5 with (fail)
 refine wp_region_held_drew (S := fun w' => Far (fun _ => False) (w1) w') (by kernel_rfl) (Far.of (below_drew _)) (fun hS20 => ?_)
 refine takeA 0 (v := ?_) rfl ?_ ?_
 rotate_left
 · (intro w hSw; (try dsimp only at hSw); replace rc := Far.c6z rc hSw (fun e => e); go_simp; try with_reducible rfl)
 try simp only [Act.put, pu1, pu2, pu3]
 refine takeA 5 (v := ?_) rfl ?_ ?_
 rotate_left
 · (intro w hSw; (try dsimp only at hSw); replace rc := Far.c6z rc hSw (fun e => e); go_simp; try with_reducible rfl)
 try simp only [Act.put, pu1, pu2, pu3]

 refine callA 1 rfl fun K hK => ?_
 go_simp
 refine (open_any e a n c _).mono ?_
 rintro e wx21 ⟨rfl, hb⟩
 clear rc
 clear hI hZ
 have hbk := hb
 replace hb := Below.one hb
 replace HBr := kB HBr hb
 replace HF := kF HF hb
 have hs21 := hb.size
 clear hb
 generalize hox : openX e.kind = ox
 have HOX := Lib.hid hox
 clear hox
 go_simp
 refine hK.out _ _ ?_ (fun hS21 => ?_)
 · exact Far.trans hS20 (Far.of hbk)
 clear hK K

 cases ox with
 | true =>
  refine takeA 2 (v := ?_) rfl ?_ ?_
  rotate_left
  · (intro w hSw; (try dsimp only at hSw); go_simp; try with_reducible rfl)
  try simp only [Act.put, pu1, pu2, pu3]
  refine skipA 3 rfl ?_
  try simp only [Act.put, pu1, pu2, pu3]
  refine takeA 4 (v := ?_) rfl ?_ ?_
  rotate_left
  · (intro w hSw; (try dsimp only at hSw); go_simp; try with_reducible rfl)
  try simp only [Act.put, pu1, pu2, pu3]

  refine callA 6 rfl fun K hK => ?_
  go_simp
  refine (HS.out _ _ _ _ (HM.out.keep (refBelow HF.out)) HN.out HZ.out).mono ?_
  rintro e wx22 ⟨rfl, hb⟩
  have hbk := hb
  replace HBr := kB HBr hb
  replace HF := kF HF hb
  have hs22 := hb.size
  clear hb
  rw [hsx]
  go_simp
  refine hK.out _ _ ?_ (fun hS22 => ?_)
  · exact Far.trans hS21 (Far.of hbk)
  clear hK K

  refine callA 7 rfl fun K hK => ?_
  go_simp
  refine (brackets_any _ sx _ (by omega)).mono ?_
  rintro e wx23 ⟨rfl, rfl⟩
  have hbk := Below.refl wx22.heap.size wx22
  go_simp
  refine hK.out _ _ ?_ (fun hS23 => ?_)
  · exact Far.trans hS22 (Far.refl _ _)
  clear hK K

  refine takeA 8 (v := ?_) rfl ?_ ?_
  rotate_left
  · (intro w hSw; (try dsimp only at hSw); go_simp; try with_reducible rfl)
  try simp only [Act.put, pu1, pu2, pu3]
  refine wpAnyH_done (by kernel_rfl) ?_ _

  go_wp2_with (fail)
  have HQ : Hid (opndX e sx rank strict = brkX true sx) := Lib.hid (by unfold opndX; rw [HOX.out, HL.out]; rfl)
  go_ret
  exact ⟨congrArg (fun s => Ending.returned (Value.string s)) HQ.out.symm, refBelow HF.out⟩
 | false =>
  refine takeA 2 (v := ?_) rfl ?_ ?_
  rotate_left
  · (intro w hSw; (try dsimp only at hSw); go_simp; try with_reducible rfl)
  try simp only [Act.put, pu1, pu2, pu3]
  refine takeA 3 (v := ?_) rfl ?_ ?_
  rotate_left
  · (intro w hSw; (try dsimp only at hSw); go_simp; try with_reducible rfl)
  try simp only [Act.put, pu1, pu2, pu3]
  refine takeA 4 (v := ?_) rfl ?_ ?_
  rotate_left
  · (intro w hSw; (try dsimp only at hSw); go_simp; try with_reducible rfl)
  try simp only [Act.put, pu1, pu2, pu3]

  refine callA 6 rfl fun K hK => ?_
  go_simp
  refine (HS.out _ _ _ _ (HM.out.keep (refBelow HF.out)) HN.out HZ.out).mono ?_
  rintro e wx22 ⟨rfl, hb⟩
  have hbk := hb
  replace HBr := kB HBr hb
  replace HF := kF HF hb
  have hs22 := hb.size
  clear hb
  rw [hsx]
  go_simp
  refine hK.out _ _ ?_ (fun hS22 => ?_)
  · exact Far.trans hS21 (Far.of hbk)
  clear hK K

  refine callA 7 rfl fun K hK => ?_
  go_simp
  refine (brackets_any _ sx _ (by omega)).mono ?_
  rintro e wx23 ⟨rfl, rfl⟩
  have hbk := Below.refl wx22.heap.size wx22
  go_simp
  refine hK.out _ _ ?_ (fun hS23 => ?_)
  · exact Far.trans hS22 (Far.refl _ _)
  clear hK K

  refine takeA 8 (v := ?_) rfl ?_ ?_
  rotate_left
  · (intro w hSw; (try dsimp only at hSw); go_simp; try with_reducible rfl)
  try simp only [Act.put, pu1, pu2, pu3]
  refine wpAnyH_done (by kernel_rfl) ?_ _

  go_wp2_with (fail)
  have HQ : Hid (opndX e sx rank strict = brkX false sx) := Lib.hid (by unfold opndX; rw [HOX.out, HL.out]; rfl)
  go_ret
  exact ⟨congrArg (fun s => Ending.returned (Value.string s)) HQ.out.symm, refBelow HF.out⟩
end Go.Proofs.Ytcoiagfeoonpbaa

/-
 show.operator, and the closure of show.Expr. No condition but how they lie, and sizes.
-/
namespace Go.Proofs.Ytcoiagfeoonpbaa
open Go.RowKit
attribute [local go_sem] toList_beq
theorem info_strX : (Try.prog.info? 9).map (fun i => (i.zero, i.size, i.bytes)) = some (some (.string ⟨#[]⟩), 1, 16) := by kernel_rfl
theorem app_sz (a b : ByteArray) : (a ++ b).size = a.size + b.size := ByteArray.size_append
theorem binds_le (s : ByteArray) : bindsE s ≤ 10 := by unfold bindsE; repeat' split <;> try omega
set_option maxRecDepth 100000 in
set_option maxHeartbeats 20000000 in
theorem operator_any {e : Ex} {x y : Ex} (ha : e.args = [x, y]) (hsx : ShowsAt x) (hsy : ShowsAt y) (hnx : NumX x) (hny : NumX y) (hsz : (showX x).size ≤ 100000000 ∧ (showX y).size ≤ 100000000) (hz : (opX e.name x y (showX x) (showX y)).size ≤ 100000000) (a : Option Addr) (n c : Nat) (w : World) (hm : MemW w (.s 6 (Ex.rows e.args)) (.slice a n c)) (hnum : NumX e) :
  Calls Try.prog 31 #[.agg #[.int .i64 e.kind, .string e.name, .int .i64 e.n, .slice a n c, .int .i64 e.line, .int .i64 e.col]] w fun e' w' => e' = .returned (.string (opX e.name x y (showX x) (showX y))) ∧ Below w.heap.size w w' := by
 have HM := Lib.hid hm
 have HN := Lib.hid hnum
 clear hm hnum
 have HSX := Lib.hid hsx
 have HSY := Lib.hid hsy
 have HA := Lib.hid ha
 have HNX := Lib.hid (hnx : NumX x)
 have HNY := Lib.hid (hny : NumX y)
 have HSZ := Lib.hid hsz
 have hb10 := binds_le e.name
 obtain rfl : n = 2 := by have h := HM.out.len.1; rw [Ex.rows_len, ha] at h; exact h.symm
 clear hsx hsy ha hnx hny
 by_cases q1 : e.name = ⟨#[63]⟩
 ·
  have l1 : leftX e.name = true := by unfold leftX; simp [q1]
  have l2 : decide (e.name ≠ ⟨#[63]⟩) = false := by simp [q1]
  have t1 : (e.name.toList == [63]) = true := by have h := congrArg ByteArray.toList q1; simpa using h
  clear q1
  obtain ⟨X, hX⟩ : ∃ X, opndX x (showX x) (bindsE e.name) true = X := ⟨_, rfl⟩
  obtain ⟨Y, hY⟩ : ∃ Y, opndX y (showX y) (bindsE e.name) false = Y := ⟨_, rfl⟩
  have HQ : Hid (opX e.name x y (showX x) (showX y) = (((X ++ ⟨#[32]⟩) ++ e.name) ++ ⟨#[32]⟩) ++ Y) := Lib.hid (by unfold opX; rw [l1, l2, hX, hY])
  have HZ : X.size + 1 + e.name.size + 1 + Y.size ≤ 100000000 := by
   rw [HQ.out, app_sz, app_sz, app_sz, app_sz] at hz
   have q1 : (⟨#[32]⟩ : ByteArray).size = 1 := rfl
   omega
  clear hz
  clear l1 l2
  have HF : Hid (FarB w.heap.size w.heap.size w w) := Lib.hid (FarB.refl _ _ _)
  go_enter Try.func31, Try.ntmps31
  go_wp2_with (fail)
  generalize ee : World.alloc w _ = w1
  have hsa1 := sizeA ee
  replace HF := fA HF ee
  have HBr := nB ee (w.heap.size)
  clear ee
  have rc := kc6 HBr
  have hI := i0_0 w w1
  have hZ := i01 w
  refine (binds_any _ _).mono ?_
  rintro _ _ ⟨rfl, rfl⟩
  generalize hbk : bindsE e.name = bk at HQ HZ hX hY hb10
  go_upto_region 3 with (fail)
  obtain ⟨bxe, oxe, axe, nxe, cxe, hexe, hixe, hcxe, hdxe, xe0, xe1, xe2, xe3, xe4, xe5, GXxe⟩ := one_at (HM.out.keep (refBelow HF.out)) (i := 0) (x := x) (by rw [HA.out]; rfl) (k := 0) rfl
  subst hexe
  simp only [Nat.add_zero] at xe0 xe1 xe2 xe3 xe4 xe5
  obtain ⟨bye, oye, aye, nye, cye, heye, hiye, hcye, hdye, ye0, ye1, ye2, ye3, ye4, ye5, GXye⟩ := one_at (HM.out.keep (refBelow HF.out)) (i := 1) (x := y) (by rw [HA.out]; rfl) (k := 6) rfl
  cases heye
  clear rc
  clear hI hZ
  have rc := kc6 HBr
  have hI := i0_0 w w1
  have hZ := i01 w
  refine wp_region_held_drew (S := fun w' => Far (fun _ => False) (w1) w') (by kernel_rfl) (Far.of (below_drew _)) (fun hS20 => ?_)
  refine takeA 0 (v := ?_) rfl ?_ ?_
  rotate_left
  · (intro w hSw; (try dsimp only at hSw); go_simp; try with_reducible rfl)
  try simp only [Act.put, pu1, pu2, pu3]
  refine takeA 1 (v := ?_) rfl ?_ ?_
  rotate_left
  · (intro w hSw; (try dsimp only at hSw); replace rc := Far.c6z rc hSw (fun e => e); go_simp; try with_reducible rfl)
  try simp only [Act.put, pu1, pu2, pu3]
  refine takeA 2 (v := ?_) rfl ?_ ?_
  rotate_left
  · (intro w hSw; (try dsimp only at hSw); go_simp; try with_reducible rfl)
  try simp only [Act.put, pu1, pu2, pu3]
  refine takeA 3 (v := ?_) rfl ?_ ?_
  rotate_left
  · (intro w hSw; (try dsimp only at hSw); replace xe0 := Far.cellZ xe0 hSw (fun e => e); replace xe1 := Far.cellZ xe1 hSw (fun e => e); replace xe2 := Far.cellZ xe2 hSw (fun e => e); replace xe3 := Far.cellZ xe3 hSw (fun e => e); replace xe4 := Far.cellZ xe4 hSw (fun e => e); replace xe5 := Far.cellZ xe5 hSw (fun e => e); go_simp; try with_reducible rfl)
  try simp only [Act.put, pu1, pu2, pu3]
  refine takeA 4 (v := ?_) rfl ?_ ?_
  rotate_left
  · (intro w hSw; (try dsimp only at hSw); go_simp; try with_reducible rfl)
  try simp only [Act.put, pu1, pu2, pu3]
  refine takeA 5 (v := ?_) rfl ?_ ?_
  rotate_left
  · (intro w hSw; (try dsimp only at hSw); go_simp; try with_reducible rfl)
  try simp only [Act.put, pu1, pu2, pu3]
  refine takeA 8 (v := ?_) rfl ?_ ?_
  rotate_left
  · (intro w hSw; (try dsimp only at hSw); go_simp; try with_reducible rfl)
  try simp only [Act.put, pu1, pu2, pu3]
  refine takeA 9 (v := ?_) rfl ?_ ?_
  rotate_left
  · (intro w hSw; (try dsimp only at hSw); replace rc := Far.c6z rc hSw (fun e => e); go_simp; try with_reducible rfl)
  try simp only [Act.put, pu1, pu2, pu3]
  refine takeA 12 (v := ?_) rfl ?_ ?_
  rotate_left
  · (intro w hSw; (try dsimp only at hSw); go_simp; try with_reducible rfl)
  try simp only [Act.put, pu1, pu2, pu3]
  refine takeA 13 (v := ?_) rfl ?_ ?_
  rotate_left
  · (intro w hSw; (try dsimp only at hSw); replace rc := Far.c6z rc hSw (fun e => e); go_simp; try with_reducible rfl)
  try simp only [Act.put, pu1, pu2, pu3]
  refine takeA 14 (v := ?_) rfl ?_ ?_
  rotate_left
  · (intro w hSw; (try dsimp only at hSw); go_simp; try with_reducible rfl)
  try simp only [Act.put, pu1, pu2, pu3]
  refine takeA 15 (v := ?_) rfl ?_ ?_
  rotate_left
  · (intro w hSw; (try dsimp only at hSw); replace ye0 := Far.cellZ ye0 hSw (fun e => e); replace ye1 := Far.cellZ ye1 hSw (fun e => e); replace ye2 := Far.cellZ ye2 hSw (fun e => e); replace ye3 := Far.cellZ ye3 hSw (fun e => e); replace ye4 := Far.cellZ ye4 hSw (fun e => e); replace ye5 := Far.cellZ ye5 hSw (fun e => e); go_simp; try with_reducible rfl)
  try simp only [Act.put, pu1, pu2, pu3]
  refine takeA 16 (v := ?_) rfl ?_ ?_
  rotate_left
  · (intro w hSw; (try dsimp only at hSw); go_simp; try with_reducible rfl)
  try simp only [Act.put, pu1, pu2, pu3]
  refine takeA 17 (v := ?_) rfl ?_ ?_
  rotate_left
  · (intro w hSw; (try dsimp only at hSw); go_simp; try with_reducible rfl)
  try simp only [Act.put, pu1, pu2, pu3]
  refine takeA 18 (v := ?_) rfl ?_ ?_
  rotate_left
  · (intro w hSw; (try dsimp only at hSw); replace rc := Far.c6z rc hSw (fun e => e); go_simp; try with_reducible rfl)
  try simp only [Act.put, pu1, pu2, pu3]
  refine takeA 19 (v := ?_) rfl ?_ ?_
  rotate_left
  · (intro w hSw; (try dsimp only at hSw); go_simp; try with_reducible rfl)
  try simp only [Act.put, pu1, pu2, pu3]

  clear xe0 xe1 xe2 xe3 xe4 xe5 ye0 ye1 ye2 ye3 ye4 ye5
  have iz1 : ¬ (9223372036854775807 < X.size + 1) := by omega
  have iz2 : ¬ (9223372036854775807 < X.size + 1 + e.name.size) := by omega
  have iz3 : ¬ (9223372036854775807 < X.size + 1 + e.name.size + 1) := by omega
  have iz4 : ¬ (9223372036854775807 < X.size + 1 + e.name.size + 1 + Y.size) := by omega
  refine callA 6 rfl fun K hK => ?_
  go_simp
  refine (operand_any (HSX.out) (HSZ.out.1) bk true hb10 _ _ _ _ (MemW.keep (w := w1) GXxe.out (below_drew _)) HNX.out).mono ?_
  rintro e wx21 ⟨rfl, hb⟩
  clear rc
  clear hI hZ
  have hbk := hb
  replace hb := Below.one hb
  replace HBr := kB HBr hb
  replace HF := kF HF hb
  have hs21 := hb.size
  clear hb
  rw [hX]
  go_simp
  refine hK.out _ _ ?_ (fun hS21 => ?_)
  · exact Far.trans hS20 (Far.of hbk)
  clear hK K

  refine takeA 7 (v := ?_) rfl ?_ ?_
  rotate_left
  · (intro w hSw; (try dsimp only at hSw); go_simp; try with_reducible rfl)
  try simp only [Act.put, pu1, pu2, pu3]
  refine takeA 10 (v := ?_) rfl ?_ ?_
  rotate_left
  · (intro w hSw; (try dsimp only at hSw); go_simp; try with_reducible rfl)
  try simp only [Act.put, pu1, pu2, pu3]
  refine takeA 11 (v := ?_) rfl ?_ ?_
  rotate_left
  · (intro w hSw; (try dsimp only at hSw); go_simp; try with_reducible rfl)
  try simp only [Act.put, pu1, pu2, pu3]

  refine callA 20 rfl fun K hK => ?_
  go_simp
  refine (operand_any (HSY.out) (HSZ.out.2) bk false hb10 _ _ _ _ (MemW.keep (w := w1) GXye.out (Far.toB (Far.mono hS21 fun _ h => h.elim) (Nat.le_refl _))) HNY.out).mono ?_
  rintro e wx22 ⟨rfl, hb⟩
  have hbk := hb
  replace HBr := kB HBr hb
  replace HF := kF HF hb
  have hs22 := hb.size
  clear hb
  rw [hY]
  go_simp
  refine hK.out _ _ ?_ (fun hS22 => ?_)
  · exact Far.trans hS21 (Far.of hbk)
  clear hK K

  refine takeA 21 (v := ?_) rfl ?_ ?_
  rotate_left
  · (intro w hSw; (try dsimp only at hSw); go_simp; try with_reducible rfl)
  try simp only [Act.put, pu1, pu2, pu3]
  refine takeA 22 (v := ?_) rfl ?_ ?_
  rotate_left
  · (intro w hSw; (try dsimp only at hSw); go_simp; try with_reducible rfl)
  try simp only [Act.put, pu1, pu2, pu3]
  refine wpAnyH_done (by kernel_rfl) ?_ _

  go_wp2_with (fail)
  go_ret
  exact ⟨congrArg (fun s => Ending.returned (Value.string s)) HQ.out.symm, refBelow HF.out⟩
 by_cases q2 : e.name = ⟨#[61, 61]⟩
 ·
  have l1 : leftX e.name = true := by unfold leftX; simp [q2]
  have l2 : decide (e.name ≠ ⟨#[63]⟩) = true := by simp [q1]
  have t1 : (e.name.toList == [63]) = false := by have h := str_ne q1; simpa using h
  have t2 : (e.name.toList == [61, 61]) = true := by have h := congrArg ByteArray.toList q2; simpa using h
  clear q1 q2
  obtain ⟨X, hX⟩ : ∃ X, opndX x (showX x) (bindsE e.name) true = X := ⟨_, rfl⟩
  obtain ⟨Y, hY⟩ : ∃ Y, opndX y (showX y) (bindsE e.name) true = Y := ⟨_, rfl⟩
  have HQ : Hid (opX e.name x y (showX x) (showX y) = (((X ++ ⟨#[32]⟩) ++ e.name) ++ ⟨#[32]⟩) ++ Y) := Lib.hid (by unfold opX; rw [l1, l2, hX, hY])
  have HZ : X.size + 1 + e.name.size + 1 + Y.size ≤ 100000000 := by
   rw [HQ.out, app_sz, app_sz, app_sz, app_sz] at hz
   have q1 : (⟨#[32]⟩ : ByteArray).size = 1 := rfl
   omega
  clear hz
  clear l1 l2
  have HF : Hid (FarB w.heap.size w.heap.size w w) := Lib.hid (FarB.refl _ _ _)
  go_enter Try.func31, Try.ntmps31
  go_wp2_with (fail)
  generalize ee : World.alloc w _ = w1
  have hsa1 := sizeA ee
  replace HF := fA HF ee
  have HBr := nB ee (w.heap.size)
  clear ee
  have rc := kc6 HBr
  have hI := i0_0 w w1
  have hZ := i01 w
  refine (binds_any _ _).mono ?_
  rintro _ _ ⟨rfl, rfl⟩
  generalize hbk : bindsE e.name = bk at HQ HZ hX hY hb10
  go_upto_region 3 with (fail)
  obtain ⟨bxe, oxe, axe, nxe, cxe, hexe, hixe, hcxe, hdxe, xe0, xe1, xe2, xe3, xe4, xe5, GXxe⟩ := one_at (HM.out.keep (refBelow HF.out)) (i := 0) (x := x) (by rw [HA.out]; rfl) (k := 0) rfl
  subst hexe
  simp only [Nat.add_zero] at xe0 xe1 xe2 xe3 xe4 xe5
  obtain ⟨bye, oye, aye, nye, cye, heye, hiye, hcye, hdye, ye0, ye1, ye2, ye3, ye4, ye5, GXye⟩ := one_at (HM.out.keep (refBelow HF.out)) (i := 1) (x := y) (by rw [HA.out]; rfl) (k := 6) rfl
  cases heye
  clear rc
  clear hI hZ
  have rc := kc6 HBr
  have hI := i0_0 w w1
  have hZ := i01 w
  refine wp_region_held_drew (S := fun w' => Far (fun _ => False) (w1) w') (by kernel_rfl) (Far.of (below_drew _)) (fun hS20 => ?_)
  refine takeA 0 (v := ?_) rfl ?_ ?_
  rotate_left
  · (intro w hSw; (try dsimp only at hSw); go_simp; try with_reducible rfl)
  try simp only [Act.put, pu1, pu2, pu3]
  refine takeA 1 (v := ?_) rfl ?_ ?_
  rotate_left
  · (intro w hSw; (try dsimp only at hSw); replace rc := Far.c6z rc hSw (fun e => e); go_simp; try with_reducible rfl)
  try simp only [Act.put, pu1, pu2, pu3]
  refine takeA 2 (v := ?_) rfl ?_ ?_
  rotate_left
  · (intro w hSw; (try dsimp only at hSw); go_simp; try with_reducible rfl)
  try simp only [Act.put, pu1, pu2, pu3]
  refine takeA 3 (v := ?_) rfl ?_ ?_
  rotate_left
  · (intro w hSw; (try dsimp only at hSw); replace xe0 := Far.cellZ xe0 hSw (fun e => e); replace xe1 := Far.cellZ xe1 hSw (fun e => e); replace xe2 := Far.cellZ xe2 hSw (fun e => e); replace xe3 := Far.cellZ xe3 hSw (fun e => e); replace xe4 := Far.cellZ xe4 hSw (fun e => e); replace xe5 := Far.cellZ xe5 hSw (fun e => e); go_simp; try with_reducible rfl)
  try simp only [Act.put, pu1, pu2, pu3]
  refine takeA 4 (v := ?_) rfl ?_ ?_
  rotate_left
  · (intro w hSw; (try dsimp only at hSw); go_simp; try with_reducible rfl)
  try simp only [Act.put, pu1, pu2, pu3]
  refine takeA 5 (v := ?_) rfl ?_ ?_
  rotate_left
  · (intro w hSw; (try dsimp only at hSw); go_simp; try with_reducible rfl)
  try simp only [Act.put, pu1, pu2, pu3]
  refine takeA 8 (v := ?_) rfl ?_ ?_
  rotate_left
  · (intro w hSw; (try dsimp only at hSw); go_simp; try with_reducible rfl)
  try simp only [Act.put, pu1, pu2, pu3]
  refine takeA 9 (v := ?_) rfl ?_ ?_
  rotate_left
  · (intro w hSw; (try dsimp only at hSw); replace rc := Far.c6z rc hSw (fun e => e); go_simp; try with_reducible rfl)
  try simp only [Act.put, pu1, pu2, pu3]
  refine takeA 12 (v := ?_) rfl ?_ ?_
  rotate_left
  · (intro w hSw; (try dsimp only at hSw); go_simp; try with_reducible rfl)
  try simp only [Act.put, pu1, pu2, pu3]
  refine takeA 13 (v := ?_) rfl ?_ ?_
  rotate_left
  · (intro w hSw; (try dsimp only at hSw); replace rc := Far.c6z rc hSw (fun e => e); go_simp; try with_reducible rfl)
  try simp only [Act.put, pu1, pu2, pu3]
  refine takeA 14 (v := ?_) rfl ?_ ?_
  rotate_left
  · (intro w hSw; (try dsimp only at hSw); go_simp; try with_reducible rfl)
  try simp only [Act.put, pu1, pu2, pu3]
  refine takeA 15 (v := ?_) rfl ?_ ?_
  rotate_left
  · (intro w hSw; (try dsimp only at hSw); replace ye0 := Far.cellZ ye0 hSw (fun e => e); replace ye1 := Far.cellZ ye1 hSw (fun e => e); replace ye2 := Far.cellZ ye2 hSw (fun e => e); replace ye3 := Far.cellZ ye3 hSw (fun e => e); replace ye4 := Far.cellZ ye4 hSw (fun e => e); replace ye5 := Far.cellZ ye5 hSw (fun e => e); go_simp; try with_reducible rfl)
  try simp only [Act.put, pu1, pu2, pu3]
  refine takeA 16 (v := ?_) rfl ?_ ?_
  rotate_left
  · (intro w hSw; (try dsimp only at hSw); go_simp; try with_reducible rfl)
  try simp only [Act.put, pu1, pu2, pu3]
  refine takeA 17 (v := ?_) rfl ?_ ?_
  rotate_left
  · (intro w hSw; (try dsimp only at hSw); go_simp; try with_reducible rfl)
  try simp only [Act.put, pu1, pu2, pu3]
  refine takeA 18 (v := ?_) rfl ?_ ?_
  rotate_left
  · (intro w hSw; (try dsimp only at hSw); replace rc := Far.c6z rc hSw (fun e => e); go_simp; try with_reducible rfl)
  try simp only [Act.put, pu1, pu2, pu3]
  refine takeA 19 (v := ?_) rfl ?_ ?_
  rotate_left
  · (intro w hSw; (try dsimp only at hSw); go_simp; try with_reducible rfl)
  try simp only [Act.put, pu1, pu2, pu3]

  clear xe0 xe1 xe2 xe3 xe4 xe5 ye0 ye1 ye2 ye3 ye4 ye5
  have iz1 : ¬ (9223372036854775807 < X.size + 1) := by omega
  have iz2 : ¬ (9223372036854775807 < X.size + 1 + e.name.size) := by omega
  have iz3 : ¬ (9223372036854775807 < X.size + 1 + e.name.size + 1) := by omega
  have iz4 : ¬ (9223372036854775807 < X.size + 1 + e.name.size + 1 + Y.size) := by omega
  refine callA 6 rfl fun K hK => ?_
  go_simp
  refine (operand_any (HSX.out) (HSZ.out.1) bk true hb10 _ _ _ _ (MemW.keep (w := w1) GXxe.out (below_drew _)) HNX.out).mono ?_
  rintro e wx21 ⟨rfl, hb⟩
  clear rc
  clear hI hZ
  have hbk := hb
  replace hb := Below.one hb
  replace HBr := kB HBr hb
  replace HF := kF HF hb
  have hs21 := hb.size
  clear hb
  rw [hX]
  go_simp
  refine hK.out _ _ ?_ (fun hS21 => ?_)
  · exact Far.trans hS20 (Far.of hbk)
  clear hK K

  refine takeA 7 (v := ?_) rfl ?_ ?_
  rotate_left
  · (intro w hSw; (try dsimp only at hSw); go_simp; try with_reducible rfl)
  try simp only [Act.put, pu1, pu2, pu3]
  refine takeA 10 (v := ?_) rfl ?_ ?_
  rotate_left
  · (intro w hSw; (try dsimp only at hSw); go_simp; try with_reducible rfl)
  try simp only [Act.put, pu1, pu2, pu3]
  refine takeA 11 (v := ?_) rfl ?_ ?_
  rotate_left
  · (intro w hSw; (try dsimp only at hSw); go_simp; try with_reducible rfl)
  try simp only [Act.put, pu1, pu2, pu3]

  refine callA 20 rfl fun K hK => ?_
  go_simp
  refine (operand_any (HSY.out) (HSZ.out.2) bk true hb10 _ _ _ _ (MemW.keep (w := w1) GXye.out (Far.toB (Far.mono hS21 fun _ h => h.elim) (Nat.le_refl _))) HNY.out).mono ?_
  rintro e wx22 ⟨rfl, hb⟩
  have hbk := hb
  replace HBr := kB HBr hb
  replace HF := kF HF hb
  have hs22 := hb.size
  clear hb
  rw [hY]
  go_simp
  refine hK.out _ _ ?_ (fun hS22 => ?_)
  · exact Far.trans hS21 (Far.of hbk)
  clear hK K

  refine takeA 21 (v := ?_) rfl ?_ ?_
  rotate_left
  · (intro w hSw; (try dsimp only at hSw); go_simp; try with_reducible rfl)
  try simp only [Act.put, pu1, pu2, pu3]
  refine takeA 22 (v := ?_) rfl ?_ ?_
  rotate_left
  · (intro w hSw; (try dsimp only at hSw); go_simp; try with_reducible rfl)
  try simp only [Act.put, pu1, pu2, pu3]
  refine wpAnyH_done (by kernel_rfl) ?_ _

  go_wp2_with (fail)
  go_ret
  exact ⟨congrArg (fun s => Ending.returned (Value.string s)) HQ.out.symm, refBelow HF.out⟩
 by_cases q3 : e.name = ⟨#[60]⟩
 ·
  have l1 : leftX e.name = true := by unfold leftX; simp [q3]
  have l2 : decide (e.name ≠ ⟨#[63]⟩) = true := by simp [q1]
  have t1 : (e.name.toList == [63]) = false := by have h := str_ne q1; simpa using h
  have t2 : (e.name.toList == [61, 61]) = false := by have h := str_ne q2; simpa using h
  have t3 : (e.name.toList == [60]) = true := by have h := congrArg ByteArray.toList q3; simpa using h
  clear q1 q2 q3
  obtain ⟨X, hX⟩ : ∃ X, opndX x (showX x) (bindsE e.name) true = X := ⟨_, rfl⟩
  obtain ⟨Y, hY⟩ : ∃ Y, opndX y (showX y) (bindsE e.name) true = Y := ⟨_, rfl⟩
  have HQ : Hid (opX e.name x y (showX x) (showX y) = (((X ++ ⟨#[32]⟩) ++ e.name) ++ ⟨#[32]⟩) ++ Y) := Lib.hid (by unfold opX; rw [l1, l2, hX, hY])
  have HZ : X.size + 1 + e.name.size + 1 + Y.size ≤ 100000000 := by
   rw [HQ.out, app_sz, app_sz, app_sz, app_sz] at hz
   have q1 : (⟨#[32]⟩ : ByteArray).size = 1 := rfl
   omega
  clear hz
  clear l1 l2
  have HF : Hid (FarB w.heap.size w.heap.size w w) := Lib.hid (FarB.refl _ _ _)
  go_enter Try.func31, Try.ntmps31
  go_wp2_with (fail)
  generalize ee : World.alloc w _ = w1
  have hsa1 := sizeA ee
  replace HF := fA HF ee
  have HBr := nB ee (w.heap.size)
  clear ee
  have rc := kc6 HBr
  have hI := i0_0 w w1
  have hZ := i01 w
  refine (binds_any _ _).mono ?_
  rintro _ _ ⟨rfl, rfl⟩
  generalize hbk : bindsE e.name = bk at HQ HZ hX hY hb10
  go_upto_region 3 with (fail)
  obtain ⟨bxe, oxe, axe, nxe, cxe, hexe, hixe, hcxe, hdxe, xe0, xe1, xe2, xe3, xe4, xe5, GXxe⟩ := one_at (HM.out.keep (refBelow HF.out)) (i := 0) (x := x) (by rw [HA.out]; rfl) (k := 0) rfl
  subst hexe
  simp only [Nat.add_zero] at xe0 xe1 xe2 xe3 xe4 xe5
  obtain ⟨bye, oye, aye, nye, cye, heye, hiye, hcye, hdye, ye0, ye1, ye2, ye3, ye4, ye5, GXye⟩ := one_at (HM.out.keep (refBelow HF.out)) (i := 1) (x := y) (by rw [HA.out]; rfl) (k := 6) rfl
  cases heye
  clear rc
  clear hI hZ
  have rc := kc6 HBr
  have hI := i0_0 w w1
  have hZ := i01 w
  refine wp_region_held_drew (S := fun w' => Far (fun _ => False) (w1) w') (by kernel_rfl) (Far.of (below_drew _)) (fun hS20 => ?_)
  refine takeA 0 (v := ?_) rfl ?_ ?_
  rotate_left
  · (intro w hSw; (try dsimp only at hSw); go_simp; try with_reducible rfl)
  try simp only [Act.put, pu1, pu2, pu3]
  refine takeA 1 (v := ?_) rfl ?_ ?_
  rotate_left
  · (intro w hSw; (try dsimp only at hSw); replace rc := Far.c6z rc hSw (fun e => e); go_simp; try with_reducible rfl)
  try simp only [Act.put, pu1, pu2, pu3]
  refine takeA 2 (v := ?_) rfl ?_ ?_
  rotate_left
  · (intro w hSw; (try dsimp only at hSw); go_simp; try with_reducible rfl)
  try simp only [Act.put, pu1, pu2, pu3]
  refine takeA 3 (v := ?_) rfl ?_ ?_
  rotate_left
  · (intro w hSw; (try dsimp only at hSw); replace xe0 := Far.cellZ xe0 hSw (fun e => e); replace xe1 := Far.cellZ xe1 hSw (fun e => e); replace xe2 := Far.cellZ xe2 hSw (fun e => e); replace xe3 := Far.cellZ xe3 hSw (fun e => e); replace xe4 := Far.cellZ xe4 hSw (fun e => e); replace xe5 := Far.cellZ xe5 hSw (fun e => e); go_simp; try with_reducible rfl)
  try simp only [Act.put, pu1, pu2, pu3]
  refine takeA 4 (v := ?_) rfl ?_ ?_
  rotate_left
  · (intro w hSw; (try dsimp only at hSw); go_simp; try with_reducible rfl)
  try simp only [Act.put, pu1, pu2, pu3]
  refine takeA 5 (v := ?_) rfl ?_ ?_
  rotate_left
  · (intro w hSw; (try dsimp only at hSw); go_simp; try with_reducible rfl)
  try simp only [Act.put, pu1, pu2, pu3]
  refine takeA 8 (v := ?_) rfl ?_ ?_
  rotate_left
  · (intro w hSw; (try dsimp only at hSw); go_simp; try with_reducible rfl)
  try simp only [Act.put, pu1, pu2, pu3]
  refine takeA 9 (v := ?_) rfl ?_ ?_
  rotate_left
  · (intro w hSw; (try dsimp only at hSw); replace rc := Far.c6z rc hSw (fun e => e); go_simp; try with_reducible rfl)
  try simp only [Act.put, pu1, pu2, pu3]
  refine takeA 12 (v := ?_) rfl ?_ ?_
  rotate_left
  · (intro w hSw; (try dsimp only at hSw); go_simp; try with_reducible rfl)
  try simp only [Act.put, pu1, pu2, pu3]
  refine takeA 13 (v := ?_) rfl ?_ ?_
  rotate_left
  · (intro w hSw; (try dsimp only at hSw); replace rc := Far.c6z rc hSw (fun e => e); go_simp; try with_reducible rfl)
  try simp only [Act.put, pu1, pu2, pu3]
  refine takeA 14 (v := ?_) rfl ?_ ?_
  rotate_left
  · (intro w hSw; (try dsimp only at hSw); go_simp; try with_reducible rfl)
  try simp only [Act.put, pu1, pu2, pu3]
  refine takeA 15 (v := ?_) rfl ?_ ?_
  rotate_left
  · (intro w hSw; (try dsimp only at hSw); replace ye0 := Far.cellZ ye0 hSw (fun e => e); replace ye1 := Far.cellZ ye1 hSw (fun e => e); replace ye2 := Far.cellZ ye2 hSw (fun e => e); replace ye3 := Far.cellZ ye3 hSw (fun e => e); replace ye4 := Far.cellZ ye4 hSw (fun e => e); replace ye5 := Far.cellZ ye5 hSw (fun e => e); go_simp; try with_reducible rfl)
  try simp only [Act.put, pu1, pu2, pu3]
  refine takeA 16 (v := ?_) rfl ?_ ?_
  rotate_left
  · (intro w hSw; (try dsimp only at hSw); go_simp; try with_reducible rfl)
  try simp only [Act.put, pu1, pu2, pu3]
  refine takeA 17 (v := ?_) rfl ?_ ?_
  rotate_left
  · (intro w hSw; (try dsimp only at hSw); go_simp; try with_reducible rfl)
  try simp only [Act.put, pu1, pu2, pu3]
  refine takeA 18 (v := ?_) rfl ?_ ?_
  rotate_left
  · (intro w hSw; (try dsimp only at hSw); replace rc := Far.c6z rc hSw (fun e => e); go_simp; try with_reducible rfl)
  try simp only [Act.put, pu1, pu2, pu3]
  refine takeA 19 (v := ?_) rfl ?_ ?_
  rotate_left
  · (intro w hSw; (try dsimp only at hSw); go_simp; try with_reducible rfl)
  try simp only [Act.put, pu1, pu2, pu3]

  clear xe0 xe1 xe2 xe3 xe4 xe5 ye0 ye1 ye2 ye3 ye4 ye5
  have iz1 : ¬ (9223372036854775807 < X.size + 1) := by omega
  have iz2 : ¬ (9223372036854775807 < X.size + 1 + e.name.size) := by omega
  have iz3 : ¬ (9223372036854775807 < X.size + 1 + e.name.size + 1) := by omega
  have iz4 : ¬ (9223372036854775807 < X.size + 1 + e.name.size + 1 + Y.size) := by omega
  refine callA 6 rfl fun K hK => ?_
  go_simp
  refine (operand_any (HSX.out) (HSZ.out.1) bk true hb10 _ _ _ _ (MemW.keep (w := w1) GXxe.out (below_drew _)) HNX.out).mono ?_
  rintro e wx21 ⟨rfl, hb⟩
  clear rc
  clear hI hZ
  have hbk := hb
  replace hb := Below.one hb
  replace HBr := kB HBr hb
  replace HF := kF HF hb
  have hs21 := hb.size
  clear hb
  rw [hX]
  go_simp
  refine hK.out _ _ ?_ (fun hS21 => ?_)
  · exact Far.trans hS20 (Far.of hbk)
  clear hK K

  refine takeA 7 (v := ?_) rfl ?_ ?_
  rotate_left
  · (intro w hSw; (try dsimp only at hSw); go_simp; try with_reducible rfl)
  try simp only [Act.put, pu1, pu2, pu3]
  refine takeA 10 (v := ?_) rfl ?_ ?_
  rotate_left
  · (intro w hSw; (try dsimp only at hSw); go_simp; try with_reducible rfl)
  try simp only [Act.put, pu1, pu2, pu3]
  refine takeA 11 (v := ?_) rfl ?_ ?_
  rotate_left
  · (intro w hSw; (try dsimp only at hSw); go_simp; try with_reducible rfl)
  try simp only [Act.put, pu1, pu2, pu3]

  refine callA 20 rfl fun K hK => ?_
  go_simp
  refine (operand_any (HSY.out) (HSZ.out.2) bk true hb10 _ _ _ _ (MemW.keep (w := w1) GXye.out (Far.toB (Far.mono hS21 fun _ h => h.elim) (Nat.le_refl _))) HNY.out).mono ?_
  rintro e wx22 ⟨rfl, hb⟩
  have hbk := hb
  replace HBr := kB HBr hb
  replace HF := kF HF hb
  have hs22 := hb.size
  clear hb
  rw [hY]
  go_simp
  refine hK.out _ _ ?_ (fun hS22 => ?_)
  · exact Far.trans hS21 (Far.of hbk)
  clear hK K

  refine takeA 21 (v := ?_) rfl ?_ ?_
  rotate_left
  · (intro w hSw; (try dsimp only at hSw); go_simp; try with_reducible rfl)
  try simp only [Act.put, pu1, pu2, pu3]
  refine takeA 22 (v := ?_) rfl ?_ ?_
  rotate_left
  · (intro w hSw; (try dsimp only at hSw); go_simp; try with_reducible rfl)
  try simp only [Act.put, pu1, pu2, pu3]
  refine wpAnyH_done (by kernel_rfl) ?_ _

  go_wp2_with (fail)
  go_ret
  exact ⟨congrArg (fun s => Ending.returned (Value.string s)) HQ.out.symm, refBelow HF.out⟩
 have l1 : leftX e.name = false := by unfold leftX; simp [q1, q2, q3]
 have l2 : decide (e.name ≠ ⟨#[63]⟩) = true := by simp [q1]
 have t1 : (e.name.toList == [63]) = false := by have h := str_ne q1; simpa using h
 have t2 : (e.name.toList == [61, 61]) = false := by have h := str_ne q2; simpa using h
 have t3 : (e.name.toList == [60]) = false := by have h := str_ne q3; simpa using h
 clear q1 q2 q3
 obtain ⟨X, hX⟩ : ∃ X, opndX x (showX x) (bindsE e.name) false = X := ⟨_, rfl⟩
 obtain ⟨Y, hY⟩ : ∃ Y, opndX y (showX y) (bindsE e.name) true = Y := ⟨_, rfl⟩
 have HQ : Hid (opX e.name x y (showX x) (showX y) = (((X ++ ⟨#[32]⟩) ++ e.name) ++ ⟨#[32]⟩) ++ Y) := Lib.hid (by unfold opX; rw [l1, l2, hX, hY])
 have HZ : X.size + 1 + e.name.size + 1 + Y.size ≤ 100000000 := by
  rw [HQ.out, app_sz, app_sz, app_sz, app_sz] at hz
  have q1 : (⟨#[32]⟩ : ByteArray).size = 1 := rfl
  omega
 clear hz
 clear l1 l2
 have HF : Hid (FarB w.heap.size w.heap.size w w) := Lib.hid (FarB.refl _ _ _)
 go_enter Try.func31, Try.ntmps31
 go_wp2_with (fail)
 generalize ee : World.alloc w _ = w1
 have hsa1 := sizeA ee
 replace HF := fA HF ee
 have HBr := nB ee (w.heap.size)
 clear ee
 have rc := kc6 HBr
 have hI := i0_0 w w1
 have hZ := i01 w
 refine (binds_any _ _).mono ?_
 rintro _ _ ⟨rfl, rfl⟩
 generalize hbk : bindsE e.name = bk at HQ HZ hX hY hb10
 go_upto_region 3 with (fail)
 obtain ⟨bxe, oxe, axe, nxe, cxe, hexe, hixe, hcxe, hdxe, xe0, xe1, xe2, xe3, xe4, xe5, GXxe⟩ := one_at (HM.out.keep (refBelow HF.out)) (i := 0) (x := x) (by rw [HA.out]; rfl) (k := 0) rfl
 subst hexe
 simp only [Nat.add_zero] at xe0 xe1 xe2 xe3 xe4 xe5
 obtain ⟨bye, oye, aye, nye, cye, heye, hiye, hcye, hdye, ye0, ye1, ye2, ye3, ye4, ye5, GXye⟩ := one_at (HM.out.keep (refBelow HF.out)) (i := 1) (x := y) (by rw [HA.out]; rfl) (k := 6) rfl
 cases heye
 clear rc
 clear hI hZ
 have rc := kc6 HBr
 have hI := i0_0 w w1
 have hZ := i01 w
 refine wp_region_held_drew (S := fun w' => Far (fun _ => False) (w1) w') (by kernel_rfl) (Far.of (below_drew _)) (fun hS20 => ?_)
 refine takeA 0 (v := ?_) rfl ?_ ?_
 rotate_left
 · (intro w hSw; (try dsimp only at hSw); go_simp; try with_reducible rfl)
 try simp only [Act.put, pu1, pu2, pu3]
 refine takeA 1 (v := ?_) rfl ?_ ?_
 rotate_left
 · (intro w hSw; (try dsimp only at hSw); replace rc := Far.c6z rc hSw (fun e => e); go_simp; try with_reducible rfl)
 try simp only [Act.put, pu1, pu2, pu3]
 refine takeA 2 (v := ?_) rfl ?_ ?_
 rotate_left
 · (intro w hSw; (try dsimp only at hSw); go_simp; try with_reducible rfl)
 try simp only [Act.put, pu1, pu2, pu3]
 refine takeA 3 (v := ?_) rfl ?_ ?_
 rotate_left
 · (intro w hSw; (try dsimp only at hSw); replace xe0 := Far.cellZ xe0 hSw (fun e => e); replace xe1 := Far.cellZ xe1 hSw (fun e => e); replace xe2 := Far.cellZ xe2 hSw (fun e => e); replace xe3 := Far.cellZ xe3 hSw (fun e => e); replace xe4 := Far.cellZ xe4 hSw (fun e => e); replace xe5 := Far.cellZ xe5 hSw (fun e => e); go_simp; try with_reducible rfl)
 try simp only [Act.put, pu1, pu2, pu3]
 refine takeA 4 (v := ?_) rfl ?_ ?_
 rotate_left
 · (intro w hSw; (try dsimp only at hSw); go_simp; try with_reducible rfl)
 try simp only [Act.put, pu1, pu2, pu3]
 refine takeA 5 (v := ?_) rfl ?_ ?_
 rotate_left
 · (intro w hSw; (try dsimp only at hSw); go_simp; try with_reducible rfl)
 try simp only [Act.put, pu1, pu2, pu3]
 refine takeA 8 (v := ?_) rfl ?_ ?_
 rotate_left
 · (intro w hSw; (try dsimp only at hSw); go_simp; try with_reducible rfl)
 try simp only [Act.put, pu1, pu2, pu3]
 refine takeA 9 (v := ?_) rfl ?_ ?_
 rotate_left
 · (intro w hSw; (try dsimp only at hSw); replace rc := Far.c6z rc hSw (fun e => e); go_simp; try with_reducible rfl)
 try simp only [Act.put, pu1, pu2, pu3]
 refine takeA 12 (v := ?_) rfl ?_ ?_
 rotate_left
 · (intro w hSw; (try dsimp only at hSw); go_simp; try with_reducible rfl)
 try simp only [Act.put, pu1, pu2, pu3]
 refine takeA 13 (v := ?_) rfl ?_ ?_
 rotate_left
 · (intro w hSw; (try dsimp only at hSw); replace rc := Far.c6z rc hSw (fun e => e); go_simp; try with_reducible rfl)
 try simp only [Act.put, pu1, pu2, pu3]
 refine takeA 14 (v := ?_) rfl ?_ ?_
 rotate_left
 · (intro w hSw; (try dsimp only at hSw); go_simp; try with_reducible rfl)
 try simp only [Act.put, pu1, pu2, pu3]
 refine takeA 15 (v := ?_) rfl ?_ ?_
 rotate_left
 · (intro w hSw; (try dsimp only at hSw); replace ye0 := Far.cellZ ye0 hSw (fun e => e); replace ye1 := Far.cellZ ye1 hSw (fun e => e); replace ye2 := Far.cellZ ye2 hSw (fun e => e); replace ye3 := Far.cellZ ye3 hSw (fun e => e); replace ye4 := Far.cellZ ye4 hSw (fun e => e); replace ye5 := Far.cellZ ye5 hSw (fun e => e); go_simp; try with_reducible rfl)
 try simp only [Act.put, pu1, pu2, pu3]
 refine takeA 16 (v := ?_) rfl ?_ ?_
 rotate_left
 · (intro w hSw; (try dsimp only at hSw); go_simp; try with_reducible rfl)
 try simp only [Act.put, pu1, pu2, pu3]
 refine takeA 17 (v := ?_) rfl ?_ ?_
 rotate_left
 · (intro w hSw; (try dsimp only at hSw); go_simp; try with_reducible rfl)
 try simp only [Act.put, pu1, pu2, pu3]
 refine takeA 18 (v := ?_) rfl ?_ ?_
 rotate_left
 · (intro w hSw; (try dsimp only at hSw); replace rc := Far.c6z rc hSw (fun e => e); go_simp; try with_reducible rfl)
 try simp only [Act.put, pu1, pu2, pu3]
 refine takeA 19 (v := ?_) rfl ?_ ?_
 rotate_left
 · (intro w hSw; (try dsimp only at hSw); go_simp; try with_reducible rfl)
 try simp only [Act.put, pu1, pu2, pu3]

 clear xe0 xe1 xe2 xe3 xe4 xe5 ye0 ye1 ye2 ye3 ye4 ye5
 have iz1 : ¬ (9223372036854775807 < X.size + 1) := by omega
 have iz2 : ¬ (9223372036854775807 < X.size + 1 + e.name.size) := by omega
 have iz3 : ¬ (9223372036854775807 < X.size + 1 + e.name.size + 1) := by omega
 have iz4 : ¬ (9223372036854775807 < X.size + 1 + e.name.size + 1 + Y.size) := by omega
 refine callA 6 rfl fun K hK => ?_
 go_simp
 refine (operand_any (HSX.out) (HSZ.out.1) bk false hb10 _ _ _ _ (MemW.keep (w := w1) GXxe.out (below_drew _)) HNX.out).mono ?_
 rintro e wx21 ⟨rfl, hb⟩
 clear rc
 clear hI hZ
 have hbk := hb
 replace hb := Below.one hb
 replace HBr := kB HBr hb
 replace HF := kF HF hb
 have hs21 := hb.size
 clear hb
 rw [hX]
 go_simp
 refine hK.out _ _ ?_ (fun hS21 => ?_)
 · exact Far.trans hS20 (Far.of hbk)
 clear hK K

 refine takeA 7 (v := ?_) rfl ?_ ?_
 rotate_left
 · (intro w hSw; (try dsimp only at hSw); go_simp; try with_reducible rfl)
 try simp only [Act.put, pu1, pu2, pu3]
 refine takeA 10 (v := ?_) rfl ?_ ?_
 rotate_left
 · (intro w hSw; (try dsimp only at hSw); go_simp; try with_reducible rfl)
 try simp only [Act.put, pu1, pu2, pu3]
 refine takeA 11 (v := ?_) rfl ?_ ?_
 rotate_left
 · (intro w hSw; (try dsimp only at hSw); go_simp; try with_reducible rfl)
 try simp only [Act.put, pu1, pu2, pu3]

 refine callA 20 rfl fun K hK => ?_
 go_simp
 refine (operand_any (HSY.out) (HSZ.out.2) bk true hb10 _ _ _ _ (MemW.keep (w := w1) GXye.out (Far.toB (Far.mono hS21 fun _ h => h.elim) (Nat.le_refl _))) HNY.out).mono ?_
 rintro e wx22 ⟨rfl, hb⟩
 have hbk := hb
 replace HBr := kB HBr hb
 replace HF := kF HF hb
 have hs22 := hb.size
 clear hb
 rw [hY]
 go_simp
 refine hK.out _ _ ?_ (fun hS22 => ?_)
 · exact Far.trans hS21 (Far.of hbk)
 clear hK K

 refine takeA 21 (v := ?_) rfl ?_ ?_
 rotate_left
 · (intro w hSw; (try dsimp only at hSw); go_simp; try with_reducible rfl)
 try simp only [Act.put, pu1, pu2, pu3]
 refine takeA 22 (v := ?_) rfl ?_ ?_
 rotate_left
 · (intro w hSw; (try dsimp only at hSw); go_simp; try with_reducible rfl)
 try simp only [Act.put, pu1, pu2, pu3]
 refine wpAnyH_done (by kernel_rfl) ?_ _

 go_wp2_with (fail)
 go_ret
 exact ⟨congrArg (fun s => Ending.returned (Value.string s)) HQ.out.symm, refBelow HF.out⟩
set_option maxRecDepth 100000 in
set_option maxHeartbeats 20000000 in
theorem add_any {e : Ex} {L : List ByteArray} {lb base : Nat} {al : Option Addr} {ml cl : Nat} (hs : ShowsAt e) (hz : (showX e).size ≤ 100000000) (a : Option Addr) (n c : Nat) (w : World) (hm : MemW w (.s 6 (Ex.rows e.args)) (.slice a n c)) (hnum : NumX e)
  (hBl : Bo w lb 60 #[.slice al ml cl]) (hOl : OwnD 0 base 9 1 w (.slice al ml cl) (L.map strRow)) (hlb : lb < base) (hbw : base ≤ w.heap.size) (hL : L.length ≤ 100000000) :
  Calls Try.prog 26 #[.agg #[.int .i64 e.kind, .string e.name, .int .i64 e.n, .slice a n c, .int .i64 e.line, .int .i64 e.col], .pointer (some ⟨lb, 0, none⟩)] w fun e' w' => e' = .returned (.tuple #[]) ∧ ∃ a' m' c', Far (fun b => b = lb ∨ (Value.slice al ml cl).ownBlock = some b) w w' ∧ Bo w' lb 60 #[.slice a' m' c'] ∧ OwnD 0 base 9 1 w' (.slice a' m' c') ((L ++ [atomX e (showX e)]).map strRow) := by
 have HM := Lib.hid hm
 have HN := Lib.hid hnum
 have HS := Lib.hid hs
 have HZ := Lib.hid hz
 have hBl := Lib.hid hBl
 have hOl := Lib.hid hOl
 clear hm hnum hs hz
 obtain ⟨sx, hsx⟩ : ∃ s, atomX e (showX e) = s := ⟨_, rfl⟩
 rw [hsx]
 have HF : Hid (FarB w.heap.size w.heap.size w w) := Lib.hid (FarB.refl _ _ _)
 go_enter Try.func26, Try.ntmps26
 go_wp2_with (fail)
 have HBl : Hid (Bo w lb 60 #[.slice al ml cl]) := hBl
 have HOl : Hid (OwnD 0 base 9 1 w (.slice al ml cl) (L.map strRow)) := hOl
 clear hBl hOl
 have hlw := HBl.out.lt
 have hown : ∀ k, (Value.slice al ml cl).ownBlock = some k → base ≤ k ∧ k < w.heap.size := HOl.out.lt
 generalize ee : World.alloc w _ = w1
 have hsa1 := sizeA ee
 replace HF := fA HF ee
 replace HBl := bA HBl ee
 replace HOl := oA HOl ee
 have HBr := nB ee (w.heap.size)
 clear ee
 have lc := kc1 HBl; have rc := kc6 HBr
 have hI := iq_0_0 lb w w1
 have hZ := iq_01 lb w
 have HB0 := Lib.hid (Far.of (S := fun b => b = lb ∨ (Value.slice al ml cl).ownBlock = some b) (refBelow HF.out))
 refine wp_region_held_drew (S := fun w' => Far (fun b => b = lb ∨ (Value.slice al ml cl).ownBlock = some b) (w1) w') (by kernel_rfl) (Far.of (below_drew _)) (fun hS20 => ?_)
 refine takeA 1 (v := ?_) rfl ?_ ?_
 rotate_left
 · (intro w hSw; (try dsimp only at hSw); replace rc := Far.c6z rc hSw (by intro e; rcases e with e | e; (· omega); (· have := (hown _ e).2; omega)); go_simp; try with_reducible rfl)
 try simp only [Act.put, pu1, pu2, pu3]

 clear lc rc
 clear hI hZ
 have HSf : Hid (Far (fun b => b = lb ∨ (Value.slice al ml cl).ownBlock = some b) w1 (World.drew w1)) := Lib.hid (Far.of (below_drew _))
 have HMv : Hid (MemW (World.drew w1) (.s 6 (Ex.rows e.args)) (.slice a n c)) := Lib.hid (((HM.out.keep (refBelow HF.out))).keep (below_drew _))
 replace HBl := Lib.hid (HBl.out.keep (below_drew w1))
 replace HOl := Lib.hid (HOl.out.keep (below_drew w1))
 have hv0 : w1.heap.size ≤ (World.drew w1).heap.size := Nat.le_refl _
 generalize World.drew w1 = v0 at HSf HMv HBl HOl hv0 ⊢
 clear HBr
 refine twoL 0 2 rfl rfl (by kernel_rfl) (by rfl) (by rfl) (fun K hK => ?_) (fun K hK => ?_)
 focus
  have lc := kc1 HBl
  go_simp
  refine hK.out _ _ HSf.out (fun _ => ?_)
  clear hK K lc
  refine callA 2 rfl fun K hK => ?_
  go_simp
  refine (atom_any HS.out HZ.out _ _ _ _ HMv.out HN.out).mono ?_
  rintro e' v1 ⟨rfl, hb⟩
  rw [hsx]
  replace HBl := kB HBl hb
  replace HOl := kO HOl hb
  replace HSf := Lib.hid (Far.trans HSf.out (Far.of hb))
  have hv1 := hb.size
  clear hb HMv
  go_simp
  refine hK.out _ _ HSf.out (fun _ => ?_)
  clear hK K
  refine callA 3 rfl fun K hK => ?_
  go_simp
  refine hK.out _ _ (Far.trans HSf.out (Far.of (below_new _ _))) (fun _ => ?_)
  clear hK K
  have HNEW := Lib.hid (row_app (t := 9) (sz := 1) (r := strRow sx) (cs := #[.string sx]) HOl.out (by omega) (Nat.le_refl _) (.cons (.v _ rfl) .nil) rfl)
  replace HSf := Lib.hid (Far.trans HSf.out (Far.of (below_new v1 (.cells #[.string sx] 9))))
  replace HBl := Lib.hid (HBl.out.alloc (.cells #[.string sx] 9))
  replace HOl := Lib.hid (HOl.out.alloc (.cells #[.string sx] 9))
  have hv2 : (World.alloc v1 (.cells #[.string sx] 9)).heap.size = v1.heap.size + 1 := World.size_alloc _ _
  generalize World.alloc v1 (.cells #[.string sx] 9) = v2 at HNEW HSf HBl HOl hv2 ⊢
 rotate_left 1
 focus
  go_simp
  refine (atom_any HS.out HZ.out _ _ _ _ HMv.out HN.out).mono ?_
  rintro e' v1 ⟨rfl, hb⟩
  rw [hsx]
  replace HBl := kB HBl hb
  replace HOl := kO HOl hb
  replace HSf := Lib.hid (Far.trans HSf.out (Far.of hb))
  have hv1 := hb.size
  clear hb HMv
  go_simp
  refine hK.out _ _ HSf.out (fun _ => ?_)
  clear hK K
  refine twoL 0 3 rfl rfl (by kernel_rfl) (by rfl) (by rfl) (fun K hK => ?_) (fun K hK => ?_)
  focus
   have lc := kc1 HBl
   go_simp
   refine hK.out _ _ HSf.out (fun _ => ?_)
   clear hK K lc
   refine callA 3 rfl fun K hK => ?_
   go_simp
   refine hK.out _ _ (Far.trans HSf.out (Far.of (below_new _ _))) (fun _ => ?_)
   clear hK K
   have HNEW := Lib.hid (row_app (t := 9) (sz := 1) (r := strRow sx) (cs := #[.string sx]) HOl.out (by omega) (Nat.le_refl _) (.cons (.v _ rfl) .nil) rfl)
   replace HSf := Lib.hid (Far.trans HSf.out (Far.of (below_new v1 (.cells #[.string sx] 9))))
   replace HBl := Lib.hid (HBl.out.alloc (.cells #[.string sx] 9))
   replace HOl := Lib.hid (HOl.out.alloc (.cells #[.string sx] 9))
   have hv2 : (World.alloc v1 (.cells #[.string sx] 9)).heap.size = v1.heap.size + 1 := World.size_alloc _ _
   generalize World.alloc v1 (.cells #[.string sx] 9) = v2 at HNEW HSf HBl HOl hv2 ⊢
  rotate_left 1
  focus
   go_simp
   refine hK.out _ _ (Far.trans HSf.out (Far.of (below_new _ _))) (fun _ => ?_)
   clear hK K
   have HNEW := Lib.hid (row_app (t := 9) (sz := 1) (r := strRow sx) (cs := #[.string sx]) HOl.out (by omega) (Nat.le_refl _) (.cons (.v _ rfl) .nil) rfl)
   replace HSf := Lib.hid (Far.trans HSf.out (Far.of (below_new v1 (.cells #[.string sx] 9))))
   replace HBl := Lib.hid (HBl.out.alloc (.cells #[.string sx] 9))
   replace HOl := Lib.hid (HOl.out.alloc (.cells #[.string sx] 9))
   have hv2 : (World.alloc v1 (.cells #[.string sx] 9)).heap.size = v1.heap.size + 1 := World.size_alloc _ _
   generalize World.alloc v1 (.cells #[.string sx] 9) = v2 at HNEW HSf HBl HOl hv2 ⊢
   refine callA 0 rfl fun K hK => ?_
   have lc := kc1 HBl
   go_simp
   refine hK.out _ _ HSf.out (fun _ => ?_)
   clear hK K lc

 all_goals (
  have hw2 : w.heap.size ≤ v2.heap.size := by omega
  refine callA 4 rfl fun K hK => ?_
  refine wp_append_D2 _ _ (by rfl) Try.underlying60 info_strX rfl (by decide) (by rfl) (by rfl) HOl.out HNEW.out (by simp only [List.length_map, List.length_cons, List.length_nil]; omega) (by simp only [List.length_map, List.length_cons, List.length_nil]; omega) (by omega) (fun v9 w9 ho hg => ?_)
  obtain ⟨a9, m9, c9, rfl⟩ := mem_slice ho.mem
  have hown2 : ∀ k, (Value.slice al ml cl).ownBlock = some k → base ≤ k := fun k hk => (HOl.out.lt k hk).1
  replace HSf := Lib.hid (Far.trans HSf.out ((grownFar hg).mono (fun b e => .inr e)))
  refine hK.out _ _ HSf.out (fun _ => ?_)
  clear hK K
  replace HBl := Lib.hid (HBl.out.grown hg fun k hk => by have := hown2 k hk; omega)
  have HO9 : Hid (OwnD 0 base 9 1 w9 (.slice a9 m9 c9) ((L ++ [sx]).map strRow)) := Lib.hid (by rw [List.map_append]; exact ho)
  clear ho hg HOl HNEW
  have lc := kc1 HBl
  refine callA 5 rfl fun K hK => ?_
  go_simp
  replace HSf := Lib.hid (Far.setCell HSf.out (p := ⟨lb, 0, none⟩) (.inl rfl) (.slice a9 m9 c9))
  refine hK.out _ _ HSf.out (fun _ => ?_)
  clear hK K
  refine wpAnyH_done (by kernel_rfl) ?_ _
  go_wp2_with (fail)
  go_end0
  refine ⟨rfl, a9, m9, c9, Far.trans HB0.out HSf.out, HBl.out.set 0 _, HO9.out.setB (by omega) 0 _⟩)
end Go.Proofs.Ytcoiagfeoonpbaa
