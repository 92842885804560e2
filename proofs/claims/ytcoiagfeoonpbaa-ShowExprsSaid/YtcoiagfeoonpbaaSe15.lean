/-
 The parser's let: what is behind a 'let'. Under what the other reading functions do with less fuel.
-/
import Derived.Test.YtcoiagfeoonpbaaSe14
namespace Go.Proofs.Ytcoiagfeoonpbaa
open Go.RowKit
attribute [local go_sem] tk_pos
section
variable {ts : List Tk} {aL : Option Addr} {n cap q : Nat}
def letE (ts : List Tk) (f i d : Nat) (l c : Int) : Option Rd1 :=
 if (nowT ts i).k ≠ 2 then some (badT ts i) else
 if isT ts (i + 1) 5 wFree then
  takeT ts (i + 2) 5 wIn (andT (readE ts f .expr (i + 3) d) fun x j => some (.ok (.mk 8 (nowT ts i).s 0 [x] l c) j))
 else takeT ts (i + 1) 6 wEq (andT (readE ts f .expr (i + 2) d) fun x j =>
  takeT ts j 5 wIn (andT (readE ts f .expr (j + 1) d) fun y k => some (.ok (.mk 7 (nowT ts i).s 0 [x, y] l c) k)))
set_option maxRecDepth 100000 in
set_option maxHeartbeats 20000000 in
theorem let_reads {f i deep : Nat} {l c : Int} {r : Rd1} (hr : letE ts f i deep l c = some r) (w : World) (hd : deep ≤ 40) (H : AllR ts aL n cap q (f + 1)) (hp : PS ts aL n cap q i (deep : Int) w) :
  Calls Try.prog 93 #[.pointer (some ⟨q, 0, none⟩), .agg #[.int .i64 l, .int .i64 c]] w (Ans ts aL n cap q r deep w) := by
 have HP := Lib.hid hp
 have hq0 := hp.lt
 have HF := Lib.hid (FarB.refl q w.heap.size w)
 clear hp
 go_enter Try.func93, Try.ntmps93
 go_wp2_with (fail)
 generalize ee : World.alloc w _ = w1_1
 have hq1 := sizeA ee
 replace HP := pA HP ee
 replace HF := fA HF ee
 have HBp := nB ee (w.heap.size)
 clear ee
 generalize ee : World.alloc w1_1 _ = w1
 have hq2 := sizeA ee
 replace HP := pA HP ee
 replace HF := fA HF ee
 replace HBp := bA HBp ee
 have HBr := nB ee (w.heap.size + 1)
 clear ee
 have hsa1 : w1.heap.size = w.heap.size + 2 := by omega
 clear hq1 hq2
 have qc := kcP HP
 have pc := kc2 HBp; have rc := kc6 HBr
 have hI := iq_01_0 q w w1
 have hZ := iq_012 q w
 unfold letE at hr
 by_cases hk : (nowT ts i).k = 2
 rotate_left
 ·
  rw [if_pos hk] at hr
  cases hr
  refine wp_region_held_drew (S := fun w' => Far (fun b => b = q) (w1) w') (by kernel_rfl) (Far.of (below_drew _)) (fun hS0 => ?_)
  refine takeA 0 (v := ?_) rfl ?_ ?_
  rotate_left
  · (intro w hSw; (try dsimp only at hSw); replace pc := Far.c2z pc hSw (by intro e; have e : _ = q := e; omega); go_simp; try with_reducible rfl)
  try simp only [Act.put, pu1, pu2, pu3]
  refine takeA 2 (v := ?_) rfl ?_ ?_
  rotate_left
  · (intro w hSw; (try dsimp only at hSw); replace pc := Far.c2z pc hSw (by intro e; have e : _ = q := e; omega); go_simp; try with_reducible rfl)
  try simp only [Act.put, pu1, pu2, pu3]

  refine twoL 1 4 rfl rfl (by kernel_rfl) (by rfl) (by rfl) (fun K hK => ?_) (fun K hK => ?_)
  ·
   go_simp
   refine (name_bad _ HP.out.drew hk).mono ?_
   rintro _ y ⟨rfl, hb⟩

   go_wp2_with (fail)
   exact ⟨rfl, rfl, FarB.out (HF.out.drew.below hb), (HP.out.drew.keep hb).any⟩
  ·
   go_simp
   refine hK.out _ _ ?_ (fun hS1 => ?_)
   · exact Far.trans (Far.of (below_new _ _)) (Far.of (below_drew _))
   clear hK K
   clear qc pc rc
   generalize ee : (w1.alloc (.cells #[.int .i64 0, .string ⟨#[]⟩, .int .i64 0, .slice none 0 0, .int .i64 0, .int .i64 0] 27)) = w2_1 at *
   have hq1 := sizeA ee
   replace HP := pA HP ee
   replace HF := fA HF ee
   replace HBp := bA HBp ee
   replace HBr := bA HBr ee
   have HBu := nB ee (w.heap.size + 2)
   clear ee
   generalize ee : (w2_1.drew) = w2 at *
   have hq2 := sizeD ee
   replace HP := pD HP ee
   replace HF := fD HF ee
   replace HBp := bD HBp ee
   replace HBr := bD HBr ee
   replace HBu := bD HBu ee
   clear ee
   have hsa2 : w2.heap.size = w.heap.size + 3 := by omega
   clear hq1 hq2
   clear hI hZ
   refine callA 1 rfl fun K hK => ?_
   go_simp
   refine (name_bad _ HP.out hk).mono ?_
   rintro _ y ⟨rfl, hb⟩

   go_wp2_with (fail)
   exact ⟨rfl, rfl, FarB.out (HF.out.below hb), (HP.out.keep hb).any⟩
 rw [if_neg (fun h => h hk)] at hr
 refine wp_region_held_drew (S := fun w' => Far (fun b => b = q) (w1) w') (by kernel_rfl) (Far.of (below_drew _)) (fun hS0 => ?_)
 refine takeA 0 (v := ?_) rfl ?_ ?_
 rotate_left
 · (intro w hSw; (try dsimp only at hSw); replace pc := Far.c2z pc hSw (by intro e; have e : _ = q := e; omega); go_simp; try with_reducible rfl)
 try simp only [Act.put, pu1, pu2, pu3]
 refine takeA 2 (v := ?_) rfl ?_ ?_
 rotate_left
 · (intro w hSw; (try dsimp only at hSw); replace pc := Far.c2z pc hSw (by intro e; have e : _ = q := e; omega); go_simp; try with_reducible rfl)
 try simp only [Act.put, pu1, pu2, pu3]

 refine twoL 1 4 rfl rfl (by kernel_rfl) (by rfl) (by rfl) (fun K hK => ?_) (fun K hK => ?_)
 ·
  go_simp
  refine (name_ok _ HP.out.drew hk).mono ?_
  rintro _ wx1 ⟨rfl, hf, hp⟩
  have hswx1 : w1.heap.size ≤ wx1.heap.size := hf.size
  replace hf : FarQ q w1 wx1 := (FarQ.of (below_drew _)).trans hf
  replace HBp := qB HBp hf
  replace HBr := qB HBr hf
  replace HF := qF HF hf
  have hs1 := hf.size
  replace HP := Lib.hid hp
  clear hp
  go_simp
  refine hK.out _ _ ?_ (fun hS1 => ?_)
  · exact hf
  clear hK K
  refine takeA 3 (v := ?_) rfl ?_ ?_
  rotate_left
  · (intro w hSw; (try dsimp only at hSw); go_simp; try with_reducible rfl)
  try simp only [Act.put, pu1, pu2, pu3]
  refine callA 4 rfl fun K hK => ?_
  go_simp
  refine hK.out _ _ ?_ (fun hS2 => ?_)
  · exact Far.trans hS1 (Far.of (below_new _ _))
  clear hK K

  refine callA 5 rfl fun K hK => ?_
  clear qc pc rc
  clear hI hZ
  have qc := kcP HP
  have pc := kc2 HBp; have rc := kc6 HBr
  have hI := iq_01_0 q w wx1
  go_simp
  refine hK.out _ _ ?_ (fun hS3 => ?_)
  · exact Far.trans hS1 (Far.of (below_new _ _))
  clear hK K
  refine wpAnyH_done (by kernel_rfl) ?_ _

  clear qc pc rc
  generalize ee : World.alloc wx1 _ = w2
  have hsa2 := sizeA ee
  replace HP := pA HP ee
  replace HF := fA HF ee
  replace HBp := bA HBp ee
  replace HBr := bA HBr ee
  have HBu := nB ee (wx1.heap.size)
  clear ee
  clear hI
  clear HBp
  have qc := kcP HP
  have rc := kc6 HBr; have uc := kc6 HBu
  have hI := iq_1_0_0 q w wx1 w2
  have hZ := iq_1_01 q w wx1
  go_wp2_with (fail)
  rcases hfr : isT ts (i + 1) 5 wFree
  rotate_left
  ·
   simp only [hfr, if_true] at hr
   clear qc rc uc
   refine (is_any 5 wFree _ HP.out).mono ?_
   rintro _ w3 ⟨rfl, hb⟩
   have hf := FarQ.of (q := q) hb
   replace HBr := qB HBr hf
   replace HBu := qB HBu hf
   replace HF := qF HF hf
   have hs3 := hf.size
   replace HP := kP HP hb
   clear hf hb
   rw [hfr]
   have hov : ((i : Int) + 1) + 1 ≤ 9223372036854775807 := by have h1 := isT_lt hfr (by decide); have := HP.out.len; omega
   clear hI hZ
   have qc := kcP HP
   have rc := kc6 HBr; have uc := kc6 HBu
   have hI := iq_1_0_0 q w wx1 w3
   go_wp2_with (fail)
   clear qc rc uc
   generalize ee : World.setCell w3 _ _ = w4
   have hsz4 := sizeS1 ee
   replace HP := Lib.hid (HP.out.setIE (k := (i + 2)) ee (by omega))
   replace HF := Lib.hid (HF.out.setQE ee)
   replace HBr := bF1 HBr ee
   replace HBu := bF1 HBu ee
   clear ee
   clear hI
   have qc := kcP HP
   have rc := kc6 HBr; have uc := kc6 HBu
   have hI := iq_1_0_0 q w wx1 w4
   have hZ := iq_1_0_0 q w wx1 w3
   rcases hin : isT ts (i + 2) 5 wIn
   ·
    first | simp only [hin, Bool.false_eq_true, if_false] at hr | simp only [takeT, hin, Bool.false_eq_true, if_false] at hr
    cases hr
    clear qc rc uc
    refine (take_bad 5 wIn _ HP.out hin).mono ?_
    rintro _ w5 ⟨rfl, hb⟩
    have hf := FarQ.of (q := q) hb
    have hbo := (HP.out.keep hb).any
    go_wp2_with (fail)
    exact ⟨rfl, rfl, FarB.out (HF.out.farq hf), hbo⟩
   first | simp only [hin, if_true] at hr | simp only [takeT, hin, if_true] at hr
   clear qc rc uc
   refine (take_ok 5 wIn _ HP.out hin (by decide)).mono ?_
   rintro _ w5 ⟨rfl, hf, hp⟩
   replace HBr := qB HBr hf
   replace HBu := qB HBu hf
   replace HF := qF HF hf
   have hs5 := hf.size
   replace HP := Lib.hid hp
   clear hf hp
   clear hI hZ
   have qc := kcP HP
   have rc := kc6 HBr; have uc := kc6 HBu
   have hI := iq_1_0_0 q w wx1 w5
   go_wp2_with (fail)
   refine wp_region_held_drew (S := fun w' => Far (fun b => b = q ∨ b = wx1.heap.size) (w5) w') (by kernel_rfl) (Far.of (below_drew _)) (fun hS10 => ?_)
   refine takeA 0 (v := ?_) rfl ?_ ?_
   rotate_left
   · (intro w hSw; (try dsimp only at hSw); go_simp; try with_reducible rfl)
   try simp only [Act.put, pu1, pu2, pu3]
   refine takeA 2 (v := ?_) rfl ?_ ?_
   rotate_left
   · (intro w hSw; (try dsimp only at hSw); go_simp; try with_reducible rfl)
   try simp only [Act.put, pu1, pu2, pu3]

   rcases hy : readE ts f .expr (i + 3) deep with _ | ⟨y, k⟩ | ⟨l_, c_⟩
   · (rw [hy] at hr; cases hr)
   rotate_left
   ·
    rw [hy] at hr
    first | simp only at hr | simp only [andT] at hr
    cases hr
    refine twoL 1 3 rfl rfl (by kernel_rfl) (by rfl) (by rfl) (fun K hK => ?_) (fun K hK => ?_)
    ·
     go_simp
     refine hK.out _ _ ?_ (fun hS11 => ?_)
     · exact hS10
     clear hK K
     refine callA 3 rfl fun K hK => ?_
     go_simp
     refine ((H.ex f (Nat.lt_succ_self f)) (i + 3) deep _ _ hd hy HP.out.drew).mono ?_
     rintro e wx19 ⟨rfl, hf, hbo⟩
     go_wp2_with (fail)
     exact ⟨rfl, rfl, FarB.out (HF.out.drew.farq hf), hbo⟩
    ·
     go_simp
     refine ((H.ex f (Nat.lt_succ_self f)) (i + 3) deep _ _ hd hy HP.out.drew).mono ?_
     rintro e wx19 ⟨rfl, hf, hbo⟩
     go_wp2_with (fail)
     exact ⟨rfl, rfl, FarB.out (HF.out.drew.farq hf), hbo⟩
   rw [hy] at hr
   first | simp only at hr | simp only [andT] at hr
   refine twoL 1 3 rfl rfl (by kernel_rfl) (by rfl) (by rfl) (fun K hK => ?_) (fun K hK => ?_)
   ·
    go_simp
    refine hK.out _ _ ?_ (fun hS11 => ?_)
    · exact hS10
    clear hK K
    refine callA 3 rfl fun K hK => ?_
    have HOW : Hid (OwnD 0 (w5.heap.size) 27 6 w5 (.slice none 0 0) (Ex.rows [])) := Lib.hid (OwnD.nil _ _ _ _ _)
    go_simp
    refine ((H.ex f (Nat.lt_succ_self f)) (i + 3) deep _ _ hd hy HP.out.drew).mono ?_
    rintro e wx12 ⟨ay, my, cy, rfl, hf, hp, hm⟩
    have hswx12 : w5.heap.size ≤ wx12.heap.size := hf.size
    replace hf : FarQ q w5 wx12 := (FarQ.of (below_drew _)).trans hf
    replace HBr := qB HBr hf
    replace HBu := qB HBu hf
    replace HF := qF HF hf
    replace HP := Lib.hid hp
    have HMy : Hid (Mem (Nw 0 w5.heap.size _) _ _ _) := Lib.hid hm
    clear hp hm
    simp only [exV]
    go_simp
    refine hK.out _ _ ?_ (fun hS12 => ?_)
    · exact (Far.mono hf (fun b e => .inl e))
    clear hK K

    refine callA 4 rfl fun K hK => ?_
    go_simp
    refine hK.out _ _ ?_ (fun hS13 => ?_)
    · exact Far.trans hS12 (Far.of (below_new _ _))
    clear hK K

    refine callA 5 rfl fun K hK => ?_
    refine wp_append_D2 _ _ (by rfl) Try.underlying23 info_ex rfl (by decide) (by rfl) (by rfl) (OwnD.nil 0 (w5.heap.size) 27 6 _) (newRow HOW.out (by omega) (by omega) HMy.out) (by simp only [Ex.rows_len, List.length_cons, List.length_nil]; omega) (by simp only [Ex.rows_len, List.length_cons, List.length_nil]; omega) (by rw [World.size_alloc]; omega) (fun v9 w9 ho hg => ?_)
    obtain ⟨a9, m9, c9, rfl⟩ := ho.form'
    refine hK.out _ _ ?_ (fun hS14 => ?_)
    · exact Far.trans hS13 ((grownFar hg).mono (fun b e => by cases e))
    clear hK K
    have hs9 : wx12.heap.size + 1 ≤ w9.heap.size := by have h := hg.size; rw [World.size_alloc] at h; exact h
    replace HP := rP HP hg rfl
    replace HF := rF HF hg rfl
    replace HBr := rB HBr hg rfl
    replace HBu := rB HBu hg rfl
    have HOz : Hid (OwnD 0 (w5.heap.size) 27 6 w9 (.slice a9 m9 c9) (Ex.rows [y])) := Lib.hid (by rw [show ([y] : List Ex) = [] ++ [y] from rfl, Ex.rows_app]; exact ho)
    clear ho hg HMy HOW
    refine takeA 6 (v := ?_) rfl ?_ ?_
    rotate_left
    · (intro w hSw; (try dsimp only at hSw); go_simp; try with_reducible rfl)
    try simp only [Act.put, pu1, pu2, pu3]
    refine callA 7 rfl fun K hK => ?_
    clear qc rc uc
    clear hI
    have qc := kcP HP
    have rc := kc6 HBr; have uc := kc6 HBu
    have hI := iq_1_0_0 q w wx1 w9
    go_simp
    refine hK.out _ _ ?_ (fun hS15 => ?_)
    · exact Far.setCell hS14 (.inr rfl) _
    clear hK K
    refine wpAnyH_done (by kernel_rfl) ?_ _

    clear qc rc uc
    generalize ee : World.setCell w9 _ _ = w6
    have hsz6 := sizeS1 ee
    replace HP := pO1 HP ee
    replace HF := fN1 HF ee
    replace HBr := bF1 HBr ee
    replace HBu : Hid (Bo w6 wx1.heap.size 27 #[.int .i64 8, .string (nowT ts i).s, .int .i64 0, .slice a9 m9 c9, .int .i64 l, .int .i64 c]) := Lib.hid (by rw [← ee]; exact HBu.out.set 3 (.slice a9 m9 c9))
    replace HOz := oS1 HOz ee
    clear ee
    clear hI
    have qc := kcP HP
    have rc := kc6 HBr; have uc := kc6 HBu
    have hI := iq_1_0_0 q w wx1 w6
    have hZ := iq_1_0_0 q w wx1 w9
    go_wp2_with (fail)
    clear qc rc uc
    generalize ee : World.setCell _ ⟨(w.heap.size + 1), 5, none⟩ _ = w7
    have hsz7 := sizeS6 ee
    replace HP := pO6 HP ee
    replace HF := fN6 HF ee
    replace HBr := bS6 HBr ee
    replace HBu := bF6 HBu ee
    replace HOz := oS6 HOz ee
    clear ee
    clear hI hZ
    cases hr
    have fc := kc6 HBr
    refine bodyPost_ret (v := .agg #[.int .i64 8, .string (nowT ts i).s, .int .i64 0, .slice a9 m9 c9, .int .i64 l, .int .i64 c]) (by clear HP HF HBr HBu HOz; simp [results, Try.results93, go_sem, fc]) rfl ?_
    exact ⟨_, _, _, rfl, HF.out.out, HP.out, memNw HOz.out.mem (by omega)⟩
   ·
    have HOW : Hid (OwnD 0 (w5.heap.size) 27 6 w5 (.slice none 0 0) (Ex.rows [])) := Lib.hid (OwnD.nil _ _ _ _ _)
    go_simp
    refine ((H.ex f (Nat.lt_succ_self f)) (i + 3) deep _ _ hd hy HP.out.drew).mono ?_
    rintro e wx12 ⟨ay, my, cy, rfl, hf, hp, hm⟩
    have hswx12 : w5.heap.size ≤ wx12.heap.size := hf.size
    replace hf : FarQ q w5 wx12 := (FarQ.of (below_drew _)).trans hf
    replace HBr := qB HBr hf
    replace HBu := qB HBu hf
    replace HF := qF HF hf
    replace HP := Lib.hid hp
    have HMy : Hid (Mem (Nw 0 w5.heap.size _) _ _ _) := Lib.hid hm
    clear hp hm
    simp only [exV]
    go_simp
    refine hK.out _ _ ?_ (fun hS12 => ?_)
    · exact (Far.mono hf (fun b e => .inl e))
    clear hK K

    refine twoL 1 4 rfl rfl (by kernel_rfl) (by rfl) (by rfl) (fun K hK => ?_) (fun K hK => ?_)
    ·
     clear qc rc uc
     clear hI
     have qc := kcP HP
     have rc := kc6 HBr; have uc := kc6 HBu
     have hI := iq_1_0_0 q w wx1 wx12
     go_simp
     refine hK.out _ _ ?_ (fun hS13 => ?_)
     · exact hS12
     clear hK K
     refine callA 4 rfl fun K hK => ?_
     go_simp
     refine hK.out _ _ ?_ (fun hS14 => ?_)
     · exact Far.trans hS13 (Far.of (below_new _ _))
     clear hK K

     refine callA 5 rfl fun K hK => ?_
     refine wp_append_D2 _ _ (by rfl) Try.underlying23 info_ex rfl (by decide) (by rfl) (by rfl) (OwnD.nil 0 (w5.heap.size) 27 6 _) (newRow HOW.out (by omega) (by omega) HMy.out) (by simp only [Ex.rows_len, List.length_cons, List.length_nil]; omega) (by simp only [Ex.rows_len, List.length_cons, List.length_nil]; omega) (by rw [World.size_alloc]; omega) (fun v9 w9 ho hg => ?_)
     obtain ⟨a9, m9, c9, rfl⟩ := ho.form'
     refine hK.out _ _ ?_ (fun hS15 => ?_)
     · exact Far.trans hS14 ((grownFar hg).mono (fun b e => by cases e))
     clear hK K
     have hs9 : wx12.heap.size + 1 ≤ w9.heap.size := by have h := hg.size; rw [World.size_alloc] at h; exact h
     replace HP := rP HP hg rfl
     replace HF := rF HF hg rfl
     replace HBr := rB HBr hg rfl
     replace HBu := rB HBu hg rfl
     have HOz : Hid (OwnD 0 (w5.heap.size) 27 6 w9 (.slice a9 m9 c9) (Ex.rows [y])) := Lib.hid (by rw [show ([y] : List Ex) = [] ++ [y] from rfl, Ex.rows_app]; exact ho)
     clear ho hg HMy HOW
     refine takeA 6 (v := ?_) rfl ?_ ?_
     rotate_left
     · (intro w hSw; (try dsimp only at hSw); go_simp; try with_reducible rfl)
     try simp only [Act.put, pu1, pu2, pu3]
     refine callA 7 rfl fun K hK => ?_
     clear qc rc uc
     clear hI
     have qc := kcP HP
     have rc := kc6 HBr; have uc := kc6 HBu
     have hI := iq_1_0_0 q w wx1 w9
     go_simp
     refine hK.out _ _ ?_ (fun hS16 => ?_)
     · exact Far.setCell hS15 (.inr rfl) _
     clear hK K
     refine wpAnyH_done (by kernel_rfl) ?_ _

     clear qc rc uc
     generalize ee : World.setCell w9 _ _ = w6
     have hsz6 := sizeS1 ee
     replace HP := pO1 HP ee
     replace HF := fN1 HF ee
     replace HBr := bF1 HBr ee
     replace HBu : Hid (Bo w6 wx1.heap.size 27 #[.int .i64 8, .string (nowT ts i).s, .int .i64 0, .slice a9 m9 c9, .int .i64 l, .int .i64 c]) := Lib.hid (by rw [← ee]; exact HBu.out.set 3 (.slice a9 m9 c9))
     replace HOz := oS1 HOz ee
     clear ee
     clear hI
     have qc := kcP HP
     have rc := kc6 HBr; have uc := kc6 HBu
     have hI := iq_1_0_0 q w wx1 w6
     have hZ := iq_1_0_0 q w wx1 w9
     go_wp2_with (fail)
     clear qc rc uc
     generalize ee : World.setCell _ ⟨(w.heap.size + 1), 5, none⟩ _ = w7
     have hsz7 := sizeS6 ee
     replace HP := pO6 HP ee
     replace HF := fN6 HF ee
     replace HBr := bS6 HBr ee
     replace HBu := bF6 HBu ee
     replace HOz := oS6 HOz ee
     clear ee
     clear hI hZ
     cases hr
     have fc := kc6 HBr
     refine bodyPost_ret (v := .agg #[.int .i64 8, .string (nowT ts i).s, .int .i64 0, .slice a9 m9 c9, .int .i64 l, .int .i64 c]) (by clear HP HF HBr HBu HOz; simp [results, Try.results93, go_sem, fc]) rfl ?_
     exact ⟨_, _, _, rfl, HF.out.out, HP.out, memNw HOz.out.mem (by omega)⟩
    ·
     go_simp
     refine hK.out _ _ ?_ (fun hS13 => ?_)
     · exact Far.trans hS12 (Far.of (below_new _ _))
     clear hK K
     clear qc rc uc
     clear hI
     have qc := kcP HP
     have rc := kc6 HBr; have uc := kc6 HBu
     have hI := iq_1_0_0 q w wx1 wx12
     refine callA 1 rfl fun K hK => ?_
     go_simp
     refine hK.out _ _ ?_ (fun hS14 => ?_)
     · exact hS13
     clear hK K
     refine callA 5 rfl fun K hK => ?_
     refine wp_append_D2 _ _ (by rfl) Try.underlying23 info_ex rfl (by decide) (by rfl) (by rfl) (OwnD.nil 0 (w5.heap.size) 27 6 _) (newRow HOW.out (by omega) (by omega) HMy.out) (by simp only [Ex.rows_len, List.length_cons, List.length_nil]; omega) (by simp only [Ex.rows_len, List.length_cons, List.length_nil]; omega) (by rw [World.size_alloc]; omega) (fun v9 w9 ho hg => ?_)
     obtain ⟨a9, m9, c9, rfl⟩ := ho.form'
     refine hK.out _ _ ?_ (fun hS15 => ?_)
     · exact Far.trans hS14 ((grownFar hg).mono (fun b e => by cases e))
     clear hK K
     have hs9 : wx12.heap.size + 1 ≤ w9.heap.size := by have h := hg.size; rw [World.size_alloc] at h; exact h
     replace HP := rP HP hg rfl
     replace HF := rF HF hg rfl
     replace HBr := rB HBr hg rfl
     replace HBu := rB HBu hg rfl
     have HOz : Hid (OwnD 0 (w5.heap.size) 27 6 w9 (.slice a9 m9 c9) (Ex.rows [y])) := Lib.hid (by rw [show ([y] : List Ex) = [] ++ [y] from rfl, Ex.rows_app]; exact ho)
     clear ho hg HMy HOW
     refine takeA 6 (v := ?_) rfl ?_ ?_
     rotate_left
     · (intro w hSw; (try dsimp only at hSw); go_simp; try with_reducible rfl)
     try simp only [Act.put, pu1, pu2, pu3]
     refine callA 7 rfl fun K hK => ?_
     clear qc rc uc
     clear hI
     have qc := kcP HP
     have rc := kc6 HBr; have uc := kc6 HBu
     have hI := iq_1_0_0 q w wx1 w9
     go_simp
     refine hK.out _ _ ?_ (fun hS16 => ?_)
     · exact Far.setCell hS15 (.inr rfl) _
     clear hK K
     refine wpAnyH_done (by kernel_rfl) ?_ _

     clear qc rc uc
     generalize ee : World.setCell w9 _ _ = w6
     have hsz6 := sizeS1 ee
     replace HP := pO1 HP ee
     replace HF := fN1 HF ee
     replace HBr := bF1 HBr ee
     replace HBu : Hid (Bo w6 wx1.heap.size 27 #[.int .i64 8, .string (nowT ts i).s, .int .i64 0, .slice a9 m9 c9, .int .i64 l, .int .i64 c]) := Lib.hid (by rw [← ee]; exact HBu.out.set 3 (.slice a9 m9 c9))
     replace HOz := oS1 HOz ee
     clear ee
     clear hI
     have qc := kcP HP
     have rc := kc6 HBr; have uc := kc6 HBu
     have hI := iq_1_0_0 q w wx1 w6
     have hZ := iq_1_0_0 q w wx1 w9
     go_wp2_with (fail)
     clear qc rc uc
     generalize ee : World.setCell _ ⟨(w.heap.size + 1), 5, none⟩ _ = w7
     have hsz7 := sizeS6 ee
     replace HP := pO6 HP ee
     replace HF := fN6 HF ee
     replace HBr := bS6 HBr ee
     replace HBu := bF6 HBu ee
     replace HOz := oS6 HOz ee
     clear ee
     clear hI hZ
     cases hr
     have fc := kc6 HBr
     refine bodyPost_ret (v := .agg #[.int .i64 8, .string (nowT ts i).s, .int .i64 0, .slice a9 m9 c9, .int .i64 l, .int .i64 c]) (by clear HP HF HBr HBu HOz; simp [results, Try.results93, go_sem, fc]) rfl ?_
     exact ⟨_, _, _, rfl, HF.out.out, HP.out, memNw HOz.out.mem (by omega)⟩
  simp only [hfr, Bool.false_eq_true, if_false] at hr
  clear qc rc uc
  refine (is_any 5 wFree _ HP.out).mono ?_
  rintro _ w3 ⟨rfl, hb⟩
  have hf := FarQ.of (q := q) hb
  replace HBr := qB HBr hf
  replace HBu := qB HBu hf
  replace HF := qF HF hf
  have hs3 := hf.size
  replace HP := kP HP hb
  clear hf hb
  rw [hfr]
  clear hI hZ
  have qc := kcP HP
  have rc := kc6 HBr; have uc := kc6 HBu
  have hI := iq_1_0_0 q w wx1 w3
  go_wp2_with (fail)
  rcases heq : isT ts (i + 1) 6 wEq
  ·
   first | simp only [heq, Bool.false_eq_true, if_false] at hr | simp only [takeT, heq, Bool.false_eq_true, if_false] at hr
   cases hr
   clear qc rc uc
   refine (take_bad 6 wEq _ HP.out heq).mono ?_
   rintro _ w4 ⟨rfl, hb⟩
   have hf := FarQ.of (q := q) hb
   have hbo := (HP.out.keep hb).any
   go_wp2_with (fail)
   exact ⟨rfl, rfl, FarB.out (HF.out.farq hf), hbo⟩
  first | simp only [heq, if_true] at hr | simp only [takeT, heq, if_true] at hr
  clear qc rc uc
  refine (take_ok 6 wEq _ HP.out heq (by decide)).mono ?_
  rintro _ w4 ⟨rfl, hf, hp⟩
  replace HBr := qB HBr hf
  replace HBu := qB HBu hf
  replace HF := qF HF hf
  have hs4 := hf.size
  replace HP := Lib.hid hp
  clear hf hp
  clear hI
  have qc := kcP HP
  have rc := kc6 HBr; have uc := kc6 HBu
  have hI := iq_1_0_0 q w wx1 w4
  go_wp2_with (fail)
  rcases hx : readE ts f .expr (i + 2) deep with _ | ⟨x, j⟩ | ⟨l_, c_⟩
  · (rw [hx] at hr; cases hr)
  rotate_left
  ·
   rw [hx] at hr
   first | simp only at hr | simp only [andT] at hr
   cases hr
   clear qc rc uc
   refine ((H.ex f (Nat.lt_succ_self f)) (i + 2) deep _ _ hd hx HP.out).mono ?_
   rintro _ w5 ⟨rfl, hf, hbo⟩
   go_wp2_with (fail)
   exact ⟨rfl, rfl, FarB.out (HF.out.farq hf), hbo⟩
  rw [hx] at hr
  first | simp only at hr | simp only [andT] at hr
  clear qc rc uc
  refine ((H.ex f (Nat.lt_succ_self f)) (i + 2) deep _ _ hd hx HP.out).mono ?_
  rintro _ w5 ⟨ax, mx, cx, rfl, hf, hp, hm⟩
  replace HBr := qB HBr hf
  replace HBu := qB HBu hf
  replace HF := qF HF hf
  have hs5 := hf.size
  replace HP := Lib.hid hp
  have HMx := Lib.hid hm
  clear hf hp hm
  simp only [exV]
  clear hI
  have qc := kcP HP
  have rc := kc6 HBr; have uc := kc6 HBu
  have hI := iq_1_0_0 q w wx1 w5
  go_wp2_with (fail)
  clear qc rc uc
  generalize ee : World.setCell w5 _ _ = w6_1
  have hq1 := sizeS1 ee
  replace HP := pO1 HP ee
  replace HF := fN1 HF ee
  replace HBr := bF1 HBr ee
  replace HBu : Hid (Bo w6_1 wx1.heap.size 27 #[.int .i64 7, .string (nowT ts i).s, .int .i64 0, .slice none 0 0, .int .i64 l, .int .i64 c]) := Lib.hid (by rw [← ee]; exact HBu.out.set 0 (.int .i64 7))
  replace HMx := mS1 HMx ee
  clear ee
  generalize ee : World.setCell w6_1 _ _ = w6_2
  have hq2 := sizeS1 ee
  replace HP := pO1 HP ee
  replace HF := fN1 HF ee
  replace HBr := bF1 HBr ee
  replace HBu : Hid (Bo w6_2 wx1.heap.size 27 #[.int .i64 7, .string (nowT ts i).s, .int .i64 0, .slice (some ⟨w5.heap.size, 0, none⟩) 1 1, .int .i64 l, .int .i64 c]) := Lib.hid (by rw [← ee]; exact HBu.out.set 3 (.slice (some ⟨w5.heap.size, 0, none⟩) 1 1))
  replace HMx := mS1 HMx ee
  clear ee
  generalize ee : World.alloc w6_2 _ = w6
  have hq3 := sizeA ee
  have HNEW := Lib.hid (builtE1E (base := w4.heap.size) (memNw HMx.out (by omega)) ee (b := w5.heap.size) (by omega) (by omega))
  replace HP := pA HP ee
  replace HF := fA HF ee
  replace HBr := bA HBr ee
  replace HBu := bA HBu ee
  replace HMx := mA HMx ee
  have HOs := HNEW
  clear HNEW
  clear ee
  have hsa6 : w6.heap.size = w5.heap.size + 1 := by omega
  clear hq1 hq2 hq3
  clear hI
  have qc := kcP HP
  have rc := kc6 HBr; have uc := kc6 HBu
  have hI := iq_1_0_0 q w wx1 w6
  have hZ := iq_1_0_1 q w wx1 w5
  rcases hin : isT ts j 5 wIn
  ·
   first | simp only [hin, Bool.false_eq_true, if_false] at hr | simp only [takeT, hin, Bool.false_eq_true, if_false] at hr
   cases hr
   clear qc rc uc
   refine (take_bad 5 wIn _ HP.out hin).mono ?_
   rintro _ w7 ⟨rfl, hb⟩
   have hf := FarQ.of (q := q) hb
   have hbo := (HP.out.keep hb).any
   go_wp2_with (fail)
   exact ⟨rfl, rfl, FarB.out (HF.out.farq hf), hbo⟩
  first | simp only [hin, if_true] at hr | simp only [takeT, hin, if_true] at hr
  clear qc rc uc
  refine (take_ok 5 wIn _ HP.out hin (by decide)).mono ?_
  rintro _ w7 ⟨rfl, hf, hp⟩
  replace HBr := qB HBr hf
  replace HBu := qB HBu hf
  replace HMx := qM HMx hf
  replace HOs := qO HOs hf
  replace HF := qF HF hf
  have hs7 := hf.size
  replace HP := Lib.hid hp
  clear hf hp
  clear hI hZ
  have qc := kcP HP
  have rc := kc6 HBr; have uc := kc6 HBu
  have hI := iq_1_0_0 q w wx1 w7
  go_wp2_with (fail)
  refine wp_region_held_drew (S := fun w' => Far (fun b => b = q ∨ b = wx1.heap.size ∨ b = w5.heap.size) (w7) w') (by kernel_rfl) (Far.of (below_drew _)) (fun hS10 => ?_)
  refine takeA 0 (v := ?_) rfl ?_ ?_
  rotate_left
  · (intro w hSw; (try dsimp only at hSw); go_simp; try with_reducible rfl)
  try simp only [Act.put, pu1, pu2, pu3]
  refine takeA 2 (v := ?_) rfl ?_ ?_
  rotate_left
  · (intro w hSw; (try dsimp only at hSw); go_simp; try with_reducible rfl)
  try simp only [Act.put, pu1, pu2, pu3]

  rcases hy : readE ts f .expr (j + 1) deep with _ | ⟨y, k⟩ | ⟨l_, c_⟩
  · (rw [hy] at hr; cases hr)
  rotate_left
  ·
   rw [hy] at hr
   first | simp only at hr | simp only [andT] at hr
   cases hr
   refine twoL 1 3 rfl rfl (by kernel_rfl) (by rfl) (by rfl) (fun K hK => ?_) (fun K hK => ?_)
   ·
    go_simp
    refine hK.out _ _ ?_ (fun hS11 => ?_)
    · exact hS10
    clear hK K
    refine callA 3 rfl fun K hK => ?_
    go_simp
    refine ((H.ex f (Nat.lt_succ_self f)) (j + 1) deep _ _ hd hy HP.out.drew).mono ?_
    rintro e wx19 ⟨rfl, hf, hbo⟩
    go_wp2_with (fail)
    exact ⟨rfl, rfl, FarB.out (HF.out.drew.farq hf), hbo⟩
   ·
    go_simp
    refine ((H.ex f (Nat.lt_succ_self f)) (j + 1) deep _ _ hd hy HP.out.drew).mono ?_
    rintro e wx19 ⟨rfl, hf, hbo⟩
    go_wp2_with (fail)
    exact ⟨rfl, rfl, FarB.out (HF.out.drew.farq hf), hbo⟩
  rw [hy] at hr
  first | simp only at hr | simp only [andT] at hr
  refine twoL 1 3 rfl rfl (by kernel_rfl) (by rfl) (by rfl) (fun K hK => ?_) (fun K hK => ?_)
  ·
   go_simp
   refine hK.out _ _ ?_ (fun hS11 => ?_)
   · exact hS10
   clear hK K
   refine callA 3 rfl fun K hK => ?_
   have HOW : Hid (OwnD 0 (w4.heap.size) 27 6 w7 (.slice (some ⟨w5.heap.size, 0, none⟩) 1 1) (Ex.rows [x])) := HOs
   go_simp
   refine ((H.ex f (Nat.lt_succ_self f)) (j + 1) deep _ _ hd hy HP.out.drew).mono ?_
   rintro e wx12 ⟨ay, my, cy, rfl, hf, hp, hm⟩
   have hswx12 : w7.heap.size ≤ wx12.heap.size := hf.size
   replace hf : FarQ q w7 wx12 := (FarQ.of (below_drew _)).trans hf
   replace HBr := qB HBr hf
   replace HBu := qB HBu hf
   replace HMx := qM HMx hf
   replace HOs := qO HOs hf
   replace HF := qF HF hf
   replace HP := Lib.hid hp
   have HMy : Hid (Mem (Nw 0 w7.heap.size _) _ _ _) := Lib.hid hm
   clear hp hm
   simp only [exV]
   go_simp
   refine hK.out _ _ ?_ (fun hS12 => ?_)
   · exact (Far.mono hf (fun b e => .inl e))
   clear hK K

   refine callA 4 rfl fun K hK => ?_
   go_simp
   refine hK.out _ _ ?_ (fun hS13 => ?_)
   · exact Far.trans hS12 (Far.of (below_new _ _))
   clear hK K

   refine callA 5 rfl fun K hK => ?_
   refine wp_append_D2 _ _ (by rfl) Try.underlying23 info_ex rfl (by decide) (by rfl) (by rfl) (HOs.out.alloc _) (newRow HOW.out (by omega) (by omega) HMy.out) (by simp only [Ex.rows_len, List.length_cons, List.length_nil]; omega) (by simp only [Ex.rows_len, List.length_cons, List.length_nil]; omega) (by rw [World.size_alloc]; omega) (fun v9 w9 ho hg => ?_)
   obtain ⟨a9, m9, c9, rfl⟩ := ho.form'
   refine hK.out _ _ ?_ (fun hS14 => ?_)
   · exact Far.trans hS13 ((grownFar hg).mono (fun b e => .inr (.inr (by have e : some (w5.heap.size) = some b := e; cases e; rfl))))
   clear hK K
   have hs9 : wx12.heap.size + 1 ≤ w9.heap.size := by have h := hg.size; rw [World.size_alloc] at h; exact h
   replace HP := gP w5.heap.size HP hg rfl
   replace HF := gF w5.heap.size HF hg rfl
   replace HBr := gB w5.heap.size HBr hg rfl
   replace HBu := gB w5.heap.size HBu hg rfl
   have HOz : Hid (OwnD 0 (w4.heap.size) 27 6 w9 (.slice a9 m9 c9) (Ex.rows [x, y])) := Lib.hid (by rw [show ([x, y] : List Ex) = [x] ++ [y] from rfl, Ex.rows_app]; exact ho)
   clear ho hg HMy HOW HOs
   refine takeA 6 (v := ?_) rfl ?_ ?_
   rotate_left
   · (intro w hSw; (try dsimp only at hSw); go_simp; try with_reducible rfl)
   try simp only [Act.put, pu1, pu2, pu3]
   refine callA 7 rfl fun K hK => ?_
   clear qc rc uc
   clear hI
   have qc := kcP HP
   have rc := kc6 HBr; have uc := kc6 HBu
   have hI := iq_1_0_0 q w wx1 w9
   go_simp
   refine hK.out _ _ ?_ (fun hS15 => ?_)
   · exact Far.setCell hS14 (.inr (.inl rfl)) _
   clear hK K
   refine wpAnyH_done (by kernel_rfl) ?_ _

   clear qc rc uc
   generalize ee : World.setCell w9 _ _ = w8
   have hsz8 := sizeS1 ee
   replace HP := pO1 HP ee
   replace HF := fN1 HF ee
   replace HBr := bF1 HBr ee
   replace HBu : Hid (Bo w8 wx1.heap.size 27 #[.int .i64 7, .string (nowT ts i).s, .int .i64 0, .slice a9 m9 c9, .int .i64 l, .int .i64 c]) := Lib.hid (by rw [← ee]; exact HBu.out.set 3 (.slice a9 m9 c9))
   replace HOz := oS1 HOz ee
   clear ee
   clear hI
   have qc := kcP HP
   have rc := kc6 HBr; have uc := kc6 HBu
   have hI := iq_1_0_0 q w wx1 w8
   have hZ := iq_1_0_0 q w wx1 w9
   go_wp2_with (fail)
   clear qc rc uc
   generalize ee : World.setCell _ ⟨(w.heap.size + 1), 5, none⟩ _ = w9
   have hsz9 := sizeS6 ee
   replace HP := pO6 HP ee
   replace HF := fN6 HF ee
   replace HBr := bS6 HBr ee
   replace HBu := bF6 HBu ee
   replace HOz := oS6 HOz ee
   clear ee
   clear hI hZ
   cases hr
   have fc := kc6 HBr
   refine bodyPost_ret (v := .agg #[.int .i64 7, .string (nowT ts i).s, .int .i64 0, .slice a9 m9 c9, .int .i64 l, .int .i64 c]) (by clear HP HF HBr HBu HOz; simp [results, Try.results93, go_sem, fc]) rfl ?_
   exact ⟨_, _, _, rfl, HF.out.out, HP.out, memNw HOz.out.mem (by omega)⟩
  ·
   have HOW : Hid (OwnD 0 (w4.heap.size) 27 6 w7 (.slice (some ⟨w5.heap.size, 0, none⟩) 1 1) (Ex.rows [x])) := HOs
   go_simp
   refine ((H.ex f (Nat.lt_succ_self f)) (j + 1) deep _ _ hd hy HP.out.drew).mono ?_
   rintro e wx12 ⟨ay, my, cy, rfl, hf, hp, hm⟩
   have hswx12 : w7.heap.size ≤ wx12.heap.size := hf.size
   replace hf : FarQ q w7 wx12 := (FarQ.of (below_drew _)).trans hf
   replace HBr := qB HBr hf
   replace HBu := qB HBu hf
   replace HMx := qM HMx hf
   replace HOs := qO HOs hf
   replace HF := qF HF hf
   replace HP := Lib.hid hp
   have HMy : Hid (Mem (Nw 0 w7.heap.size _) _ _ _) := Lib.hid hm
   clear hp hm
   simp only [exV]
   go_simp
   refine hK.out _ _ ?_ (fun hS12 => ?_)
   · exact (Far.mono hf (fun b e => .inl e))
   clear hK K

   refine twoL 1 4 rfl rfl (by kernel_rfl) (by rfl) (by rfl) (fun K hK => ?_) (fun K hK => ?_)
   ·
    clear qc rc uc
    clear hI
    have qc := kcP HP
    have rc := kc6 HBr; have uc := kc6 HBu
    have hI := iq_1_0_0 q w wx1 wx12
    go_simp
    refine hK.out _ _ ?_ (fun hS13 => ?_)
    · exact hS12
    clear hK K
    refine callA 4 rfl fun K hK => ?_
    go_simp
    refine hK.out _ _ ?_ (fun hS14 => ?_)
    · exact Far.trans hS13 (Far.of (below_new _ _))
    clear hK K

    refine callA 5 rfl fun K hK => ?_
    refine wp_append_D2 _ _ (by rfl) Try.underlying23 info_ex rfl (by decide) (by rfl) (by rfl) (HOs.out.alloc _) (newRow HOW.out (by omega) (by omega) HMy.out) (by simp only [Ex.rows_len, List.length_cons, List.length_nil]; omega) (by simp only [Ex.rows_len, List.length_cons, List.length_nil]; omega) (by rw [World.size_alloc]; omega) (fun v9 w9 ho hg => ?_)
    obtain ⟨a9, m9, c9, rfl⟩ := ho.form'
    refine hK.out _ _ ?_ (fun hS15 => ?_)
    · exact Far.trans hS14 ((grownFar hg).mono (fun b e => .inr (.inr (by have e : some (w5.heap.size) = some b := e; cases e; rfl))))
    clear hK K
    have hs9 : wx12.heap.size + 1 ≤ w9.heap.size := by have h := hg.size; rw [World.size_alloc] at h; exact h
    replace HP := gP w5.heap.size HP hg rfl
    replace HF := gF w5.heap.size HF hg rfl
    replace HBr := gB w5.heap.size HBr hg rfl
    replace HBu := gB w5.heap.size HBu hg rfl
    have HOz : Hid (OwnD 0 (w4.heap.size) 27 6 w9 (.slice a9 m9 c9) (Ex.rows [x, y])) := Lib.hid (by rw [show ([x, y] : List Ex) = [x] ++ [y] from rfl, Ex.rows_app]; exact ho)
    clear ho hg HMy HOW HOs
    refine takeA 6 (v := ?_) rfl ?_ ?_
    rotate_left
    · (intro w hSw; (try dsimp only at hSw); go_simp; try with_reducible rfl)
    try simp only [Act.put, pu1, pu2, pu3]
    refine callA 7 rfl fun K hK => ?_
    clear qc rc uc
    clear hI
    have qc := kcP HP
    have rc := kc6 HBr; have uc := kc6 HBu
    have hI := iq_1_0_0 q w wx1 w9
    go_simp
    refine hK.out _ _ ?_ (fun hS16 => ?_)
    · exact Far.setCell hS15 (.inr (.inl rfl)) _
    clear hK K
    refine wpAnyH_done (by kernel_rfl) ?_ _

    clear qc rc uc
    generalize ee : World.setCell w9 _ _ = w8
    have hsz8 := sizeS1 ee
    replace HP := pO1 HP ee
    replace HF := fN1 HF ee
    replace HBr := bF1 HBr ee
    replace HBu : Hid (Bo w8 wx1.heap.size 27 #[.int .i64 7, .string (nowT ts i).s, .int .i64 0, .slice a9 m9 c9, .int .i64 l, .int .i64 c]) := Lib.hid (by rw [← ee]; exact HBu.out.set 3 (.slice a9 m9 c9))
    replace HOz := oS1 HOz ee
    clear ee
    clear hI
    have qc := kcP HP
    have rc := kc6 HBr; have uc := kc6 HBu
    have hI := iq_1_0_0 q w wx1 w8
    have hZ := iq_1_0_0 q w wx1 w9
    go_wp2_with (fail)
    clear qc rc uc
    generalize ee : World.setCell _ ⟨(w.heap.size + 1), 5, none⟩ _ = w9
    have hsz9 := sizeS6 ee
    replace HP := pO6 HP ee
    replace HF := fN6 HF ee
    replace HBr := bS6 HBr ee
    replace HBu := bF6 HBu ee
    replace HOz := oS6 HOz ee
    clear ee
    clear hI hZ
    cases hr
    have fc := kc6 HBr
    refine bodyPost_ret (v := .agg #[.int .i64 7, .string (nowT ts i).s, .int .i64 0, .slice a9 m9 c9, .int .i64 l, .int .i64 c]) (by clear HP HF HBr HBu HOz; simp [results, Try.results93, go_sem, fc]) rfl ?_
    exact ⟨_, _, _, rfl, HF.out.out, HP.out, memNw HOz.out.mem (by omega)⟩
   ·
    go_simp
    refine hK.out _ _ ?_ (fun hS13 => ?_)
    · exact Far.trans hS12 (Far.of (below_new _ _))
    clear hK K
    clear qc rc uc
    clear hI
    have qc := kcP HP
    have rc := kc6 HBr; have uc := kc6 HBu
    have hI := iq_1_0_0 q w wx1 wx12
    refine callA 1 rfl fun K hK => ?_
    go_simp
    refine hK.out _ _ ?_ (fun hS14 => ?_)
    · exact hS13
    clear hK K
    refine callA 5 rfl fun K hK => ?_
    refine wp_append_D2 _ _ (by rfl) Try.underlying23 info_ex rfl (by decide) (by rfl) (by rfl) (HOs.out.alloc _) (newRow HOW.out (by omega) (by omega) HMy.out) (by simp only [Ex.rows_len, List.length_cons, List.length_nil]; omega) (by simp only [Ex.rows_len, List.length_cons, List.length_nil]; omega) (by rw [World.size_alloc]; omega) (fun v9 w9 ho hg => ?_)
    obtain ⟨a9, m9, c9, rfl⟩ := ho.form'
    refine hK.out _ _ ?_ (fun hS15 => ?_)
    · exact Far.trans hS14 ((grownFar hg).mono (fun b e => .inr (.inr (by have e : some (w5.heap.size) = some b := e; cases e; rfl))))
    clear hK K
    have hs9 : wx12.heap.size + 1 ≤ w9.heap.size := by have h := hg.size; rw [World.size_alloc] at h; exact h
    replace HP := gP w5.heap.size HP hg rfl
    replace HF := gF w5.heap.size HF hg rfl
    replace HBr := gB w5.heap.size HBr hg rfl
    replace HBu := gB w5.heap.size HBu hg rfl
    have HOz : Hid (OwnD 0 (w4.heap.size) 27 6 w9 (.slice a9 m9 c9) (Ex.rows [x, y])) := Lib.hid (by rw [show ([x, y] : List Ex) = [x] ++ [y] from rfl, Ex.rows_app]; exact ho)
    clear ho hg HMy HOW HOs
    refine takeA 6 (v := ?_) rfl ?_ ?_
    rotate_left
    · (intro w hSw; (try dsimp only at hSw); go_simp; try with_reducible rfl)
    try simp only [Act.put, pu1, pu2, pu3]
    refine callA 7 rfl fun K hK => ?_
    clear qc rc uc
    clear hI
    have qc := kcP HP
    have rc := kc6 HBr; have uc := kc6 HBu
    have hI := iq_1_0_0 q w wx1 w9
    go_simp
    refine hK.out _ _ ?_ (fun hS16 => ?_)
    · exact Far.setCell hS15 (.inr (.inl rfl)) _
    clear hK K
    refine wpAnyH_done (by kernel_rfl) ?_ _

    clear qc rc uc
    generalize ee : World.setCell w9 _ _ = w8
    have hsz8 := sizeS1 ee
    replace HP := pO1 HP ee
    replace HF := fN1 HF ee
    replace HBr := bF1 HBr ee
    replace HBu : Hid (Bo w8 wx1.heap.size 27 #[.int .i64 7, .string (nowT ts i).s, .int .i64 0, .slice a9 m9 c9, .int .i64 l, .int .i64 c]) := Lib.hid (by rw [← ee]; exact HBu.out.set 3 (.slice a9 m9 c9))
    replace HOz := oS1 HOz ee
    clear ee
    clear hI
    have qc := kcP HP
    have rc := kc6 HBr; have uc := kc6 HBu
    have hI := iq_1_0_0 q w wx1 w8
    have hZ := iq_1_0_0 q w wx1 w9
    go_wp2_with (fail)
    clear qc rc uc
    generalize ee : World.setCell _ ⟨(w.heap.size + 1), 5, none⟩ _ = w9
    have hsz9 := sizeS6 ee
    replace HP := pO6 HP ee
    replace HF := fN6 HF ee
    replace HBr := bS6 HBr ee
    replace HBu := bF6 HBu ee
    replace HOz := oS6 HOz ee
    clear ee
    clear hI hZ
    cases hr
    have fc := kc6 HBr
    refine bodyPost_ret (v := .agg #[.int .i64 7, .string (nowT ts i).s, .int .i64 0, .slice a9 m9 c9, .int .i64 l, .int .i64 c]) (by clear HP HF HBr HBu HOz; simp [results, Try.results93, go_sem, fc]) rfl ?_
    exact ⟨_, _, _, rfl, HF.out.out, HP.out, memNw HOz.out.mem (by omega)⟩
 ·
  go_simp
  refine hK.out _ _ ?_ (fun hS1 => ?_)
  · exact Far.trans (Far.of (below_new _ _)) (Far.of (below_drew _))
  clear hK K
  clear qc pc rc
  generalize ee : (w1.alloc (.cells #[.int .i64 0, .string ⟨#[]⟩, .int .i64 0, .slice none 0 0, .int .i64 0, .int .i64 0] 27)) = w2_1 at *
  have hq1 := sizeA ee
  replace HP := pA HP ee
  replace HF := fA HF ee
  replace HBp := bA HBp ee
  replace HBr := bA HBr ee
  have HBu := nB ee (w.heap.size + 2)
  clear ee
  generalize ee : (w2_1.drew) = w2 at *
  have hq2 := sizeD ee
  replace HP := pD HP ee
  replace HF := fD HF ee
  replace HBp := bD HBp ee
  replace HBr := bD HBr ee
  replace HBu := bD HBu ee
  clear ee
  have hsa2 : w2.heap.size = w.heap.size + 3 := by omega
  clear hq1 hq2
  clear hI hZ
  refine callA 1 rfl fun K hK => ?_
  go_simp
  refine (name_ok _ HP.out hk).mono ?_
  rintro _ wx2 ⟨rfl, hf, hp⟩
  have hswx2 : w2.heap.size ≤ wx2.heap.size := hf.size
  replace HBp := qB HBp hf
  replace HBr := qB HBr hf
  replace HBu := qB HBu hf
  replace HF := qF HF hf
  have hs2 := hf.size
  replace HP := Lib.hid hp
  clear hp
  go_simp
  refine hK.out _ _ ?_ (fun hS2 => ?_)
  · exact Far.trans hS1 hf
  clear hK K
  refine takeA 3 (v := ?_) rfl ?_ ?_
  rotate_left
  · (intro w hSw; (try dsimp only at hSw); go_simp; try with_reducible rfl)
  try simp only [Act.put, pu1, pu2, pu3]
  refine callA 5 rfl fun K hK => ?_
  have qc := kcP HP
  have pc := kc2 HBp; have rc := kc6 HBr; have uc := kc6 HBu
  have hI := iq_012_0 q w wx2
  go_simp
  refine hK.out _ _ ?_ (fun hS3 => ?_)
  · exact (by repeat' (first | with_reducible exact hS2 | with_reducible refine Far.setNew ?_ (by omega) _ _))
  clear hK K
  refine wpAnyH_done (by kernel_rfl) ?_ _

  clear qc pc rc uc
  generalize ee : World.setCell _ ⟨(w.heap.size + 2), 5, none⟩ _ = w3
  have hsz3 := sizeS6 ee
  replace HP := pO6 HP ee
  replace HF := fN6 HF ee
  replace HBp := bF6 HBp ee
  replace HBr := bF6 HBr ee
  replace HBu := bS6 HBu ee
  clear ee
  clear hI
  clear HBp
  have qc := kcP HP
  have rc := kc6 HBr; have uc := kc6 HBu
  have hI := iq_12_0 q w w3
  have hZ := iq_12_0 q w wx2
  go_wp2_with (fail)
  rcases hfr : isT ts (i + 1) 5 wFree
  rotate_left
  ·
   simp only [hfr, if_true] at hr
   clear qc rc uc
   refine (is_any 5 wFree _ HP.out).mono ?_
   rintro _ w4 ⟨rfl, hb⟩
   have hf := FarQ.of (q := q) hb
   replace HBr := qB HBr hf
   replace HBu := qB HBu hf
   replace HF := qF HF hf
   have hs4 := hf.size
   replace HP := kP HP hb
   clear hf hb
   rw [hfr]
   have hov : ((i : Int) + 1) + 1 ≤ 9223372036854775807 := by have h1 := isT_lt hfr (by decide); have := HP.out.len; omega
   clear hI hZ
   have qc := kcP HP
   have rc := kc6 HBr; have uc := kc6 HBu
   have hI := iq_12_0 q w w4
   go_wp2_with (fail)
   clear qc rc uc
   generalize ee : World.setCell w4 _ _ = w5
   have hsz5 := sizeS1 ee
   replace HP := Lib.hid (HP.out.setIE (k := (i + 2)) ee (by omega))
   replace HF := Lib.hid (HF.out.setQE ee)
   replace HBr := bF1 HBr ee
   replace HBu := bF1 HBu ee
   clear ee
   clear hI
   have qc := kcP HP
   have rc := kc6 HBr; have uc := kc6 HBu
   have hI := iq_12_0 q w w5
   have hZ := iq_12_0 q w w4
   rcases hin : isT ts (i + 2) 5 wIn
   ·
    first | simp only [hin, Bool.false_eq_true, if_false] at hr | simp only [takeT, hin, Bool.false_eq_true, if_false] at hr
    cases hr
    clear qc rc uc
    refine (take_bad 5 wIn _ HP.out hin).mono ?_
    rintro _ w6 ⟨rfl, hb⟩
    have hf := FarQ.of (q := q) hb
    have hbo := (HP.out.keep hb).any
    go_wp2_with (fail)
    exact ⟨rfl, rfl, FarB.out (HF.out.farq hf), hbo⟩
   first | simp only [hin, if_true] at hr | simp only [takeT, hin, if_true] at hr
   clear qc rc uc
   refine (take_ok 5 wIn _ HP.out hin (by decide)).mono ?_
   rintro _ w6 ⟨rfl, hf, hp⟩
   replace HBr := qB HBr hf
   replace HBu := qB HBu hf
   replace HF := qF HF hf
   have hs6 := hf.size
   replace HP := Lib.hid hp
   clear hf hp
   clear hI hZ
   have qc := kcP HP
   have rc := kc6 HBr; have uc := kc6 HBu
   have hI := iq_12_0 q w w6
   go_wp2_with (fail)
   refine wp_region_held_drew (S := fun w' => Far (fun b => b = q ∨ b = (w.heap.size + 2)) (w6) w') (by kernel_rfl) (Far.of (below_drew _)) (fun hS10 => ?_)
   refine takeA 0 (v := ?_) rfl ?_ ?_
   rotate_left
   · (intro w hSw; (try dsimp only at hSw); go_simp; try with_reducible rfl)
   try simp only [Act.put, pu1, pu2, pu3]
   refine takeA 2 (v := ?_) rfl ?_ ?_
   rotate_left
   · (intro w hSw; (try dsimp only at hSw); go_simp; try with_reducible rfl)
   try simp only [Act.put, pu1, pu2, pu3]

   rcases hy : readE ts f .expr (i + 3) deep with _ | ⟨y, k⟩ | ⟨l_, c_⟩
   · (rw [hy] at hr; cases hr)
   rotate_left
   ·
    rw [hy] at hr
    first | simp only at hr | simp only [andT] at hr
    cases hr
    refine twoL 1 3 rfl rfl (by kernel_rfl) (by rfl) (by rfl) (fun K hK => ?_) (fun K hK => ?_)
    ·
     go_simp
     refine hK.out _ _ ?_ (fun hS11 => ?_)
     · exact hS10
     clear hK K
     refine callA 3 rfl fun K hK => ?_
     go_simp
     refine ((H.ex f (Nat.lt_succ_self f)) (i + 3) deep _ _ hd hy HP.out.drew).mono ?_
     rintro e wx19 ⟨rfl, hf, hbo⟩
     go_wp2_with (fail)
     exact ⟨rfl, rfl, FarB.out (HF.out.drew.farq hf), hbo⟩
    ·
     go_simp
     refine ((H.ex f (Nat.lt_succ_self f)) (i + 3) deep _ _ hd hy HP.out.drew).mono ?_
     rintro e wx19 ⟨rfl, hf, hbo⟩
     go_wp2_with (fail)
     exact ⟨rfl, rfl, FarB.out (HF.out.drew.farq hf), hbo⟩
   rw [hy] at hr
   first | simp only at hr | simp only [andT] at hr
   refine twoL 1 3 rfl rfl (by kernel_rfl) (by rfl) (by rfl) (fun K hK => ?_) (fun K hK => ?_)
   ·
    go_simp
    refine hK.out _ _ ?_ (fun hS11 => ?_)
    · exact hS10
    clear hK K
    refine callA 3 rfl fun K hK => ?_
    have HOW : Hid (OwnD 0 (w6.heap.size) 27 6 w6 (.slice none 0 0) (Ex.rows [])) := Lib.hid (OwnD.nil _ _ _ _ _)
    go_simp
    refine ((H.ex f (Nat.lt_succ_self f)) (i + 3) deep _ _ hd hy HP.out.drew).mono ?_
    rintro e wx12 ⟨ay, my, cy, rfl, hf, hp, hm⟩
    have hswx12 : w6.heap.size ≤ wx12.heap.size := hf.size
    replace hf : FarQ q w6 wx12 := (FarQ.of (below_drew _)).trans hf
    replace HBr := qB HBr hf
    replace HBu := qB HBu hf
    replace HF := qF HF hf
    replace HP := Lib.hid hp
    have HMy : Hid (Mem (Nw 0 w6.heap.size _) _ _ _) := Lib.hid hm
    clear hp hm
    simp only [exV]
    go_simp
    refine hK.out _ _ ?_ (fun hS12 => ?_)
    · exact (Far.mono hf (fun b e => .inl e))
    clear hK K

    refine callA 4 rfl fun K hK => ?_
    go_simp
    refine hK.out _ _ ?_ (fun hS13 => ?_)
    · exact Far.trans hS12 (Far.of (below_new _ _))
    clear hK K

    refine callA 5 rfl fun K hK => ?_
    refine wp_append_D2 _ _ (by rfl) Try.underlying23 info_ex rfl (by decide) (by rfl) (by rfl) (OwnD.nil 0 (w6.heap.size) 27 6 _) (newRow HOW.out (by omega) (by omega) HMy.out) (by simp only [Ex.rows_len, List.length_cons, List.length_nil]; omega) (by simp only [Ex.rows_len, List.length_cons, List.length_nil]; omega) (by rw [World.size_alloc]; omega) (fun v9 w9 ho hg => ?_)
    obtain ⟨a9, m9, c9, rfl⟩ := ho.form'
    refine hK.out _ _ ?_ (fun hS14 => ?_)
    · exact Far.trans hS13 ((grownFar hg).mono (fun b e => by cases e))
    clear hK K
    have hs9 : wx12.heap.size + 1 ≤ w9.heap.size := by have h := hg.size; rw [World.size_alloc] at h; exact h
    replace HP := rP HP hg rfl
    replace HF := rF HF hg rfl
    replace HBr := rB HBr hg rfl
    replace HBu := rB HBu hg rfl
    have HOz : Hid (OwnD 0 (w6.heap.size) 27 6 w9 (.slice a9 m9 c9) (Ex.rows [y])) := Lib.hid (by rw [show ([y] : List Ex) = [] ++ [y] from rfl, Ex.rows_app]; exact ho)
    clear ho hg HMy HOW
    refine takeA 6 (v := ?_) rfl ?_ ?_
    rotate_left
    · (intro w hSw; (try dsimp only at hSw); go_simp; try with_reducible rfl)
    try simp only [Act.put, pu1, pu2, pu3]
    refine callA 7 rfl fun K hK => ?_
    clear qc rc uc
    clear hI
    have qc := kcP HP
    have rc := kc6 HBr; have uc := kc6 HBu
    have hI := iq_12_0 q w w9
    go_simp
    refine hK.out _ _ ?_ (fun hS15 => ?_)
    · exact Far.setCell hS14 (.inr rfl) _
    clear hK K
    refine wpAnyH_done (by kernel_rfl) ?_ _

    clear qc rc uc
    generalize ee : World.setCell w9 _ _ = w7
    have hsz7 := sizeS1 ee
    replace HP := pO1 HP ee
    replace HF := fN1 HF ee
    replace HBr := bF1 HBr ee
    replace HBu : Hid (Bo w7 (w.heap.size + 2) 27 #[.int .i64 8, .string (nowT ts i).s, .int .i64 0, .slice a9 m9 c9, .int .i64 l, .int .i64 c]) := Lib.hid (by rw [← ee]; exact HBu.out.set 3 (.slice a9 m9 c9))
    replace HOz := oS1 HOz ee
    clear ee
    clear hI
    have qc := kcP HP
    have rc := kc6 HBr; have uc := kc6 HBu
    have hI := iq_12_0 q w w7
    have hZ := iq_12_0 q w w9
    go_wp2_with (fail)
    clear qc rc uc
    generalize ee : World.setCell _ ⟨(w.heap.size + 1), 5, none⟩ _ = w8
    have hsz8 := sizeS6 ee
    replace HP := pO6 HP ee
    replace HF := fN6 HF ee
    replace HBr := bS6 HBr ee
    replace HBu := bF6 HBu ee
    replace HOz := oS6 HOz ee
    clear ee
    clear hI hZ
    cases hr
    have fc := kc6 HBr
    refine bodyPost_ret (v := .agg #[.int .i64 8, .string (nowT ts i).s, .int .i64 0, .slice a9 m9 c9, .int .i64 l, .int .i64 c]) (by clear HP HF HBr HBu HOz; simp [results, Try.results93, go_sem, fc]) rfl ?_
    exact ⟨_, _, _, rfl, HF.out.out, HP.out, memNw HOz.out.mem (by omega)⟩
   ·
    have HOW : Hid (OwnD 0 (w6.heap.size) 27 6 w6 (.slice none 0 0) (Ex.rows [])) := Lib.hid (OwnD.nil _ _ _ _ _)
    go_simp
    refine ((H.ex f (Nat.lt_succ_self f)) (i + 3) deep _ _ hd hy HP.out.drew).mono ?_
    rintro e wx12 ⟨ay, my, cy, rfl, hf, hp, hm⟩
    have hswx12 : w6.heap.size ≤ wx12.heap.size := hf.size
    replace hf : FarQ q w6 wx12 := (FarQ.of (below_drew _)).trans hf
    replace HBr := qB HBr hf
    replace HBu := qB HBu hf
    replace HF := qF HF hf
    replace HP := Lib.hid hp
    have HMy : Hid (Mem (Nw 0 w6.heap.size _) _ _ _) := Lib.hid hm
    clear hp hm
    simp only [exV]
    go_simp
    refine hK.out _ _ ?_ (fun hS12 => ?_)
    · exact (Far.mono hf (fun b e => .inl e))
    clear hK K

    refine twoL 1 4 rfl rfl (by kernel_rfl) (by rfl) (by rfl) (fun K hK => ?_) (fun K hK => ?_)
    ·
     clear qc rc uc
     clear hI
     have qc := kcP HP
     have rc := kc6 HBr; have uc := kc6 HBu
     have hI := iq_12_0 q w wx12
     go_simp
     refine hK.out _ _ ?_ (fun hS13 => ?_)
     · exact hS12
     clear hK K
     refine callA 4 rfl fun K hK => ?_
     go_simp
     refine hK.out _ _ ?_ (fun hS14 => ?_)
     · exact Far.trans hS13 (Far.of (below_new _ _))
     clear hK K

     refine callA 5 rfl fun K hK => ?_
     refine wp_append_D2 _ _ (by rfl) Try.underlying23 info_ex rfl (by decide) (by rfl) (by rfl) (OwnD.nil 0 (w6.heap.size) 27 6 _) (newRow HOW.out (by omega) (by omega) HMy.out) (by simp only [Ex.rows_len, List.length_cons, List.length_nil]; omega) (by simp only [Ex.rows_len, List.length_cons, List.length_nil]; omega) (by rw [World.size_alloc]; omega) (fun v9 w9 ho hg => ?_)
     obtain ⟨a9, m9, c9, rfl⟩ := ho.form'
     refine hK.out _ _ ?_ (fun hS15 => ?_)
     · exact Far.trans hS14 ((grownFar hg).mono (fun b e => by cases e))
     clear hK K
     have hs9 : wx12.heap.size + 1 ≤ w9.heap.size := by have h := hg.size; rw [World.size_alloc] at h; exact h
     replace HP := rP HP hg rfl
     replace HF := rF HF hg rfl
     replace HBr := rB HBr hg rfl
     replace HBu := rB HBu hg rfl
     have HOz : Hid (OwnD 0 (w6.heap.size) 27 6 w9 (.slice a9 m9 c9) (Ex.rows [y])) := Lib.hid (by rw [show ([y] : List Ex) = [] ++ [y] from rfl, Ex.rows_app]; exact ho)
     clear ho hg HMy HOW
     refine takeA 6 (v := ?_) rfl ?_ ?_
     rotate_left
     · (intro w hSw; (try dsimp only at hSw); go_simp; try with_reducible rfl)
     try simp only [Act.put, pu1, pu2, pu3]
     refine callA 7 rfl fun K hK => ?_
     clear qc rc uc
     clear hI
     have qc := kcP HP
     have rc := kc6 HBr; have uc := kc6 HBu
     have hI := iq_12_0 q w w9
     go_simp
     refine hK.out _ _ ?_ (fun hS16 => ?_)
     · exact Far.setCell hS15 (.inr rfl) _
     clear hK K
     refine wpAnyH_done (by kernel_rfl) ?_ _

     clear qc rc uc
     generalize ee : World.setCell w9 _ _ = w7
     have hsz7 := sizeS1 ee
     replace HP := pO1 HP ee
     replace HF := fN1 HF ee
     replace HBr := bF1 HBr ee
     replace HBu : Hid (Bo w7 (w.heap.size + 2) 27 #[.int .i64 8, .string (nowT ts i).s, .int .i64 0, .slice a9 m9 c9, .int .i64 l, .int .i64 c]) := Lib.hid (by rw [← ee]; exact HBu.out.set 3 (.slice a9 m9 c9))
     replace HOz := oS1 HOz ee
     clear ee
     clear hI
     have qc := kcP HP
     have rc := kc6 HBr; have uc := kc6 HBu
     have hI := iq_12_0 q w w7
     have hZ := iq_12_0 q w w9
     go_wp2_with (fail)
     clear qc rc uc
     generalize ee : World.setCell _ ⟨(w.heap.size + 1), 5, none⟩ _ = w8
     have hsz8 := sizeS6 ee
     replace HP := pO6 HP ee
     replace HF := fN6 HF ee
     replace HBr := bS6 HBr ee
     replace HBu := bF6 HBu ee
     replace HOz := oS6 HOz ee
     clear ee
     clear hI hZ
     cases hr
     have fc := kc6 HBr
     refine bodyPost_ret (v := .agg #[.int .i64 8, .string (nowT ts i).s, .int .i64 0, .slice a9 m9 c9, .int .i64 l, .int .i64 c]) (by clear HP HF HBr HBu HOz; simp [results, Try.results93, go_sem, fc]) rfl ?_
     exact ⟨_, _, _, rfl, HF.out.out, HP.out, memNw HOz.out.mem (by omega)⟩
    ·
     go_simp
     refine hK.out _ _ ?_ (fun hS13 => ?_)
     · exact Far.trans hS12 (Far.of (below_new _ _))
     clear hK K
     clear qc rc uc
     clear hI
     have qc := kcP HP
     have rc := kc6 HBr; have uc := kc6 HBu
     have hI := iq_12_0 q w wx12
     refine callA 1 rfl fun K hK => ?_
     go_simp
     refine hK.out _ _ ?_ (fun hS14 => ?_)
     · exact hS13
     clear hK K
     refine callA 5 rfl fun K hK => ?_
     refine wp_append_D2 _ _ (by rfl) Try.underlying23 info_ex rfl (by decide) (by rfl) (by rfl) (OwnD.nil 0 (w6.heap.size) 27 6 _) (newRow HOW.out (by omega) (by omega) HMy.out) (by simp only [Ex.rows_len, List.length_cons, List.length_nil]; omega) (by simp only [Ex.rows_len, List.length_cons, List.length_nil]; omega) (by rw [World.size_alloc]; omega) (fun v9 w9 ho hg => ?_)
     obtain ⟨a9, m9, c9, rfl⟩ := ho.form'
     refine hK.out _ _ ?_ (fun hS15 => ?_)
     · exact Far.trans hS14 ((grownFar hg).mono (fun b e => by cases e))
     clear hK K
     have hs9 : wx12.heap.size + 1 ≤ w9.heap.size := by have h := hg.size; rw [World.size_alloc] at h; exact h
     replace HP := rP HP hg rfl
     replace HF := rF HF hg rfl
     replace HBr := rB HBr hg rfl
     replace HBu := rB HBu hg rfl
     have HOz : Hid (OwnD 0 (w6.heap.size) 27 6 w9 (.slice a9 m9 c9) (Ex.rows [y])) := Lib.hid (by rw [show ([y] : List Ex) = [] ++ [y] from rfl, Ex.rows_app]; exact ho)
     clear ho hg HMy HOW
     refine takeA 6 (v := ?_) rfl ?_ ?_
     rotate_left
     · (intro w hSw; (try dsimp only at hSw); go_simp; try with_reducible rfl)
     try simp only [Act.put, pu1, pu2, pu3]
     refine callA 7 rfl fun K hK => ?_
     clear qc rc uc
     clear hI
     have qc := kcP HP
     have rc := kc6 HBr; have uc := kc6 HBu
     have hI := iq_12_0 q w w9
     go_simp
     refine hK.out _ _ ?_ (fun hS16 => ?_)
     · exact Far.setCell hS15 (.inr rfl) _
     clear hK K
     refine wpAnyH_done (by kernel_rfl) ?_ _

     clear qc rc uc
     generalize ee : World.setCell w9 _ _ = w7
     have hsz7 := sizeS1 ee
     replace HP := pO1 HP ee
     replace HF := fN1 HF ee
     replace HBr := bF1 HBr ee
     replace HBu : Hid (Bo w7 (w.heap.size + 2) 27 #[.int .i64 8, .string (nowT ts i).s, .int .i64 0, .slice a9 m9 c9, .int .i64 l, .int .i64 c]) := Lib.hid (by rw [← ee]; exact HBu.out.set 3 (.slice a9 m9 c9))
     replace HOz := oS1 HOz ee
     clear ee
     clear hI
     have qc := kcP HP
     have rc := kc6 HBr; have uc := kc6 HBu
     have hI := iq_12_0 q w w7
     have hZ := iq_12_0 q w w9
     go_wp2_with (fail)
     clear qc rc uc
     generalize ee : World.setCell _ ⟨(w.heap.size + 1), 5, none⟩ _ = w8
     have hsz8 := sizeS6 ee
     replace HP := pO6 HP ee
     replace HF := fN6 HF ee
     replace HBr := bS6 HBr ee
     replace HBu := bF6 HBu ee
     replace HOz := oS6 HOz ee
     clear ee
     clear hI hZ
     cases hr
     have fc := kc6 HBr
     refine bodyPost_ret (v := .agg #[.int .i64 8, .string (nowT ts i).s, .int .i64 0, .slice a9 m9 c9, .int .i64 l, .int .i64 c]) (by clear HP HF HBr HBu HOz; simp [results, Try.results93, go_sem, fc]) rfl ?_
     exact ⟨_, _, _, rfl, HF.out.out, HP.out, memNw HOz.out.mem (by omega)⟩
  simp only [hfr, Bool.false_eq_true, if_false] at hr
  clear qc rc uc
  refine (is_any 5 wFree _ HP.out).mono ?_
  rintro _ w4 ⟨rfl, hb⟩
  have hf := FarQ.of (q := q) hb
  replace HBr := qB HBr hf
  replace HBu := qB HBu hf
  replace HF := qF HF hf
  have hs4 := hf.size
  replace HP := kP HP hb
  clear hf hb
  rw [hfr]
  clear hI hZ
  have qc := kcP HP
  have rc := kc6 HBr; have uc := kc6 HBu
  have hI := iq_12_0 q w w4
  go_wp2_with (fail)
  rcases heq : isT ts (i + 1) 6 wEq
  ·
   first | simp only [heq, Bool.false_eq_true, if_false] at hr | simp only [takeT, heq, Bool.false_eq_true, if_false] at hr
   cases hr
   clear qc rc uc
   refine (take_bad 6 wEq _ HP.out heq).mono ?_
   rintro _ w5 ⟨rfl, hb⟩
   have hf := FarQ.of (q := q) hb
   have hbo := (HP.out.keep hb).any
   go_wp2_with (fail)
   exact ⟨rfl, rfl, FarB.out (HF.out.farq hf), hbo⟩
  first | simp only [heq, if_true] at hr | simp only [takeT, heq, if_true] at hr
  clear qc rc uc
  refine (take_ok 6 wEq _ HP.out heq (by decide)).mono ?_
  rintro _ w5 ⟨rfl, hf, hp⟩
  replace HBr := qB HBr hf
  replace HBu := qB HBu hf
  replace HF := qF HF hf
  have hs5 := hf.size
  replace HP := Lib.hid hp
  clear hf hp
  clear hI
  have qc := kcP HP
  have rc := kc6 HBr; have uc := kc6 HBu
  have hI := iq_12_0 q w w5
  go_wp2_with (fail)
  rcases hx : readE ts f .expr (i + 2) deep with _ | ⟨x, j⟩ | ⟨l_, c_⟩
  · (rw [hx] at hr; cases hr)
  rotate_left
  ·
   rw [hx] at hr
   first | simp only at hr | simp only [andT] at hr
   cases hr
   clear qc rc uc
   refine ((H.ex f (Nat.lt_succ_self f)) (i + 2) deep _ _ hd hx HP.out).mono ?_
   rintro _ w6 ⟨rfl, hf, hbo⟩
   go_wp2_with (fail)
   exact ⟨rfl, rfl, FarB.out (HF.out.farq hf), hbo⟩
  rw [hx] at hr
  first | simp only at hr | simp only [andT] at hr
  clear qc rc uc
  refine ((H.ex f (Nat.lt_succ_self f)) (i + 2) deep _ _ hd hx HP.out).mono ?_
  rintro _ w6 ⟨ax, mx, cx, rfl, hf, hp, hm⟩
  replace HBr := qB HBr hf
  replace HBu := qB HBu hf
  replace HF := qF HF hf
  have hs6 := hf.size
  replace HP := Lib.hid hp
  have HMx := Lib.hid hm
  clear hf hp hm
  simp only [exV]
  clear hI
  have qc := kcP HP
  have rc := kc6 HBr; have uc := kc6 HBu
  have hI := iq_12_0 q w w6
  go_wp2_with (fail)
  clear qc rc uc
  generalize ee : World.setCell w6 _ _ = w7_1
  have hq1 := sizeS1 ee
  replace HP := pO1 HP ee
  replace HF := fN1 HF ee
  replace HBr := bF1 HBr ee
  replace HBu : Hid (Bo w7_1 (w.heap.size + 2) 27 #[.int .i64 7, .string (nowT ts i).s, .int .i64 0, .slice none 0 0, .int .i64 l, .int .i64 c]) := Lib.hid (by rw [← ee]; exact HBu.out.set 0 (.int .i64 7))
  replace HMx := mS1 HMx ee
  clear ee
  generalize ee : World.setCell w7_1 _ _ = w7_2
  have hq2 := sizeS1 ee
  replace HP := pO1 HP ee
  replace HF := fN1 HF ee
  replace HBr := bF1 HBr ee
  replace HBu : Hid (Bo w7_2 (w.heap.size + 2) 27 #[.int .i64 7, .string (nowT ts i).s, .int .i64 0, .slice (some ⟨w6.heap.size, 0, none⟩) 1 1, .int .i64 l, .int .i64 c]) := Lib.hid (by rw [← ee]; exact HBu.out.set 3 (.slice (some ⟨w6.heap.size, 0, none⟩) 1 1))
  replace HMx := mS1 HMx ee
  clear ee
  generalize ee : World.alloc w7_2 _ = w7
  have hq3 := sizeA ee
  have HNEW := Lib.hid (builtE1E (base := w5.heap.size) (memNw HMx.out (by omega)) ee (b := w6.heap.size) (by omega) (by omega))
  replace HP := pA HP ee
  replace HF := fA HF ee
  replace HBr := bA HBr ee
  replace HBu := bA HBu ee
  replace HMx := mA HMx ee
  have HOs := HNEW
  clear HNEW
  clear ee
  have hsa7 : w7.heap.size = w6.heap.size + 1 := by omega
  clear hq1 hq2 hq3
  clear hI
  have qc := kcP HP
  have rc := kc6 HBr; have uc := kc6 HBu
  have hI := iq_12_0 q w w7
  have hZ := iq_12_1 q w w6
  rcases hin : isT ts j 5 wIn
  ·
   first | simp only [hin, Bool.false_eq_true, if_false] at hr | simp only [takeT, hin, Bool.false_eq_true, if_false] at hr
   cases hr
   clear qc rc uc
   refine (take_bad 5 wIn _ HP.out hin).mono ?_
   rintro _ w8 ⟨rfl, hb⟩
   have hf := FarQ.of (q := q) hb
   have hbo := (HP.out.keep hb).any
   go_wp2_with (fail)
   exact ⟨rfl, rfl, FarB.out (HF.out.farq hf), hbo⟩
  first | simp only [hin, if_true] at hr | simp only [takeT, hin, if_true] at hr
  clear qc rc uc
  refine (take_ok 5 wIn _ HP.out hin (by decide)).mono ?_
  rintro _ w8 ⟨rfl, hf, hp⟩
  replace HBr := qB HBr hf
  replace HBu := qB HBu hf
  replace HMx := qM HMx hf
  replace HOs := qO HOs hf
  replace HF := qF HF hf
  have hs8 := hf.size
  replace HP := Lib.hid hp
  clear hf hp
  clear hI hZ
  have qc := kcP HP
  have rc := kc6 HBr; have uc := kc6 HBu
  have hI := iq_12_0 q w w8
  go_wp2_with (fail)
  refine wp_region_held_drew (S := fun w' => Far (fun b => b = q ∨ b = (w.heap.size + 2) ∨ b = w6.heap.size) (w8) w') (by kernel_rfl) (Far.of (below_drew _)) (fun hS10 => ?_)
  refine takeA 0 (v := ?_) rfl ?_ ?_
  rotate_left
  · (intro w hSw; (try dsimp only at hSw); go_simp; try with_reducible rfl)
  try simp only [Act.put, pu1, pu2, pu3]
  refine takeA 2 (v := ?_) rfl ?_ ?_
  rotate_left
  · (intro w hSw; (try dsimp only at hSw); go_simp; try with_reducible rfl)
  try simp only [Act.put, pu1, pu2, pu3]

  rcases hy : readE ts f .expr (j + 1) deep with _ | ⟨y, k⟩ | ⟨l_, c_⟩
  · (rw [hy] at hr; cases hr)
  rotate_left
  ·
   rw [hy] at hr
   first | simp only at hr | simp only [andT] at hr
   cases hr
   refine twoL 1 3 rfl rfl (by kernel_rfl) (by rfl) (by rfl) (fun K hK => ?_) (fun K hK => ?_)
   ·
    go_simp
    refine hK.out _ _ ?_ (fun hS11 => ?_)
    · exact hS10
    clear hK K
    refine callA 3 rfl fun K hK => ?_
    go_simp
    refine ((H.ex f (Nat.lt_succ_self f)) (j + 1) deep _ _ hd hy HP.out.drew).mono ?_
    rintro e wx19 ⟨rfl, hf, hbo⟩
    go_wp2_with (fail)
    exact ⟨rfl, rfl, FarB.out (HF.out.drew.farq hf), hbo⟩
   ·
    go_simp
    refine ((H.ex f (Nat.lt_succ_self f)) (j + 1) deep _ _ hd hy HP.out.drew).mono ?_
    rintro e wx19 ⟨rfl, hf, hbo⟩
    go_wp2_with (fail)
    exact ⟨rfl, rfl, FarB.out (HF.out.drew.farq hf), hbo⟩
  rw [hy] at hr
  first | simp only at hr | simp only [andT] at hr
  refine twoL 1 3 rfl rfl (by kernel_rfl) (by rfl) (by rfl) (fun K hK => ?_) (fun K hK => ?_)
  ·
   go_simp
   refine hK.out _ _ ?_ (fun hS11 => ?_)
   · exact hS10
   clear hK K
   refine callA 3 rfl fun K hK => ?_
   have HOW : Hid (OwnD 0 (w5.heap.size) 27 6 w8 (.slice (some ⟨w6.heap.size, 0, none⟩) 1 1) (Ex.rows [x])) := HOs
   go_simp
   refine ((H.ex f (Nat.lt_succ_self f)) (j + 1) deep _ _ hd hy HP.out.drew).mono ?_
   rintro e wx12 ⟨ay, my, cy, rfl, hf, hp, hm⟩
   have hswx12 : w8.heap.size ≤ wx12.heap.size := hf.size
   replace hf : FarQ q w8 wx12 := (FarQ.of (below_drew _)).trans hf
   replace HBr := qB HBr hf
   replace HBu := qB HBu hf
   replace HMx := qM HMx hf
   replace HOs := qO HOs hf
   replace HF := qF HF hf
   replace HP := Lib.hid hp
   have HMy : Hid (Mem (Nw 0 w8.heap.size _) _ _ _) := Lib.hid hm
   clear hp hm
   simp only [exV]
   go_simp
   refine hK.out _ _ ?_ (fun hS12 => ?_)
   · exact (Far.mono hf (fun b e => .inl e))
   clear hK K

   refine callA 4 rfl fun K hK => ?_
   go_simp
   refine hK.out _ _ ?_ (fun hS13 => ?_)
   · exact Far.trans hS12 (Far.of (below_new _ _))
   clear hK K

   refine callA 5 rfl fun K hK => ?_
   refine wp_append_D2 _ _ (by rfl) Try.underlying23 info_ex rfl (by decide) (by rfl) (by rfl) (HOs.out.alloc _) (newRow HOW.out (by omega) (by omega) HMy.out) (by simp only [Ex.rows_len, List.length_cons, List.length_nil]; omega) (by simp only [Ex.rows_len, List.length_cons, List.length_nil]; omega) (by rw [World.size_alloc]; omega) (fun v9 w9 ho hg => ?_)
   obtain ⟨a9, m9, c9, rfl⟩ := ho.form'
   refine hK.out _ _ ?_ (fun hS14 => ?_)
   · exact Far.trans hS13 ((grownFar hg).mono (fun b e => .inr (.inr (by have e : some (w6.heap.size) = some b := e; cases e; rfl))))
   clear hK K
   have hs9 : wx12.heap.size + 1 ≤ w9.heap.size := by have h := hg.size; rw [World.size_alloc] at h; exact h
   replace HP := gP w6.heap.size HP hg rfl
   replace HF := gF w6.heap.size HF hg rfl
   replace HBr := gB w6.heap.size HBr hg rfl
   replace HBu := gB w6.heap.size HBu hg rfl
   have HOz : Hid (OwnD 0 (w5.heap.size) 27 6 w9 (.slice a9 m9 c9) (Ex.rows [x, y])) := Lib.hid (by rw [show ([x, y] : List Ex) = [x] ++ [y] from rfl, Ex.rows_app]; exact ho)
   clear ho hg HMy HOW HOs
   refine takeA 6 (v := ?_) rfl ?_ ?_
   rotate_left
   · (intro w hSw; (try dsimp only at hSw); go_simp; try with_reducible rfl)
   try simp only [Act.put, pu1, pu2, pu3]
   refine callA 7 rfl fun K hK => ?_
   clear qc rc uc
   clear hI
   have qc := kcP HP
   have rc := kc6 HBr; have uc := kc6 HBu
   have hI := iq_12_0 q w w9
   go_simp
   refine hK.out _ _ ?_ (fun hS15 => ?_)
   · exact Far.setCell hS14 (.inr (.inl rfl)) _
   clear hK K
   refine wpAnyH_done (by kernel_rfl) ?_ _

   clear qc rc uc
   generalize ee : World.setCell w9 _ _ = w10
   have hsz10 := sizeS1 ee
   replace HP := pO1 HP ee
   replace HF := fN1 HF ee
   replace HBr := bF1 HBr ee
   replace HBu : Hid (Bo w10 (w.heap.size + 2) 27 #[.int .i64 7, .string (nowT ts i).s, .int .i64 0, .slice a9 m9 c9, .int .i64 l, .int .i64 c]) := Lib.hid (by rw [← ee]; exact HBu.out.set 3 (.slice a9 m9 c9))
   replace HOz := oS1 HOz ee
   clear ee
   clear hI
   have qc := kcP HP
   have rc := kc6 HBr; have uc := kc6 HBu
   have hI := iq_12_0 q w w10
   have hZ := iq_12_0 q w w9
   go_wp2_with (fail)
   clear qc rc uc
   generalize ee : World.setCell _ ⟨(w.heap.size + 1), 5, none⟩ _ = w11
   have hsz11 := sizeS6 ee
   replace HP := pO6 HP ee
   replace HF := fN6 HF ee
   replace HBr := bS6 HBr ee
   replace HBu := bF6 HBu ee
   replace HOz := oS6 HOz ee
   clear ee
   clear hI hZ
   cases hr
   have fc := kc6 HBr
   refine bodyPost_ret (v := .agg #[.int .i64 7, .string (nowT ts i).s, .int .i64 0, .slice a9 m9 c9, .int .i64 l, .int .i64 c]) (by clear HP HF HBr HBu HOz; simp [results, Try.results93, go_sem, fc]) rfl ?_
   exact ⟨_, _, _, rfl, HF.out.out, HP.out, memNw HOz.out.mem (by omega)⟩
  ·
   have HOW : Hid (OwnD 0 (w5.heap.size) 27 6 w8 (.slice (some ⟨w6.heap.size, 0, none⟩) 1 1) (Ex.rows [x])) := HOs
   go_simp
   refine ((H.ex f (Nat.lt_succ_self f)) (j + 1) deep _ _ hd hy HP.out.drew).mono ?_
   rintro e wx12 ⟨ay, my, cy, rfl, hf, hp, hm⟩
   have hswx12 : w8.heap.size ≤ wx12.heap.size := hf.size
   replace hf : FarQ q w8 wx12 := (FarQ.of (below_drew _)).trans hf
   replace HBr := qB HBr hf
   replace HBu := qB HBu hf
   replace HMx := qM HMx hf
   replace HOs := qO HOs hf
   replace HF := qF HF hf
   replace HP := Lib.hid hp
   have HMy : Hid (Mem (Nw 0 w8.heap.size _) _ _ _) := Lib.hid hm
   clear hp hm
   simp only [exV]
   go_simp
   refine hK.out _ _ ?_ (fun hS12 => ?_)
   · exact (Far.mono hf (fun b e => .inl e))
   clear hK K

   refine twoL 1 4 rfl rfl (by kernel_rfl) (by rfl) (by rfl) (fun K hK => ?_) (fun K hK => ?_)
   ·
    clear qc rc uc
    clear hI
    have qc := kcP HP
    have rc := kc6 HBr; have uc := kc6 HBu
    have hI := iq_12_0 q w wx12
    go_simp
    refine hK.out _ _ ?_ (fun hS13 => ?_)
    · exact hS12
    clear hK K
    refine callA 4 rfl fun K hK => ?_
    go_simp
    refine hK.out _ _ ?_ (fun hS14 => ?_)
    · exact Far.trans hS13 (Far.of (below_new _ _))
    clear hK K

    refine callA 5 rfl fun K hK => ?_
    refine wp_append_D2 _ _ (by rfl) Try.underlying23 info_ex rfl (by decide) (by rfl) (by rfl) (HOs.out.alloc _) (newRow HOW.out (by omega) (by omega) HMy.out) (by simp only [Ex.rows_len, List.length_cons, List.length_nil]; omega) (by simp only [Ex.rows_len, List.length_cons, List.length_nil]; omega) (by rw [World.size_alloc]; omega) (fun v9 w9 ho hg => ?_)
    obtain ⟨a9, m9, c9, rfl⟩ := ho.form'
    refine hK.out _ _ ?_ (fun hS15 => ?_)
    · exact Far.trans hS14 ((grownFar hg).mono (fun b e => .inr (.inr (by have e : some (w6.heap.size) = some b := e; cases e; rfl))))
    clear hK K
    have hs9 : wx12.heap.size + 1 ≤ w9.heap.size := by have h := hg.size; rw [World.size_alloc] at h; exact h
    replace HP := gP w6.heap.size HP hg rfl
    replace HF := gF w6.heap.size HF hg rfl
    replace HBr := gB w6.heap.size HBr hg rfl
    replace HBu := gB w6.heap.size HBu hg rfl
    have HOz : Hid (OwnD 0 (w5.heap.size) 27 6 w9 (.slice a9 m9 c9) (Ex.rows [x, y])) := Lib.hid (by rw [show ([x, y] : List Ex) = [x] ++ [y] from rfl, Ex.rows_app]; exact ho)
    clear ho hg HMy HOW HOs
    refine takeA 6 (v := ?_) rfl ?_ ?_
    rotate_left
    · (intro w hSw; (try dsimp only at hSw); go_simp; try with_reducible rfl)
    try simp only [Act.put, pu1, pu2, pu3]
    refine callA 7 rfl fun K hK => ?_
    clear qc rc uc
    clear hI
    have qc := kcP HP
    have rc := kc6 HBr; have uc := kc6 HBu
    have hI := iq_12_0 q w w9
    go_simp
    refine hK.out _ _ ?_ (fun hS16 => ?_)
    · exact Far.setCell hS15 (.inr (.inl rfl)) _
    clear hK K
    refine wpAnyH_done (by kernel_rfl) ?_ _

    clear qc rc uc
    generalize ee : World.setCell w9 _ _ = w10
    have hsz10 := sizeS1 ee
    replace HP := pO1 HP ee
    replace HF := fN1 HF ee
    replace HBr := bF1 HBr ee
    replace HBu : Hid (Bo w10 (w.heap.size + 2) 27 #[.int .i64 7, .string (nowT ts i).s, .int .i64 0, .slice a9 m9 c9, .int .i64 l, .int .i64 c]) := Lib.hid (by rw [← ee]; exact HBu.out.set 3 (.slice a9 m9 c9))
    replace HOz := oS1 HOz ee
    clear ee
    clear hI
    have qc := kcP HP
    have rc := kc6 HBr; have uc := kc6 HBu
    have hI := iq_12_0 q w w10
    have hZ := iq_12_0 q w w9
    go_wp2_with (fail)
    clear qc rc uc
    generalize ee : World.setCell _ ⟨(w.heap.size + 1), 5, none⟩ _ = w11
    have hsz11 := sizeS6 ee
    replace HP := pO6 HP ee
    replace HF := fN6 HF ee
    replace HBr := bS6 HBr ee
    replace HBu := bF6 HBu ee
    replace HOz := oS6 HOz ee
    clear ee
    clear hI hZ
    cases hr
    have fc := kc6 HBr
    refine bodyPost_ret (v := .agg #[.int .i64 7, .string (nowT ts i).s, .int .i64 0, .slice a9 m9 c9, .int .i64 l, .int .i64 c]) (by clear HP HF HBr HBu HOz; simp [results, Try.results93, go_sem, fc]) rfl ?_
    exact ⟨_, _, _, rfl, HF.out.out, HP.out, memNw HOz.out.mem (by omega)⟩
   ·
    go_simp
    refine hK.out _ _ ?_ (fun hS13 => ?_)
    · exact Far.trans hS12 (Far.of (below_new _ _))
    clear hK K
    clear qc rc uc
    clear hI
    have qc := kcP HP
    have rc := kc6 HBr; have uc := kc6 HBu
    have hI := iq_12_0 q w wx12
    refine callA 1 rfl fun K hK => ?_
    go_simp
    refine hK.out _ _ ?_ (fun hS14 => ?_)
    · exact hS13
    clear hK K
    refine callA 5 rfl fun K hK => ?_
    refine wp_append_D2 _ _ (by rfl) Try.underlying23 info_ex rfl (by decide) (by rfl) (by rfl) (HOs.out.alloc _) (newRow HOW.out (by omega) (by omega) HMy.out) (by simp only [Ex.rows_len, List.length_cons, List.length_nil]; omega) (by simp only [Ex.rows_len, List.length_cons, List.length_nil]; omega) (by rw [World.size_alloc]; omega) (fun v9 w9 ho hg => ?_)
    obtain ⟨a9, m9, c9, rfl⟩ := ho.form'
    refine hK.out _ _ ?_ (fun hS15 => ?_)
    · exact Far.trans hS14 ((grownFar hg).mono (fun b e => .inr (.inr (by have e : some (w6.heap.size) = some b := e; cases e; rfl))))
    clear hK K
    have hs9 : wx12.heap.size + 1 ≤ w9.heap.size := by have h := hg.size; rw [World.size_alloc] at h; exact h
    replace HP := gP w6.heap.size HP hg rfl
    replace HF := gF w6.heap.size HF hg rfl
    replace HBr := gB w6.heap.size HBr hg rfl
    replace HBu := gB w6.heap.size HBu hg rfl
    have HOz : Hid (OwnD 0 (w5.heap.size) 27 6 w9 (.slice a9 m9 c9) (Ex.rows [x, y])) := Lib.hid (by rw [show ([x, y] : List Ex) = [x] ++ [y] from rfl, Ex.rows_app]; exact ho)
    clear ho hg HMy HOW HOs
    refine takeA 6 (v := ?_) rfl ?_ ?_
    rotate_left
    · (intro w hSw; (try dsimp only at hSw); go_simp; try with_reducible rfl)
    try simp only [Act.put, pu1, pu2, pu3]
    refine callA 7 rfl fun K hK => ?_
    clear qc rc uc
    clear hI
    have qc := kcP HP
    have rc := kc6 HBr; have uc := kc6 HBu
    have hI := iq_12_0 q w w9
    go_simp
    refine hK.out _ _ ?_ (fun hS16 => ?_)
    · exact Far.setCell hS15 (.inr (.inl rfl)) _
    clear hK K
    refine wpAnyH_done (by kernel_rfl) ?_ _

    clear qc rc uc
    generalize ee : World.setCell w9 _ _ = w10
    have hsz10 := sizeS1 ee
    replace HP := pO1 HP ee
    replace HF := fN1 HF ee
    replace HBr := bF1 HBr ee
    replace HBu : Hid (Bo w10 (w.heap.size + 2) 27 #[.int .i64 7, .string (nowT ts i).s, .int .i64 0, .slice a9 m9 c9, .int .i64 l, .int .i64 c]) := Lib.hid (by rw [← ee]; exact HBu.out.set 3 (.slice a9 m9 c9))
    replace HOz := oS1 HOz ee
    clear ee
    clear hI
    have qc := kcP HP
    have rc := kc6 HBr; have uc := kc6 HBu
    have hI := iq_12_0 q w w10
    have hZ := iq_12_0 q w w9
    go_wp2_with (fail)
    clear qc rc uc
    generalize ee : World.setCell _ ⟨(w.heap.size + 1), 5, none⟩ _ = w11
    have hsz11 := sizeS6 ee
    replace HP := pO6 HP ee
    replace HF := fN6 HF ee
    replace HBr := bS6 HBr ee
    replace HBu := bF6 HBu ee
    replace HOz := oS6 HOz ee
    clear ee
    clear hI hZ
    cases hr
    have fc := kc6 HBr
    refine bodyPost_ret (v := .agg #[.int .i64 7, .string (nowT ts i).s, .int .i64 0, .slice a9 m9 c9, .int .i64 l, .int .i64 c]) (by clear HP HF HBr HBu HOz; simp [results, Try.results93, go_sem, fc]) rfl ?_
    exact ⟨_, _, _, rfl, HF.out.out, HP.out, memNw HOz.out.mem (by omega)⟩
end
end Go.Proofs.Ytcoiagfeoonpbaa

/-
  A reading function that comes up again at its end, as a deferred call, however it ends. Plain lemmas; the deferred call by its contract. No condition.
-/
namespace Go.Proofs.Ytcoiagfeoonpbaa
open Go.RowKit
def upD (q : Nat) : Deferred := { target := .fn (.func 92) #[], args := #[.pointer (some ⟨q, 0, none⟩)] }
section
variable (ts : List Tk) (aL : Option Addr) (n cap q : Nat)
def DoorBad (r : Rd1) (W : World) (chain : List PanicEntry) (ds : List Deferred) (w' : World) : Prop :=
  ∃ l c, r = .bad l c ∧ chain = faultV l c ∧ (ds = [] ∨ ds = [upD q]) ∧ FarQ q W w' ∧ ∃ i' d' : Int, Bo w' q 143 #[.slice aL n cap, .int .i64 i', .int .i64 d']
def doorQ (fn : Func) (r : Rd1) (deep : Nat) (W : World) (e : Exit) (a : Act) (w' : World) : Prop :=
  match e with
  | .panic chain => DoorBad aL n cap q r W chain a.defers w'
  | e => bodyPostD Try.prog fn (Ans ts aL n cap q r deep W) e a w'
end
section
variable {ts : List Tk} {aL : Option Addr} {n cap q : Nat}
theorem doorQ_mono (fn : Func) (r : Rd1) (deep : Nat) (W : World) (e : Exit) (a : Act) (w' : World) (h : doorQ ts aL n cap q fn r deep W e a w') : bodyPostD Try.prog fn (Ans ts aL n cap q r deep W) e a w' := by
  cases e with
  | panic chain =>
    obtain ⟨l, c, rfl, rfl, hd, hf, i', d', hb⟩ := h
    show Leaves Try.prog fn a.tmps _ a.defers (.panicking (faultV l c)) w'
    rcases hd with hd | hd
    · rw [hd]
      exact ⟨rfl, hf, i', d', hb⟩
    · rw [hd]
      refine leaves_cons (f := 92) (args := #[.pointer (some ⟨q, 0, none⟩)]) (by simp) (by simp [go_sem]) ?_
      refine (up_any _ w' hb).mono ?_
      rintro e u' w'' ⟨rfl, rfl, rfl⟩
      exact ⟨rfl, hf.trans (FarQ.set _ _ _), i', _, hb.set 2 _⟩
  | _ => exact h
theorem door_plain {fn : Func} {r : Rd1} {deep : Nat} {W : World} {tmps : Array Value} {w' : World} (h : ∃ v, (results fn tmps).run Try.prog w' = .ok v w' ∧ Ans ts aL n cap q r deep W (.returned v) w') :
    doorQ ts aL n cap q fn r deep W .ret { tmps := tmps, defers := [] } w' := h
theorem door_up {fn : Func} {r : Rd1} {deep : Nat} {W : World} {tmps : Array Value} {w' : World} {i' d' : Int} (hb : Bo w' q 143 #[.slice aL n cap, .int .i64 i', .int .i64 d'])
    (h : ∃ v, (results fn tmps).run Try.prog (w'.setCell ⟨q, 2, none⟩ (.int .i64 (wrap64 (d' - 1)))) = .ok v (w'.setCell ⟨q, 2, none⟩ (.int .i64 (wrap64 (d' - 1)))) ∧ Ans ts aL n cap q r deep W (.returned v) (w'.setCell ⟨q, 2, none⟩ (.int .i64 (wrap64 (d' - 1))))) :
    doorQ ts aL n cap q fn r deep W .ret { tmps := tmps, defers := [upD q] } w' := by
  show Leaves Try.prog fn tmps _ [upD q] .returning w'
  refine leaves_cons (f := 92) (args := #[.pointer (some ⟨q, 0, none⟩)]) (by simp) (by simp [go_sem]) ?_
  refine (up_any _ w' hb).mono ?_
  rintro e u' w'' ⟨rfl, rfl, rfl⟩
  exact h
theorem wrap_up {deep : Nat} (h : deep ≤ 40) : wrap64 (((deep + 1 : Nat) : Int) - 1) = (deep : Int) := by
  have e : ((deep + 1 : Nat) : Int) - 1 = (deep : Int) := by omega
  rw [e]
  unfold wrap64; omega
end
end Go.Proofs.Ytcoiagfeoonpbaa
