/-
  The module reader's part: an expression or a pattern, by the parser. No condition but how the reader and the tokens lie.
-/
import Derived.Test.YtcoiagfeoonpbaaSt30
import Derived.Test.YtcoiagfeoonpbaaSt18
import Derived.Test.YtcoiagfeoonpbaaSt21
import Derived.StillTailTactics
namespace Go.Proofs.Ytcoiagfeoonpbaa
open Go.RowKit
def PAns (ts : List Tk) (aL : Option Addr) (n cap q : Nat) (x : Ex) (s' : MS) (W : World) (e : Ending) (w' : World) : Prop :=
  ∃ a m c, e = .returned (exV x a m c) ∧ FarQ q W w' ∧ RS ts aL n cap q s' ((0 : Nat) : Int) w' ∧ Mem (Nw 0 W.heap.size w'.heap.size) w' (.s 6 (Ex.rows x.args)) (.slice a m c)
theorem threeL {P : Program} {md : Region.Mode} {Q : Exit → Act → World → Prop} {S : World → Prop} {l : List Oper} (i j k : Nat) {oi oj ok : Oper} {fuel : Nat} {listed : Array Bool} {a : Act} {w : World} (hi : l[i]? = some oi) (hj : l[j]? = some oj) (hk : l[k]? = some ok) (hr : Region.ready md l.toArray listed = [i, j, k]) (hwi : Region.wanted oi (yielded l.toArray a.tmps) = true) (hwj : Region.wanted oj (yielded l.toArray a.tmps) = true) (hwk : Region.wanted ok (yielded l.toArray a.tmps) = true)
    (h1 : ∀ K' : Act → World → Prop, Shut (∀ a w, S w → (S w → wpAnyH P md l.toArray Q S fuel (listed.setIfInBounds i true) a w) → K' a w) → Oper.wp P oi a w K' Q)
    (h2 : ∀ K' : Act → World → Prop, Shut (∀ a w, S w → (S w → wpAnyH P md l.toArray Q S fuel (listed.setIfInBounds j true) a w) → K' a w) → Oper.wp P oj a w K' Q)
    (h3 : ∀ K' : Act → World → Prop, Shut (∀ a w, S w → (S w → wpAnyH P md l.toArray Q S fuel (listed.setIfInBounds k true) a w) → K' a w) → Oper.wp P ok a w K' Q) : wpAnyH P md l.toArray Q S (fuel + 1) listed a w :=
  wpAnyH_ready hr (by simp) (AllReadyH.cons (by simpa using hi) (fun K' hK => by rw [if_pos hwi]; exact h1 K' hK) (AllReadyH.cons (by simpa using hj) (fun K' hK => by rw [if_pos hwj]; exact h2 K' hK) (AllReadyH.cons (by simpa using hk) (fun K' hK => by rw [if_pos hwk]; exact h3 K' hK) AllReadyH.nil)))
theorem noEx_mem {base : Nat} {w : World} : Mem (Nw 0 base w.heap.size) w (.s 6 (Ex.rows noEx.args)) (.slice none 0 0) := by
  show Mem _ _ (.s 6 (Ex.rows [])) _
  rw [Ex.rows_eq]
  exact .e none 0 6 (by decide)
theorem RS.fault {ts : List Tk} {aL : Option Addr} {n cap q : Nat} {s : MS} {d l c : Int} {w : World} (h : RS ts aL n cap q s d w) : RS ts aL n cap q ⟨s.i, some (l, c)⟩ d (((w.setCell ⟨q, 3, none⟩ (.int .i64 1)).setCell ⟨q, 4, none⟩ (.int .i64 l)).setCell ⟨q, 5, none⟩ (.int .i64 c)) :=
  h.of ((FarQ.set _ _ _).trans ((FarQ.set _ _ _).trans (FarQ.set _ _ _))) (((h.bo.set 3 _).set 4 _).set 5 _)
end Go.Proofs.Ytcoiagfeoonpbaa

/-
  The module reader's part, the good texts. No condition but how the reader and the tokens lie.
-/
namespace Go.Proofs.Ytcoiagfeoonpbaa
open Go.RowKit
section
variable {ts : List Tk} {aL : Option Addr} {n cap q : Nat}
set_option maxRecDepth 100000 in
set_option maxHeartbeats 20000000 in
theorem mpart_yes {F : Nat} {nt : Nt} {fn : FuncId} (hE : ∀ args w, Sem.run Try.prog (callFunc fn args) w = .ok (.enter fn args) w)
  (HC : ∀ (i : Nat) (r : Rd1) (w : World), MemW w (.s 5 (tkRows ts)) (.slice aL n cap) → n ≤ 1048576 → readE ts F nt i 0 = some r → Calls Try.prog fn #[.slice aL n cap, .int .i64 (i : Int)] w (RunAns r w))
  {s s' : MS} {x : Ex} (w : World) (hr : partM ts F nt s = some (x, s')) (hp : RS ts aL n cap q s ((0 : Nat) : Int) w) (hne : s.ok = true → ∀ l c, readE ts F nt s.i 0 ≠ some (.bad l c)) :
  Calls Try.prog 76 #[.pointer (some ⟨q, 0, none⟩), .func (.func fn) #[] #[]] w (PAns ts aL n cap q x s' w) := by
 have HP := Lib.hid hp
 have hq0 := hp.lt
 have HF := Lib.hid (FarB.refl q w.heap.size w)
 clear hp
 unfold partM at hr
 go_enter Try.func76, Try.ntmps76
 go_upto_region 1 with (fail)
 generalize ee : World.alloc w _ = w1
 have hsa1 := sizeA ee
 replace HP := rpA HP ee
 replace HF := fA HF ee
 have HBr := nB ee (w.heap.size)
 clear ee
 have qc := kcR HP
 have rc := kc6 HBr
 have hI := iq_0_0 q w w1
 have hZ := iq_01 q w
 go_wp2_with (fail)
 refine (mok_any _ HP.out).mono ?_
 rintro _ _ ⟨rfl, rfl⟩
 by_cases hok : s.ok = false
 ·
  rw [if_pos hok] at hr
  cases hr
  rw [hok]
  go_wp2_with (fail)
  clear qc rc
  generalize ee : World.setCell _ ⟨w.heap.size, 5, none⟩ _ = w2
  have hsz2 := sizeS6 ee
  replace HP := rpO6 HP ee
  replace HF := fN6 HF ee
  replace HBr := bS6 HBr ee
  clear ee
  clear hI hZ
  have fc := kc6 HBr
  refine bodyPost_ret (v := .agg #[.int .i64 0, .string ⟨#[]⟩, .int .i64 0, .slice none 0 0, .int .i64 0, .int .i64 0]) (by clear HP HF HBr; simp [results, Try.results76, go_sem, fc]) rfl ?_
  exact ⟨_, _, _, rfl, HF.out.out, HP.out, noEx_mem⟩
 rw [if_neg hok] at hr
 have hok1 : s.ok = true := by simpa using hok
 rw [hok1]
 go_upto_region 3 with (fail)
 rcases hrd : readE ts F nt s.i 0 with _ | ⟨y, j⟩ | ⟨l_, c_⟩
 · (rw [hrd] at hr; cases hr)
 ·
  rw [hrd] at hr
  simp only at hr
  cases hr
  clear qc rc
  clear hI hZ
  have qc := kcR HP
  have rc := kc6 HBr
  have hI := iq_0_0 q w w1
  have hZ := iq_01 q w
  refine wp_region_held_drew (S := fun w' => Far (fun b => w1.heap.size ≤ b) (w1) w') (by kernel_rfl) (Far.of (below_drew _)) (fun hS10 => ?_)
  refine takeA 0 (v := ?_) rfl ?_ ?_
  rotate_left
  · (intro w hSw; (try dsimp only at hSw); replace qc := Far.c6z qc hSw (by intro e; have e : _ ≤ q := e; omega); go_simp; try with_reducible rfl)
  try simp only [Act.put, pu1, pu2, pu3]
  refine takeA 1 (v := ?_) rfl ?_ ?_
  rotate_left
  · (intro w hSw; (try dsimp only at hSw); replace qc := Far.c6z qc hSw (by intro e; have e : _ ≤ q := e; omega); go_simp; try with_reducible rfl)
  try simp only [Act.put, pu1, pu2, pu3]
  refine takeA 2 (v := ?_) rfl ?_ ?_
  rotate_left
  · (intro w hSw; (try dsimp only at hSw); replace qc := Far.c6z qc hSw (by intro e; have e : _ ≤ q := e; omega); go_simp; try with_reducible rfl)
  try simp only [Act.put, pu1, pu2, pu3]
  refine takeA 3 (v := ?_) rfl ?_ ?_
  rotate_left
  · (intro w hSw; (try dsimp only at hSw); replace qc := Far.c6z qc hSw (by intro e; have e : _ ≤ q := e; omega); go_simp; try with_reducible rfl)
  try simp only [Act.put, pu1, pu2, pu3]
  refine takeA 4 (v := ?_) rfl ?_ ?_
  rotate_left
  · (intro w hSw; (try dsimp only at hSw); replace qc := Far.c6z qc hSw (by intro e; have e : _ ≤ q := e; omega); go_simp; try with_reducible rfl)
  try simp only [Act.put, pu1, pu2, pu3]
  refine takeA 5 (v := ?_) rfl ?_ ?_
  rotate_left
  · (intro w hSw; (try dsimp only at hSw); replace qc := Far.c6z qc hSw (by intro e; have e : _ ≤ q := e; omega); go_simp; try with_reducible rfl)
  try simp only [Act.put, pu1, pu2, pu3]
  refine takeA 6 (v := ?_) rfl ?_ ?_
  rotate_left
  · (intro w hSw; (try dsimp only at hSw); replace qc := Far.c6z qc hSw (by intro e; have e : _ ≤ q := e; omega); go_simp; try with_reducible rfl)
  try simp only [Act.put, pu1, pu2, pu3]
  refine takeA 7 (v := ?_) rfl ?_ ?_
  rotate_left
  · (intro w hSw; (try dsimp only at hSw); replace qc := Far.c6z qc hSw (by intro e; have e : _ ≤ q := e; omega); go_simp; try with_reducible rfl)
  try simp only [Act.put, pu1, pu2, pu3]
  refine takeA 8 (v := ?_) rfl ?_ ?_
  rotate_left
  · (intro w hSw; (try dsimp only at hSw); replace qc := Far.c6z qc hSw (by intro e; have e : _ ≤ q := e; omega); go_simp; try with_reducible rfl)
  try simp only [Act.put, pu1, pu2, pu3]

  clear qc rc
  refine threeL 9 14 15 rfl rfl rfl (by kernel_rfl) (by rfl) (by rfl) (by rfl) (fun K hK => ?_) (fun K hK => ?_) (fun K hK => ?_)
  ·
   go_simp
   refine (HC s.i (.ok x j) _ HP.out.drew.mem HP.out.sm hrd).mono ?_
   rintro e w2 ⟨ay, my, cy, rfl, hb, hm⟩
   clear hI hZ
   have HBB := Lib.hid hb
   replace hb := Below.one hb
   have hf := FarQ.of (q := q) hb
   have hsw2 : w1.heap.size ≤ w2.heap.size := hf.size
   replace HBr := qB HBr hf
   replace HF := qF HF hf
   replace HP := krP HP hb
   clear hf hb
   have HMy : Hid (Mem (Nw 0 w1.heap.size _) _ _ _) := Lib.hid hm
   clear hm
   simp only [exV]
   have HYy : Hid (Mem (NwS (Bt w1.heap.size w2.heap.size) w2.heap.size) w2 _ _) := Lib.hid (memS_bt HMy.out (by omega))
   clear HMy
   go_simp
   refine hK.out _ _ ?_ (fun hS11 => ?_)
   · exact Far.trans hS10 (Far.of HBB.out)
   clear hK K
   refine takeA 10 (v := ?_) rfl ?_ ?_
   rotate_left
   · (intro w hSw; (try dsimp only at hSw); go_simp; try with_reducible rfl)
   try simp only [Act.put, pu1, pu2, pu3]
   refine takeA 11 (v := ?_) rfl ?_ ?_
   rotate_left
   · (intro w hSw; (try dsimp only at hSw); go_simp; try with_reducible rfl)
   try simp only [Act.put, pu1, pu2, pu3]
   refine takeA 12 (v := ?_) rfl ?_ ?_
   rotate_left
   · (intro w hSw; (try dsimp only at hSw); go_simp; try with_reducible rfl)
   try simp only [Act.put, pu1, pu2, pu3]
   refine takeA 13 (v := ?_) rfl ?_ ?_
   rotate_left
   · (intro w hSw; (try dsimp only at hSw); go_simp; try with_reducible rfl)
   try simp only [Act.put, pu1, pu2, pu3]

   refine twoL 14 15 rfl rfl (by kernel_rfl) (by rfl) (by rfl) (fun K hK => ?_) (fun K hK => ?_)
   ·
    go_simp
    refine hK.out _ _ ?_ (fun hS12 => ?_)
    · exact Far.trans hS11 (Far.of (below_new _ _))
    clear hK K
    generalize ee : (w2.alloc (.cells #[.int .i64 0, .string ⟨#[]⟩, .int .i64 0, .slice none 0 0, .int .i64 0, .int .i64 0] 27)) = w3 at *
    have hsa3 := sizeA ee
    replace HP := rpA HP ee
    replace HF := fA HF ee
    replace HBr := bA HBr ee
    replace HYy := yA HYy ee
    have HBe := nB ee (w2.heap.size)
    clear ee
    refine callA 15 rfl fun K hK => ?_
    go_simp
    refine hK.out _ _ ?_ (fun hS13 => ?_)
    · exact Far.trans hS12 (Far.of (below_new _ _))
    clear hK K
    generalize ee : (w3.alloc (.cells #[.int .i64 0, .int .i64 0, .int .i64 0] 30)) = w4 at *
    have hsa4 := sizeA ee
    replace HP := rpA HP ee
    replace HF := fA HF ee
    replace HBr := bA HBr ee
    replace HBe := bA HBe ee
    replace HYy := yA HYy ee
    have HBf := nB ee (w2.heap.size + 1)
    clear ee
    have qc := kcR HP
    have rc := kc6 HBr; have ec := kc6 HBe; have fc := kc3 HBf
    have hI := chain5 q w.heap.size w2.heap.size (w2.heap.size + 1) w4.heap.size
    have hZ := chain5 q w.heap.size w2.heap.size (w2.heap.size + 1) (w2.heap.size + 2)
    refine callA 16 rfl fun K hK => ?_
    go_simp
    refine hK.out _ _ ?_ (fun hS14 => ?_)
    · exact (by (iterate 6 (refine Far.setCell (p := ⟨w2.heap.size, _, none⟩) ?_ (by show w1.heap.size ≤ w2.heap.size; omega) _)); exact hS13)
    clear hK K

    clear qc rc ec fc
    generalize ee : ((((((w4.setCell ⟨w2.heap.size, 0, none⟩ (.int .i64 x.kind)).setCell ⟨w2.heap.size, 1, none⟩ (.string x.name)).setCell ⟨w2.heap.size, 2, none⟩ (.int .i64 x.n)).setCell ⟨w2.heap.size, 3, none⟩ (.slice ay my cy)).setCell ⟨w2.heap.size, 4, none⟩ (.int .i64 x.line)).setCell ⟨w2.heap.size, 5, none⟩ (.int .i64 x.col)) = w5 at *
    have hsz5 := sizeS6 ee
    replace HP := rpO6 HP ee
    replace HF := fN6 HF ee
    replace HBr := bF6 HBr ee
    replace HBe := bS6 HBe ee
    replace HBf := bF6 HBf ee
    replace HYy := yS6 HYy ee
    clear ee
    clear hI hZ
    have qc := kcR HP
    have rc := kc6 HBr; have ec := kc6 HBe; have fc := kc3 HBf
    have hI := chain5 q w.heap.size w2.heap.size (w2.heap.size + 1) w5.heap.size
    have hZ := chain5 q w.heap.size w2.heap.size (w2.heap.size + 1) (w2.heap.size + 2)
    refine takeA 17 (v := ?_) rfl ?_ ?_
    rotate_left
    · (intro w hSw; (try dsimp only at hSw); go_simp; try with_reducible rfl)
    try simp only [Act.put, pu1, pu2, pu3]

    refine callA 18 rfl fun K hK => ?_
    go_simp
    refine hK.out _ _ ?_ (fun hS15 => ?_)
    · exact (by (iterate 3 (refine Far.setCell (p := ⟨(w2.heap.size + 1), _, none⟩) ?_ (by show w1.heap.size ≤ (w2.heap.size + 1); omega) _)); exact hS14)
    clear hK K
    refine wpAnyH_done (by kernel_rfl) ?_ _

    clear qc rc ec fc
    generalize ee : World.setCell _ ⟨(w2.heap.size + 1), 2, none⟩ _ = w6
    have hsz6 := sizeS3 ee
    replace HP := rpO3 HP ee
    replace HF := fN3 HF ee
    replace HBr := bF3 HBr ee
    replace HBe := bF3 HBe ee
    replace HBf := bS3 HBf ee
    replace HYy := yS3 HYy ee
    clear ee
    clear hI hZ
    have qc := kcR HP
    have rc := kc6 HBr; have ec := kc6 HBe; have fc := kc3 HBf
    have hI := chain5 q w.heap.size w2.heap.size (w2.heap.size + 1) w6.heap.size
    have hZ := chain5 q w.heap.size w2.heap.size (w2.heap.size + 1) (w2.heap.size + 2)
    go_upto_region 8 with (fail)
    clear qc rc ec fc
    generalize ee : World.setCell w6 _ _ = w7
    have hsz7 := sizeS1 ee
    replace HP := Lib.hid (HP.out.setIE (k := j) ee (by omega))
    replace HF := Lib.hid (HF.out.setQE ee)
    replace HBr := bF1 HBr ee
    replace HBe := bF1 HBe ee
    replace HBf := bF1 HBf ee
    replace HYy := yS1 HYy ee
    clear ee
    clear hI hZ
    have qc := kcR HP
    have rc := kc6 HBr; have ec := kc6 HBe; have fc := kc3 HBf
    have hI := chain5 q w.heap.size w2.heap.size (w2.heap.size + 1) w7.heap.size
    have hZ := chain5 q w.heap.size w2.heap.size (w2.heap.size + 1) (w2.heap.size + 2)
    go_wp2_with (fail)
    clear qc rc ec fc
    generalize ee : World.setCell _ ⟨w.heap.size, 5, none⟩ _ = w8
    have hsz8 := sizeS6 ee
    replace HP := rpO6 HP ee
    replace HF := fN6 HF ee
    replace HBr := bS6 HBr ee
    replace HBe := bF6 HBe ee
    replace HBf := bF6 HBf ee
    replace HYy := yS6 HYy ee
    clear ee
    clear hI hZ
    have hbn : s.b = none := by unfold MS.ok at hok1; simpa using hok1
    rw [hbn] at HP
    have fc := kc6 HBr
    refine bodyPost_ret (v := .agg #[.int .i64 x.kind, .string x.name, .int .i64 x.n, .slice ay my cy, .int .i64 x.line, .int .i64 x.col]) (by clear HP HF HBr HBe HBf HYy; simp [results, Try.results76, go_sem, fc]) rfl ?_
    exact ⟨_, _, _, rfl, HF.out.out, HP.out, (memS_nw HYy.out (fun b hb => Nat.le_trans (by omega) hb.1))⟩

   ·
    go_simp
    refine hK.out _ _ ?_ (fun hS12 => ?_)
    · exact Far.trans hS11 (Far.of (below_new _ _))
    clear hK K
    generalize ee : (w2.alloc (.cells #[.int .i64 0, .int .i64 0, .int .i64 0] 30)) = w3 at *
    have hsa3 := sizeA ee
    replace HP := rpA HP ee
    replace HF := fA HF ee
    replace HBr := bA HBr ee
    replace HYy := yA HYy ee
    have HBf := nB ee (w2.heap.size)
    clear ee
    refine callA 14 rfl fun K hK => ?_
    go_simp
    refine hK.out _ _ ?_ (fun hS13 => ?_)
    · exact Far.trans hS12 (Far.of (below_new _ _))
    clear hK K
    generalize ee : (w3.alloc (.cells #[.int .i64 0, .string ⟨#[]⟩, .int .i64 0, .slice none 0 0, .int .i64 0, .int .i64 0] 27)) = w4 at *
    have hsa4 := sizeA ee
    replace HP := rpA HP ee
    replace HF := fA HF ee
    replace HBr := bA HBr ee
    replace HBf := bA HBf ee
    replace HYy := yA HYy ee
    have HBe := nB ee (w2.heap.size + 1)
    clear ee
    have qc := kcR HP
    have rc := kc6 HBr; have fc := kc3 HBf; have ec := kc6 HBe
    have hI := chain5 q w.heap.size w2.heap.size (w2.heap.size + 1) w4.heap.size
    have hZ := chain5 q w.heap.size w2.heap.size (w2.heap.size + 1) (w2.heap.size + 2)
    refine callA 16 rfl fun K hK => ?_
    go_simp
    refine hK.out _ _ ?_ (fun hS14 => ?_)
    · exact (by (iterate 6 (refine Far.setCell (p := ⟨(w2.heap.size + 1), _, none⟩) ?_ (by show w1.heap.size ≤ (w2.heap.size + 1); omega) _)); exact hS13)
    clear hK K

    clear qc rc fc ec
    generalize ee : ((((((w4.setCell ⟨(w2.heap.size + 1), 0, none⟩ (.int .i64 x.kind)).setCell ⟨(w2.heap.size + 1), 1, none⟩ (.string x.name)).setCell ⟨(w2.heap.size + 1), 2, none⟩ (.int .i64 x.n)).setCell ⟨(w2.heap.size + 1), 3, none⟩ (.slice ay my cy)).setCell ⟨(w2.heap.size + 1), 4, none⟩ (.int .i64 x.line)).setCell ⟨(w2.heap.size + 1), 5, none⟩ (.int .i64 x.col)) = w5 at *
    have hsz5 := sizeS6 ee
    replace HP := rpO6 HP ee
    replace HF := fN6 HF ee
    replace HBr := bF6 HBr ee
    replace HBf := bF6 HBf ee
    replace HBe := bS6 HBe ee
    replace HYy := yS6 HYy ee
    clear ee
    clear hI hZ
    have qc := kcR HP
    have rc := kc6 HBr; have fc := kc3 HBf; have ec := kc6 HBe
    have hI := chain5 q w.heap.size w2.heap.size (w2.heap.size + 1) w5.heap.size
    have hZ := chain5 q w.heap.size w2.heap.size (w2.heap.size + 1) (w2.heap.size + 2)
    refine takeA 17 (v := ?_) rfl ?_ ?_
    rotate_left
    · (intro w hSw; (try dsimp only at hSw); go_simp; try with_reducible rfl)
    try simp only [Act.put, pu1, pu2, pu3]

    refine callA 18 rfl fun K hK => ?_
    go_simp
    refine hK.out _ _ ?_ (fun hS15 => ?_)
    · exact (by (iterate 3 (refine Far.setCell (p := ⟨w2.heap.size, _, none⟩) ?_ (by show w1.heap.size ≤ w2.heap.size; omega) _)); exact hS14)
    clear hK K
    refine wpAnyH_done (by kernel_rfl) ?_ _

    clear qc rc fc ec
    generalize ee : World.setCell _ ⟨w2.heap.size, 2, none⟩ _ = w6
    have hsz6 := sizeS3 ee
    replace HP := rpO3 HP ee
    replace HF := fN3 HF ee
    replace HBr := bF3 HBr ee
    replace HBf := bS3 HBf ee
    replace HBe := bF3 HBe ee
    replace HYy := yS3 HYy ee
    clear ee
    clear hI hZ
    have qc := kcR HP
    have rc := kc6 HBr; have fc := kc3 HBf; have ec := kc6 HBe
    have hI := chain5 q w.heap.size w2.heap.size (w2.heap.size + 1) w6.heap.size
    have hZ := chain5 q w.heap.size w2.heap.size (w2.heap.size + 1) (w2.heap.size + 2)
    go_upto_region 8 with (fail)
    clear qc rc fc ec
    generalize ee : World.setCell w6 _ _ = w7
    have hsz7 := sizeS1 ee
    replace HP := Lib.hid (HP.out.setIE (k := j) ee (by omega))
    replace HF := Lib.hid (HF.out.setQE ee)
    replace HBr := bF1 HBr ee
    replace HBf := bF1 HBf ee
    replace HBe := bF1 HBe ee
    replace HYy := yS1 HYy ee
    clear ee
    clear hI hZ
    have qc := kcR HP
    have rc := kc6 HBr; have fc := kc3 HBf; have ec := kc6 HBe
    have hI := chain5 q w.heap.size w2.heap.size (w2.heap.size + 1) w7.heap.size
    have hZ := chain5 q w.heap.size w2.heap.size (w2.heap.size + 1) (w2.heap.size + 2)
    go_wp2_with (fail)
    clear qc rc fc ec
    generalize ee : World.setCell _ ⟨w.heap.size, 5, none⟩ _ = w8
    have hsz8 := sizeS6 ee
    replace HP := rpO6 HP ee
    replace HF := fN6 HF ee
    replace HBr := bS6 HBr ee
    replace HBf := bF6 HBf ee
    replace HBe := bF6 HBe ee
    replace HYy := yS6 HYy ee
    clear ee
    clear hI hZ
    have hbn : s.b = none := by unfold MS.ok at hok1; simpa using hok1
    rw [hbn] at HP
    have fc := kc6 HBr
    refine bodyPost_ret (v := .agg #[.int .i64 x.kind, .string x.name, .int .i64 x.n, .slice ay my cy, .int .i64 x.line, .int .i64 x.col]) (by clear HP HF HBr HBf HBe HYy; simp [results, Try.results76, go_sem, fc]) rfl ?_
    exact ⟨_, _, _, rfl, HF.out.out, HP.out, (memS_nw HYy.out (fun b hb => Nat.le_trans (by omega) hb.1))⟩

  ·
   go_simp
   refine hK.out _ _ ?_ (fun hS11 => ?_)
   · exact Far.trans hS10 (Far.of (below_new _ _))
   clear hK K
   generalize ee : (w1.alloc (.cells #[.int .i64 0, .string ⟨#[]⟩, .int .i64 0, .slice none 0 0, .int .i64 0, .int .i64 0] 27)) = w2_1 at *
   have hq1 := sizeA ee
   replace HP := rpA HP ee
   replace HF := fA HF ee
   replace HBr := bA HBr ee
   have HBe := nB ee (w.heap.size + 1)
   clear ee
   generalize ee : (w2_1.drew) = w2 at *
   have hq2 := sizeD ee
   replace HP := rpD HP ee
   replace HF := fD HF ee
   replace HBr := bD HBr ee
   replace HBe := bD HBe ee
   clear ee
   have hsa2 : w2.heap.size = w.heap.size + 2 := by omega
   clear hq1 hq2
   clear hI hZ
   refine twoL 9 15 rfl rfl (by kernel_rfl) (by rfl) (by rfl) (fun K hK => ?_) (fun K hK => ?_)
   ·
    go_simp
    refine (HC s.i (.ok x j) _ HP.out.mem HP.out.sm hrd).mono ?_
    rintro e w3 ⟨ay, my, cy, rfl, hb, hm⟩
    have HBB := Lib.hid hb
    have hf := FarQ.of (q := q) hb
    have hsw3 : w2.heap.size ≤ w3.heap.size := hf.size
    replace HBr := qB HBr hf
    replace HBe := qB HBe hf
    replace HF := qF HF hf
    replace HP := krP HP hb
    clear hf hb
    have HMy : Hid (Mem (Nw 0 w2.heap.size _) _ _ _) := Lib.hid hm
    clear hm
    simp only [exV]
    have HYy : Hid (Mem (NwS (Bt w2.heap.size w3.heap.size) w3.heap.size) w3 _ _) := Lib.hid (memS_bt HMy.out (by omega))
    clear HMy
    go_simp
    refine hK.out _ _ ?_ (fun hS12 => ?_)
    · exact Far.trans hS11 (Far.of HBB.out)
    clear hK K
    refine takeA 10 (v := ?_) rfl ?_ ?_
    rotate_left
    · (intro w hSw; (try dsimp only at hSw); go_simp; try with_reducible rfl)
    try simp only [Act.put, pu1, pu2, pu3]
    refine takeA 11 (v := ?_) rfl ?_ ?_
    rotate_left
    · (intro w hSw; (try dsimp only at hSw); go_simp; try with_reducible rfl)
    try simp only [Act.put, pu1, pu2, pu3]
    refine takeA 12 (v := ?_) rfl ?_ ?_
    rotate_left
    · (intro w hSw; (try dsimp only at hSw); go_simp; try with_reducible rfl)
    try simp only [Act.put, pu1, pu2, pu3]
    refine takeA 13 (v := ?_) rfl ?_ ?_
    rotate_left
    · (intro w hSw; (try dsimp only at hSw); go_simp; try with_reducible rfl)
    try simp only [Act.put, pu1, pu2, pu3]

    refine callA 15 rfl fun K hK => ?_
    go_simp
    refine hK.out _ _ ?_ (fun hS13 => ?_)
    · exact Far.trans hS12 (Far.of (below_new _ _))
    clear hK K
    generalize ee : (w3.alloc (.cells #[.int .i64 0, .int .i64 0, .int .i64 0] 30)) = w4 at *
    have hsa4 := sizeA ee
    replace HP := rpA HP ee
    replace HF := fA HF ee
    replace HBr := bA HBr ee
    replace HBe := bA HBe ee
    replace HYy := yA HYy ee
    have HBf := nB ee (w3.heap.size)
    clear ee
    have qc := kcR HP
    have rc := kc6 HBr; have ec := kc6 HBe; have fc := kc3 HBf
    have hI := chain5 q w.heap.size (w.heap.size + 1) w3.heap.size w4.heap.size
    have hZ := chain5 q w.heap.size (w.heap.size + 1) w3.heap.size (w3.heap.size + 1)
    refine callA 16 rfl fun K hK => ?_
    go_simp
    refine hK.out _ _ ?_ (fun hS14 => ?_)
    · exact (by (iterate 6 (refine Far.setCell (p := ⟨(w.heap.size + 1), _, none⟩) ?_ (by show w1.heap.size ≤ (w.heap.size + 1); omega) _)); exact hS13)
    clear hK K

    clear qc rc ec fc
    generalize ee : ((((((w4.setCell ⟨(w.heap.size + 1), 0, none⟩ (.int .i64 x.kind)).setCell ⟨(w.heap.size + 1), 1, none⟩ (.string x.name)).setCell ⟨(w.heap.size + 1), 2, none⟩ (.int .i64 x.n)).setCell ⟨(w.heap.size + 1), 3, none⟩ (.slice ay my cy)).setCell ⟨(w.heap.size + 1), 4, none⟩ (.int .i64 x.line)).setCell ⟨(w.heap.size + 1), 5, none⟩ (.int .i64 x.col)) = w5 at *
    have hsz5 := sizeS6 ee
    replace HP := rpO6 HP ee
    replace HF := fN6 HF ee
    replace HBr := bF6 HBr ee
    replace HBe := bS6 HBe ee
    replace HBf := bF6 HBf ee
    replace HYy := yS6 HYy ee
    clear ee
    clear hI hZ
    have qc := kcR HP
    have rc := kc6 HBr; have ec := kc6 HBe; have fc := kc3 HBf
    have hI := chain5 q w.heap.size (w.heap.size + 1) w3.heap.size w5.heap.size
    have hZ := chain5 q w.heap.size (w.heap.size + 1) w3.heap.size (w3.heap.size + 1)
    refine takeA 17 (v := ?_) rfl ?_ ?_
    rotate_left
    · (intro w hSw; (try dsimp only at hSw); go_simp; try with_reducible rfl)
    try simp only [Act.put, pu1, pu2, pu3]

    refine callA 18 rfl fun K hK => ?_
    go_simp
    refine hK.out _ _ ?_ (fun hS15 => ?_)
    · exact (by (iterate 3 (refine Far.setCell (p := ⟨w3.heap.size, _, none⟩) ?_ (by show w1.heap.size ≤ w3.heap.size; omega) _)); exact hS14)
    clear hK K
    refine wpAnyH_done (by kernel_rfl) ?_ _

    clear qc rc ec fc
    generalize ee : World.setCell _ ⟨w3.heap.size, 2, none⟩ _ = w6
    have hsz6 := sizeS3 ee
    replace HP := rpO3 HP ee
    replace HF := fN3 HF ee
    replace HBr := bF3 HBr ee
    replace HBe := bF3 HBe ee
    replace HBf := bS3 HBf ee
    replace HYy := yS3 HYy ee
    clear ee
    clear hI hZ
    have qc := kcR HP
    have rc := kc6 HBr; have ec := kc6 HBe; have fc := kc3 HBf
    have hI := chain5 q w.heap.size (w.heap.size + 1) w3.heap.size w6.heap.size
    have hZ := chain5 q w.heap.size (w.heap.size + 1) w3.heap.size (w3.heap.size + 1)
    go_upto_region 8 with (fail)
    clear qc rc ec fc
    generalize ee : World.setCell w6 _ _ = w7
    have hsz7 := sizeS1 ee
    replace HP := Lib.hid (HP.out.setIE (k := j) ee (by omega))
    replace HF := Lib.hid (HF.out.setQE ee)
    replace HBr := bF1 HBr ee
    replace HBe := bF1 HBe ee
    replace HBf := bF1 HBf ee
    replace HYy := yS1 HYy ee
    clear ee
    clear hI hZ
    have qc := kcR HP
    have rc := kc6 HBr; have ec := kc6 HBe; have fc := kc3 HBf
    have hI := chain5 q w.heap.size (w.heap.size + 1) w3.heap.size w7.heap.size
    have hZ := chain5 q w.heap.size (w.heap.size + 1) w3.heap.size (w3.heap.size + 1)
    go_wp2_with (fail)
    clear qc rc ec fc
    generalize ee : World.setCell _ ⟨w.heap.size, 5, none⟩ _ = w8
    have hsz8 := sizeS6 ee
    replace HP := rpO6 HP ee
    replace HF := fN6 HF ee
    replace HBr := bS6 HBr ee
    replace HBe := bF6 HBe ee
    replace HBf := bF6 HBf ee
    replace HYy := yS6 HYy ee
    clear ee
    clear hI hZ
    have hbn : s.b = none := by unfold MS.ok at hok1; simpa using hok1
    rw [hbn] at HP
    have fc := kc6 HBr
    refine bodyPost_ret (v := .agg #[.int .i64 x.kind, .string x.name, .int .i64 x.n, .slice ay my cy, .int .i64 x.line, .int .i64 x.col]) (by clear HP HF HBr HBe HBf HYy; simp [results, Try.results76, go_sem, fc]) rfl ?_
    exact ⟨_, _, _, rfl, HF.out.out, HP.out, (memS_nw HYy.out (fun b hb => Nat.le_trans (by omega) hb.1))⟩

   ·
    go_simp
    refine hK.out _ _ ?_ (fun hS12 => ?_)
    · exact Far.trans hS11 (Far.of (below_new _ _))
    clear hK K
    generalize ee : (w2.alloc (.cells #[.int .i64 0, .int .i64 0, .int .i64 0] 30)) = w3 at *
    have hsa3 := sizeA ee
    replace HP := rpA HP ee
    replace HF := fA HF ee
    replace HBr := bA HBr ee
    replace HBe := bA HBe ee
    have HBf := nB ee (w.heap.size + 2)
    clear ee
    refine callA 9 rfl fun K hK => ?_
    go_simp
    refine (HC s.i (.ok x j) _ HP.out.mem HP.out.sm hrd).mono ?_
    rintro e w4 ⟨ay, my, cy, rfl, hb, hm⟩
    have HBB := Lib.hid hb
    have hf := FarQ.of (q := q) hb
    have hsw4 : w3.heap.size ≤ w4.heap.size := hf.size
    replace HBr := qB HBr hf
    replace HBe := qB HBe hf
    replace HBf := qB HBf hf
    replace HF := qF HF hf
    replace HP := krP HP hb
    clear hf hb
    have HMy : Hid (Mem (Nw 0 w3.heap.size _) _ _ _) := Lib.hid hm
    clear hm
    simp only [exV]
    have HYy : Hid (Mem (NwS (Bt w3.heap.size w4.heap.size) w4.heap.size) w4 _ _) := Lib.hid (memS_bt HMy.out (by omega))
    clear HMy
    go_simp
    refine hK.out _ _ ?_ (fun hS13 => ?_)
    · exact Far.trans hS12 (Far.of HBB.out)
    clear hK K
    refine takeA 10 (v := ?_) rfl ?_ ?_
    rotate_left
    · (intro w hSw; (try dsimp only at hSw); go_simp; try with_reducible rfl)
    try simp only [Act.put, pu1, pu2, pu3]
    refine takeA 11 (v := ?_) rfl ?_ ?_
    rotate_left
    · (intro w hSw; (try dsimp only at hSw); go_simp; try with_reducible rfl)
    try simp only [Act.put, pu1, pu2, pu3]
    refine takeA 12 (v := ?_) rfl ?_ ?_
    rotate_left
    · (intro w hSw; (try dsimp only at hSw); go_simp; try with_reducible rfl)
    try simp only [Act.put, pu1, pu2, pu3]
    refine takeA 13 (v := ?_) rfl ?_ ?_
    rotate_left
    · (intro w hSw; (try dsimp only at hSw); go_simp; try with_reducible rfl)
    try simp only [Act.put, pu1, pu2, pu3]

    have qc := kcR HP
    have rc := kc6 HBr; have ec := kc6 HBe; have fc := kc3 HBf
    have hI := iq_012_0 q w w4
    refine callA 16 rfl fun K hK => ?_
    go_simp
    refine hK.out _ _ ?_ (fun hS14 => ?_)
    · exact (by (iterate 6 (refine Far.setCell (p := ⟨(w.heap.size + 1), _, none⟩) ?_ (by show w1.heap.size ≤ (w.heap.size + 1); omega) _)); exact hS13)
    clear hK K

    clear qc rc ec fc
    generalize ee : ((((((w4.setCell ⟨(w.heap.size + 1), 0, none⟩ (.int .i64 x.kind)).setCell ⟨(w.heap.size + 1), 1, none⟩ (.string x.name)).setCell ⟨(w.heap.size + 1), 2, none⟩ (.int .i64 x.n)).setCell ⟨(w.heap.size + 1), 3, none⟩ (.slice ay my cy)).setCell ⟨(w.heap.size + 1), 4, none⟩ (.int .i64 x.line)).setCell ⟨(w.heap.size + 1), 5, none⟩ (.int .i64 x.col)) = w5 at *
    have hsz5 := sizeS6 ee
    replace HP := rpO6 HP ee
    replace HF := fN6 HF ee
    replace HBr := bF6 HBr ee
    replace HBe := bS6 HBe ee
    replace HBf := bF6 HBf ee
    replace HYy := yS6 HYy ee
    clear ee
    clear hI
    have qc := kcR HP
    have rc := kc6 HBr; have ec := kc6 HBe; have fc := kc3 HBf
    have hI := iq_012_0 q w w5
    have hZ := iq_012_0 q w w4
    refine takeA 17 (v := ?_) rfl ?_ ?_
    rotate_left
    · (intro w hSw; (try dsimp only at hSw); go_simp; try with_reducible rfl)
    try simp only [Act.put, pu1, pu2, pu3]

    refine callA 18 rfl fun K hK => ?_
    go_simp
    refine hK.out _ _ ?_ (fun hS15 => ?_)
    · exact (by (iterate 3 (refine Far.setCell (p := ⟨(w.heap.size + 2), _, none⟩) ?_ (by show w1.heap.size ≤ (w.heap.size + 2); omega) _)); exact hS14)
    clear hK K
    refine wpAnyH_done (by kernel_rfl) ?_ _

    clear qc rc ec fc
    generalize ee : World.setCell _ ⟨(w.heap.size + 2), 2, none⟩ _ = w6
    have hsz6 := sizeS3 ee
    replace HP := rpO3 HP ee
    replace HF := fN3 HF ee
    replace HBr := bF3 HBr ee
    replace HBe := bF3 HBe ee
    replace HBf := bS3 HBf ee
    replace HYy := yS3 HYy ee
    clear ee
    clear hI hZ
    have qc := kcR HP
    have rc := kc6 HBr; have ec := kc6 HBe; have fc := kc3 HBf
    have hI := iq_012_0 q w w6
    have hZ := iq_012_0 q w w4
    go_upto_region 8 with (fail)
    clear qc rc ec fc
    generalize ee : World.setCell w6 _ _ = w7
    have hsz7 := sizeS1 ee
    replace HP := Lib.hid (HP.out.setIE (k := j) ee (by omega))
    replace HF := Lib.hid (HF.out.setQE ee)
    replace HBr := bF1 HBr ee
    replace HBe := bF1 HBe ee
    replace HBf := bF1 HBf ee
    replace HYy := yS1 HYy ee
    clear ee
    clear hI hZ
    have qc := kcR HP
    have rc := kc6 HBr; have ec := kc6 HBe; have fc := kc3 HBf
    have hI := iq_012_0 q w w7
    have hZ := iq_012_0 q w w4
    go_wp2_with (fail)
    clear qc rc ec fc
    generalize ee : World.setCell _ ⟨w.heap.size, 5, none⟩ _ = w8
    have hsz8 := sizeS6 ee
    replace HP := rpO6 HP ee
    replace HF := fN6 HF ee
    replace HBr := bS6 HBr ee
    replace HBe := bF6 HBe ee
    replace HBf := bF6 HBf ee
    replace HYy := yS6 HYy ee
    clear ee
    clear hI hZ
    have hbn : s.b = none := by unfold MS.ok at hok1; simpa using hok1
    rw [hbn] at HP
    have fc := kc6 HBr
    refine bodyPost_ret (v := .agg #[.int .i64 x.kind, .string x.name, .int .i64 x.n, .slice ay my cy, .int .i64 x.line, .int .i64 x.col]) (by clear HP HF HBr HBe HBf HYy; simp [results, Try.results76, go_sem, fc]) rfl ?_
    exact ⟨_, _, _, rfl, HF.out.out, HP.out, (memS_nw HYy.out (fun b hb => Nat.le_trans (by omega) hb.1))⟩

  ·
   go_simp
   refine hK.out _ _ ?_ (fun hS11 => ?_)
   · exact Far.trans hS10 (Far.of (below_new _ _))
   clear hK K
   generalize ee : (w1.alloc (.cells #[.int .i64 0, .int .i64 0, .int .i64 0] 30)) = w2_1 at *
   have hq1 := sizeA ee
   replace HP := rpA HP ee
   replace HF := fA HF ee
   replace HBr := bA HBr ee
   have HBf := nB ee (w.heap.size + 1)
   clear ee
   generalize ee : (w2_1.drew) = w2 at *
   have hq2 := sizeD ee
   replace HP := rpD HP ee
   replace HF := fD HF ee
   replace HBr := bD HBr ee
   replace HBf := bD HBf ee
   clear ee
   have hsa2 : w2.heap.size = w.heap.size + 2 := by omega
   clear hq1 hq2
   clear hI hZ
   refine twoL 9 14 rfl rfl (by kernel_rfl) (by rfl) (by rfl) (fun K hK => ?_) (fun K hK => ?_)
   ·
    go_simp
    refine (HC s.i (.ok x j) _ HP.out.mem HP.out.sm hrd).mono ?_
    rintro e w3 ⟨ay, my, cy, rfl, hb, hm⟩
    have HBB := Lib.hid hb
    have hf := FarQ.of (q := q) hb
    have hsw3 : w2.heap.size ≤ w3.heap.size := hf.size
    replace HBr := qB HBr hf
    replace HBf := qB HBf hf
    replace HF := qF HF hf
    replace HP := krP HP hb
    clear hf hb
    have HMy : Hid (Mem (Nw 0 w2.heap.size _) _ _ _) := Lib.hid hm
    clear hm
    simp only [exV]
    have HYy : Hid (Mem (NwS (Bt w2.heap.size w3.heap.size) w3.heap.size) w3 _ _) := Lib.hid (memS_bt HMy.out (by omega))
    clear HMy
    go_simp
    refine hK.out _ _ ?_ (fun hS12 => ?_)
    · exact Far.trans hS11 (Far.of HBB.out)
    clear hK K
    refine takeA 10 (v := ?_) rfl ?_ ?_
    rotate_left
    · (intro w hSw; (try dsimp only at hSw); go_simp; try with_reducible rfl)
    try simp only [Act.put, pu1, pu2, pu3]
    refine takeA 11 (v := ?_) rfl ?_ ?_
    rotate_left
    · (intro w hSw; (try dsimp only at hSw); go_simp; try with_reducible rfl)
    try simp only [Act.put, pu1, pu2, pu3]
    refine takeA 12 (v := ?_) rfl ?_ ?_
    rotate_left
    · (intro w hSw; (try dsimp only at hSw); go_simp; try with_reducible rfl)
    try simp only [Act.put, pu1, pu2, pu3]
    refine takeA 13 (v := ?_) rfl ?_ ?_
    rotate_left
    · (intro w hSw; (try dsimp only at hSw); go_simp; try with_reducible rfl)
    try simp only [Act.put, pu1, pu2, pu3]

    refine callA 14 rfl fun K hK => ?_
    go_simp
    refine hK.out _ _ ?_ (fun hS13 => ?_)
    · exact Far.trans hS12 (Far.of (below_new _ _))
    clear hK K
    generalize ee : (w3.alloc (.cells #[.int .i64 0, .string ⟨#[]⟩, .int .i64 0, .slice none 0 0, .int .i64 0, .int .i64 0] 27)) = w4 at *
    have hsa4 := sizeA ee
    replace HP := rpA HP ee
    replace HF := fA HF ee
    replace HBr := bA HBr ee
    replace HBf := bA HBf ee
    replace HYy := yA HYy ee
    have HBe := nB ee (w3.heap.size)
    clear ee
    have qc := kcR HP
    have rc := kc6 HBr; have fc := kc3 HBf; have ec := kc6 HBe
    have hI := chain5 q w.heap.size (w.heap.size + 1) w3.heap.size w4.heap.size
    have hZ := chain5 q w.heap.size (w.heap.size + 1) w3.heap.size (w3.heap.size + 1)
    refine callA 16 rfl fun K hK => ?_
    go_simp
    refine hK.out _ _ ?_ (fun hS14 => ?_)
    · exact (by (iterate 6 (refine Far.setCell (p := ⟨w3.heap.size, _, none⟩) ?_ (by show w1.heap.size ≤ w3.heap.size; omega) _)); exact hS13)
    clear hK K

    clear qc rc fc ec
    generalize ee : ((((((w4.setCell ⟨w3.heap.size, 0, none⟩ (.int .i64 x.kind)).setCell ⟨w3.heap.size, 1, none⟩ (.string x.name)).setCell ⟨w3.heap.size, 2, none⟩ (.int .i64 x.n)).setCell ⟨w3.heap.size, 3, none⟩ (.slice ay my cy)).setCell ⟨w3.heap.size, 4, none⟩ (.int .i64 x.line)).setCell ⟨w3.heap.size, 5, none⟩ (.int .i64 x.col)) = w5 at *
    have hsz5 := sizeS6 ee
    replace HP := rpO6 HP ee
    replace HF := fN6 HF ee
    replace HBr := bF6 HBr ee
    replace HBf := bF6 HBf ee
    replace HBe := bS6 HBe ee
    replace HYy := yS6 HYy ee
    clear ee
    clear hI hZ
    have qc := kcR HP
    have rc := kc6 HBr; have fc := kc3 HBf; have ec := kc6 HBe
    have hI := chain5 q w.heap.size (w.heap.size + 1) w3.heap.size w5.heap.size
    have hZ := chain5 q w.heap.size (w.heap.size + 1) w3.heap.size (w3.heap.size + 1)
    refine takeA 17 (v := ?_) rfl ?_ ?_
    rotate_left
    · (intro w hSw; (try dsimp only at hSw); go_simp; try with_reducible rfl)
    try simp only [Act.put, pu1, pu2, pu3]

    refine callA 18 rfl fun K hK => ?_
    go_simp
    refine hK.out _ _ ?_ (fun hS15 => ?_)
    · exact (by (iterate 3 (refine Far.setCell (p := ⟨(w.heap.size + 1), _, none⟩) ?_ (by show w1.heap.size ≤ (w.heap.size + 1); omega) _)); exact hS14)
    clear hK K
    refine wpAnyH_done (by kernel_rfl) ?_ _

    clear qc rc fc ec
    generalize ee : World.setCell _ ⟨(w.heap.size + 1), 2, none⟩ _ = w6
    have hsz6 := sizeS3 ee
    replace HP := rpO3 HP ee
    replace HF := fN3 HF ee
    replace HBr := bF3 HBr ee
    replace HBf := bS3 HBf ee
    replace HBe := bF3 HBe ee
    replace HYy := yS3 HYy ee
    clear ee
    clear hI hZ
    have qc := kcR HP
    have rc := kc6 HBr; have fc := kc3 HBf; have ec := kc6 HBe
    have hI := chain5 q w.heap.size (w.heap.size + 1) w3.heap.size w6.heap.size
    have hZ := chain5 q w.heap.size (w.heap.size + 1) w3.heap.size (w3.heap.size + 1)
    go_upto_region 8 with (fail)
    clear qc rc fc ec
    generalize ee : World.setCell w6 _ _ = w7
    have hsz7 := sizeS1 ee
    replace HP := Lib.hid (HP.out.setIE (k := j) ee (by omega))
    replace HF := Lib.hid (HF.out.setQE ee)
    replace HBr := bF1 HBr ee
    replace HBf := bF1 HBf ee
    replace HBe := bF1 HBe ee
    replace HYy := yS1 HYy ee
    clear ee
    clear hI hZ
    have qc := kcR HP
    have rc := kc6 HBr; have fc := kc3 HBf; have ec := kc6 HBe
    have hI := chain5 q w.heap.size (w.heap.size + 1) w3.heap.size w7.heap.size
    have hZ := chain5 q w.heap.size (w.heap.size + 1) w3.heap.size (w3.heap.size + 1)
    go_wp2_with (fail)
    clear qc rc fc ec
    generalize ee : World.setCell _ ⟨w.heap.size, 5, none⟩ _ = w8
    have hsz8 := sizeS6 ee
    replace HP := rpO6 HP ee
    replace HF := fN6 HF ee
    replace HBr := bS6 HBr ee
    replace HBf := bF6 HBf ee
    replace HBe := bF6 HBe ee
    replace HYy := yS6 HYy ee
    clear ee
    clear hI hZ
    have hbn : s.b = none := by unfold MS.ok at hok1; simpa using hok1
    rw [hbn] at HP
    have fc := kc6 HBr
    refine bodyPost_ret (v := .agg #[.int .i64 x.kind, .string x.name, .int .i64 x.n, .slice ay my cy, .int .i64 x.line, .int .i64 x.col]) (by clear HP HF HBr HBf HBe HYy; simp [results, Try.results76, go_sem, fc]) rfl ?_
    exact ⟨_, _, _, rfl, HF.out.out, HP.out, (memS_nw HYy.out (fun b hb => Nat.le_trans (by omega) hb.1))⟩

   ·
    go_simp
    refine hK.out _ _ ?_ (fun hS12 => ?_)
    · exact Far.trans hS11 (Far.of (below_new _ _))
    clear hK K
    generalize ee : (w2.alloc (.cells #[.int .i64 0, .string ⟨#[]⟩, .int .i64 0, .slice none 0 0, .int .i64 0, .int .i64 0] 27)) = w3 at *
    have hsa3 := sizeA ee
    replace HP := rpA HP ee
    replace HF := fA HF ee
    replace HBr := bA HBr ee
    replace HBf := bA HBf ee
    have HBe := nB ee (w.heap.size + 2)
    clear ee
    refine callA 9 rfl fun K hK => ?_
    go_simp
    refine (HC s.i (.ok x j) _ HP.out.mem HP.out.sm hrd).mono ?_
    rintro e w4 ⟨ay, my, cy, rfl, hb, hm⟩
    have HBB := Lib.hid hb
    have hf := FarQ.of (q := q) hb
    have hsw4 : w3.heap.size ≤ w4.heap.size := hf.size
    replace HBr := qB HBr hf
    replace HBf := qB HBf hf
    replace HBe := qB HBe hf
    replace HF := qF HF hf
    replace HP := krP HP hb
    clear hf hb
    have HMy : Hid (Mem (Nw 0 w3.heap.size _) _ _ _) := Lib.hid hm
    clear hm
    simp only [exV]
    have HYy : Hid (Mem (NwS (Bt w3.heap.size w4.heap.size) w4.heap.size) w4 _ _) := Lib.hid (memS_bt HMy.out (by omega))
    clear HMy
    go_simp
    refine hK.out _ _ ?_ (fun hS13 => ?_)
    · exact Far.trans hS12 (Far.of HBB.out)
    clear hK K
    refine takeA 10 (v := ?_) rfl ?_ ?_
    rotate_left
    · (intro w hSw; (try dsimp only at hSw); go_simp; try with_reducible rfl)
    try simp only [Act.put, pu1, pu2, pu3]
    refine takeA 11 (v := ?_) rfl ?_ ?_
    rotate_left
    · (intro w hSw; (try dsimp only at hSw); go_simp; try with_reducible rfl)
    try simp only [Act.put, pu1, pu2, pu3]
    refine takeA 12 (v := ?_) rfl ?_ ?_
    rotate_left
    · (intro w hSw; (try dsimp only at hSw); go_simp; try with_reducible rfl)
    try simp only [Act.put, pu1, pu2, pu3]
    refine takeA 13 (v := ?_) rfl ?_ ?_
    rotate_left
    · (intro w hSw; (try dsimp only at hSw); go_simp; try with_reducible rfl)
    try simp only [Act.put, pu1, pu2, pu3]

    have qc := kcR HP
    have rc := kc6 HBr; have fc := kc3 HBf; have ec := kc6 HBe
    have hI := iq_012_0 q w w4
    refine callA 16 rfl fun K hK => ?_
    go_simp
    refine hK.out _ _ ?_ (fun hS14 => ?_)
    · exact (by (iterate 6 (refine Far.setCell (p := ⟨(w.heap.size + 2), _, none⟩) ?_ (by show w1.heap.size ≤ (w.heap.size + 2); omega) _)); exact hS13)
    clear hK K

    clear qc rc fc ec
    generalize ee : ((((((w4.setCell ⟨(w.heap.size + 2), 0, none⟩ (.int .i64 x.kind)).setCell ⟨(w.heap.size + 2), 1, none⟩ (.string x.name)).setCell ⟨(w.heap.size + 2), 2, none⟩ (.int .i64 x.n)).setCell ⟨(w.heap.size + 2), 3, none⟩ (.slice ay my cy)).setCell ⟨(w.heap.size + 2), 4, none⟩ (.int .i64 x.line)).setCell ⟨(w.heap.size + 2), 5, none⟩ (.int .i64 x.col)) = w5 at *
    have hsz5 := sizeS6 ee
    replace HP := rpO6 HP ee
    replace HF := fN6 HF ee
    replace HBr := bF6 HBr ee
    replace HBf := bF6 HBf ee
    replace HBe := bS6 HBe ee
    replace HYy := yS6 HYy ee
    clear ee
    clear hI
    have qc := kcR HP
    have rc := kc6 HBr; have fc := kc3 HBf; have ec := kc6 HBe
    have hI := iq_012_0 q w w5
    have hZ := iq_012_0 q w w4
    refine takeA 17 (v := ?_) rfl ?_ ?_
    rotate_left
    · (intro w hSw; (try dsimp only at hSw); go_simp; try with_reducible rfl)
    try simp only [Act.put, pu1, pu2, pu3]

    refine callA 18 rfl fun K hK => ?_
    go_simp
    refine hK.out _ _ ?_ (fun hS15 => ?_)
    · exact (by (iterate 3 (refine Far.setCell (p := ⟨(w.heap.size + 1), _, none⟩) ?_ (by show w1.heap.size ≤ (w.heap.size + 1); omega) _)); exact hS14)
    clear hK K
    refine wpAnyH_done (by kernel_rfl) ?_ _

    clear qc rc fc ec
    generalize ee : World.setCell _ ⟨(w.heap.size + 1), 2, none⟩ _ = w6
    have hsz6 := sizeS3 ee
    replace HP := rpO3 HP ee
    replace HF := fN3 HF ee
    replace HBr := bF3 HBr ee
    replace HBf := bS3 HBf ee
    replace HBe := bF3 HBe ee
    replace HYy := yS3 HYy ee
    clear ee
    clear hI hZ
    have qc := kcR HP
    have rc := kc6 HBr; have fc := kc3 HBf; have ec := kc6 HBe
    have hI := iq_012_0 q w w6
    have hZ := iq_012_0 q w w4
    go_upto_region 8 with (fail)
    clear qc rc fc ec
    generalize ee : World.setCell w6 _ _ = w7
    have hsz7 := sizeS1 ee
    replace HP := Lib.hid (HP.out.setIE (k := j) ee (by omega))
    replace HF := Lib.hid (HF.out.setQE ee)
    replace HBr := bF1 HBr ee
    replace HBf := bF1 HBf ee
    replace HBe := bF1 HBe ee
    replace HYy := yS1 HYy ee
    clear ee
    clear hI hZ
    have qc := kcR HP
    have rc := kc6 HBr; have fc := kc3 HBf; have ec := kc6 HBe
    have hI := iq_012_0 q w w7
    have hZ := iq_012_0 q w w4
    go_wp2_with (fail)
    clear qc rc fc ec
    generalize ee : World.setCell _ ⟨w.heap.size, 5, none⟩ _ = w8
    have hsz8 := sizeS6 ee
    replace HP := rpO6 HP ee
    replace HF := fN6 HF ee
    replace HBr := bS6 HBr ee
    replace HBf := bF6 HBf ee
    replace HBe := bF6 HBe ee
    replace HYy := yS6 HYy ee
    clear ee
    clear hI hZ
    have hbn : s.b = none := by unfold MS.ok at hok1; simpa using hok1
    rw [hbn] at HP
    have fc := kc6 HBr
    refine bodyPost_ret (v := .agg #[.int .i64 x.kind, .string x.name, .int .i64 x.n, .slice ay my cy, .int .i64 x.line, .int .i64 x.col]) (by clear HP HF HBr HBf HBe HYy; simp [results, Try.results76, go_sem, fc]) rfl ?_
    exact ⟨_, _, _, rfl, HF.out.out, HP.out, (memS_nw HYy.out (fun b hb => Nat.le_trans (by omega) hb.1))⟩
 ·
  exact absurd hrd (hne hok1 _ _)
end
end Go.Proofs.Ytcoiagfeoonpbaa

/-
  The module reader's part, the faulty texts. No condition but how the reader and the tokens lie.
-/
namespace Go.Proofs.Ytcoiagfeoonpbaa
open Go.RowKit
section
variable {ts : List Tk} {aL : Option Addr} {n cap q : Nat}
set_option maxRecDepth 100000 in
set_option maxHeartbeats 20000000 in
theorem mpart_no {F : Nat} {nt : Nt} {fn : FuncId} (hE : ∀ args w, Sem.run Try.prog (callFunc fn args) w = .ok (.enter fn args) w)
  (HC : ∀ (i : Nat) (r : Rd1) (w : World), MemW w (.s 5 (tkRows ts)) (.slice aL n cap) → n ≤ 1048576 → readE ts F nt i 0 = some r → Calls Try.prog fn #[.slice aL n cap, .int .i64 (i : Int)] w (RunAns r w))
  {s s' : MS} {x : Ex} (w : World) (hr : partM ts F nt s = some (x, s')) (hp : RS ts aL n cap q s ((0 : Nat) : Int) w) (hbad : s.ok = true) (hne : ∀ x j, readE ts F nt s.i 0 ≠ some (.ok x j)) :
  Calls Try.prog 76 #[.pointer (some ⟨q, 0, none⟩), .func (.func fn) #[] #[]] w (PAns ts aL n cap q x s' w) := by
 have HP := Lib.hid hp
 have hq0 := hp.lt
 have HF := Lib.hid (FarB.refl q w.heap.size w)
 clear hp
 unfold partM at hr
 go_enter Try.func76, Try.ntmps76
 go_upto_region 1 with (fail)
 generalize ee : World.alloc w _ = w1
 have hsa1 := sizeA ee
 replace HP := rpA HP ee
 replace HF := fA HF ee
 have HBr := nB ee (w.heap.size)
 clear ee
 have qc := kcR HP
 have rc := kc6 HBr
 have hI := iq_0_0 q w w1
 have hZ := iq_01 q w
 go_wp2_with (fail)
 refine (mok_any _ HP.out).mono ?_
 rintro _ _ ⟨rfl, rfl⟩
 by_cases hok : s.ok = false
 ·
  rw [hbad] at hok
  cases hok
 rw [if_neg hok] at hr
 have hok1 : s.ok = true := by simpa using hok
 rw [hok1]
 go_upto_region 3 with (fail)
 rcases hrd : readE ts F nt s.i 0 with _ | ⟨y, j⟩ | ⟨l_, c_⟩
 · (rw [hrd] at hr; cases hr)
 ·
  exact absurd hrd (hne _ _)
 ·
  rw [hrd] at hr
  simp only at hr
  cases hr
  clear qc rc
  clear hI hZ
  have qc := kcR HP
  have rc := kc6 HBr
  have hI := iq_0_0 q w w1
  have hZ := iq_01 q w
  refine wp_region_held_drew (S := fun w' => Far (fun b => w1.heap.size ≤ b) (w1) w') (by kernel_rfl) (Far.of (below_drew _)) (fun hS10 => ?_)
  refine takeA 0 (v := ?_) rfl ?_ ?_
  rotate_left
  · (intro w hSw; (try dsimp only at hSw); replace qc := Far.c6z qc hSw (by intro e; have e : _ ≤ q := e; omega); go_simp; try with_reducible rfl)
  try simp only [Act.put, pu1, pu2, pu3]
  refine takeA 1 (v := ?_) rfl ?_ ?_
  rotate_left
  · (intro w hSw; (try dsimp only at hSw); replace qc := Far.c6z qc hSw (by intro e; have e : _ ≤ q := e; omega); go_simp; try with_reducible rfl)
  try simp only [Act.put, pu1, pu2, pu3]
  refine takeA 2 (v := ?_) rfl ?_ ?_
  rotate_left
  · (intro w hSw; (try dsimp only at hSw); replace qc := Far.c6z qc hSw (by intro e; have e : _ ≤ q := e; omega); go_simp; try with_reducible rfl)
  try simp only [Act.put, pu1, pu2, pu3]
  refine takeA 3 (v := ?_) rfl ?_ ?_
  rotate_left
  · (intro w hSw; (try dsimp only at hSw); replace qc := Far.c6z qc hSw (by intro e; have e : _ ≤ q := e; omega); go_simp; try with_reducible rfl)
  try simp only [Act.put, pu1, pu2, pu3]
  refine takeA 4 (v := ?_) rfl ?_ ?_
  rotate_left
  · (intro w hSw; (try dsimp only at hSw); replace qc := Far.c6z qc hSw (by intro e; have e : _ ≤ q := e; omega); go_simp; try with_reducible rfl)
  try simp only [Act.put, pu1, pu2, pu3]
  refine takeA 5 (v := ?_) rfl ?_ ?_
  rotate_left
  · (intro w hSw; (try dsimp only at hSw); replace qc := Far.c6z qc hSw (by intro e; have e : _ ≤ q := e; omega); go_simp; try with_reducible rfl)
  try simp only [Act.put, pu1, pu2, pu3]
  refine takeA 6 (v := ?_) rfl ?_ ?_
  rotate_left
  · (intro w hSw; (try dsimp only at hSw); replace qc := Far.c6z qc hSw (by intro e; have e : _ ≤ q := e; omega); go_simp; try with_reducible rfl)
  try simp only [Act.put, pu1, pu2, pu3]
  refine takeA 7 (v := ?_) rfl ?_ ?_
  rotate_left
  · (intro w hSw; (try dsimp only at hSw); replace qc := Far.c6z qc hSw (by intro e; have e : _ ≤ q := e; omega); go_simp; try with_reducible rfl)
  try simp only [Act.put, pu1, pu2, pu3]
  refine takeA 8 (v := ?_) rfl ?_ ?_
  rotate_left
  · (intro w hSw; (try dsimp only at hSw); replace qc := Far.c6z qc hSw (by intro e; have e : _ ≤ q := e; omega); go_simp; try with_reducible rfl)
  try simp only [Act.put, pu1, pu2, pu3]

  clear qc rc
  refine threeL 9 14 15 rfl rfl rfl (by kernel_rfl) (by rfl) (by rfl) (by rfl) (fun K hK => ?_) (fun K hK => ?_) (fun K hK => ?_)
  ·
   go_simp
   refine (HC s.i (.bad l_ c_) _ HP.out.drew.mem HP.out.sm hrd).mono ?_
   rintro e w2 ⟨rfl, hb⟩
   clear hI hZ
   have HBB := Lib.hid hb
   replace hb := Below.one hb
   have hf := FarQ.of (q := q) hb
   have hsw2 : w1.heap.size ≤ w2.heap.size := hf.size
   replace HBr := qB HBr hf
   replace HF := qF HF hf
   replace HP := krP HP hb
   clear hf hb
   go_simp
   refine hK.out _ _ ?_ (fun hS11 => ?_)
   · exact Far.trans hS10 (Far.of HBB.out)
   clear hK K
   refine takeA 10 (v := ?_) rfl ?_ ?_
   rotate_left
   · (intro w hSw; (try dsimp only at hSw); go_simp; try with_reducible rfl)
   try simp only [Act.put, pu1, pu2, pu3]
   refine takeA 11 (v := ?_) rfl ?_ ?_
   rotate_left
   · (intro w hSw; (try dsimp only at hSw); go_simp; try with_reducible rfl)
   try simp only [Act.put, pu1, pu2, pu3]
   refine takeA 12 (v := ?_) rfl ?_ ?_
   rotate_left
   · (intro w hSw; (try dsimp only at hSw); go_simp; try with_reducible rfl)
   try simp only [Act.put, pu1, pu2, pu3]
   refine takeA 13 (v := ?_) rfl ?_ ?_
   rotate_left
   · (intro w hSw; (try dsimp only at hSw); go_simp; try with_reducible rfl)
   try simp only [Act.put, pu1, pu2, pu3]

   refine twoL 14 15 rfl rfl (by kernel_rfl) (by rfl) (by rfl) (fun K hK => ?_) (fun K hK => ?_)
   ·
    go_simp
    refine hK.out _ _ ?_ (fun hS12 => ?_)
    · exact Far.trans hS11 (Far.of (below_new _ _))
    clear hK K
    generalize ee : (w2.alloc (.cells #[.int .i64 0, .string ⟨#[]⟩, .int .i64 0, .slice none 0 0, .int .i64 0, .int .i64 0] 27)) = w3 at *
    have hsa3 := sizeA ee
    replace HP := rpA HP ee
    replace HF := fA HF ee
    replace HBr := bA HBr ee
    have HBe := nB ee (w2.heap.size)
    clear ee
    refine callA 15 rfl fun K hK => ?_
    go_simp
    refine hK.out _ _ ?_ (fun hS13 => ?_)
    · exact Far.trans hS12 (Far.of (below_new _ _))
    clear hK K
    generalize ee : (w3.alloc (.cells #[.int .i64 0, .int .i64 0, .int .i64 0] 30)) = w4 at *
    have hsa4 := sizeA ee
    replace HP := rpA HP ee
    replace HF := fA HF ee
    replace HBr := bA HBr ee
    replace HBe := bA HBe ee
    have HBf := nB ee (w2.heap.size + 1)
    clear ee
    have qc := kcR HP
    have rc := kc6 HBr; have ec := kc6 HBe; have fc := kc3 HBf
    have hI := chain5 q w.heap.size w2.heap.size (w2.heap.size + 1) w4.heap.size
    have hZ := chain5 q w.heap.size w2.heap.size (w2.heap.size + 1) (w2.heap.size + 2)
    refine callA 16 rfl fun K hK => ?_
    go_simp
    refine hK.out _ _ ?_ (fun hS14 => ?_)
    · exact (by (iterate 6 (refine Far.setCell (p := ⟨w2.heap.size, _, none⟩) ?_ (by show w1.heap.size ≤ w2.heap.size; omega) _)); exact hS13)
    clear hK K

    clear qc rc ec fc
    generalize ee : ((((((w4.setCell ⟨w2.heap.size, 0, none⟩ (.int .i64 0)).setCell ⟨w2.heap.size, 1, none⟩ (.string ⟨#[]⟩)).setCell ⟨w2.heap.size, 2, none⟩ (.int .i64 0)).setCell ⟨w2.heap.size, 3, none⟩ (.slice none 0 0)).setCell ⟨w2.heap.size, 4, none⟩ (.int .i64 0)).setCell ⟨w2.heap.size, 5, none⟩ (.int .i64 0)) = w5 at *
    have hsz5 := sizeS6 ee
    replace HP := rpO6 HP ee
    replace HF := fN6 HF ee
    replace HBr := bF6 HBr ee
    replace HBe := bS6 HBe ee
    replace HBf := bF6 HBf ee
    clear ee
    clear hI hZ
    have qc := kcR HP
    have rc := kc6 HBr; have ec := kc6 HBe; have fc := kc3 HBf
    have hI := chain5 q w.heap.size w2.heap.size (w2.heap.size + 1) w5.heap.size
    have hZ := chain5 q w.heap.size w2.heap.size (w2.heap.size + 1) (w2.heap.size + 2)
    refine takeA 17 (v := ?_) rfl ?_ ?_
    rotate_left
    · (intro w hSw; (try dsimp only at hSw); go_simp; try with_reducible rfl)
    try simp only [Act.put, pu1, pu2, pu3]

    refine callA 18 rfl fun K hK => ?_
    go_simp
    refine hK.out _ _ ?_ (fun hS15 => ?_)
    · exact (by (iterate 3 (refine Far.setCell (p := ⟨(w2.heap.size + 1), _, none⟩) ?_ (by show w1.heap.size ≤ (w2.heap.size + 1); omega) _)); exact hS14)
    clear hK K
    refine wpAnyH_done (by kernel_rfl) ?_ _

    clear qc rc ec fc
    generalize ee : World.setCell _ ⟨(w2.heap.size + 1), 2, none⟩ _ = w6
    have hsz6 := sizeS3 ee
    replace HP := rpO3 HP ee
    replace HF := fN3 HF ee
    replace HBr := bF3 HBr ee
    replace HBe := bF3 HBe ee
    replace HBf := bS3 HBf ee
    clear ee
    clear hI hZ
    have qc := kcR HP
    have rc := kc6 HBr; have ec := kc6 HBe; have fc := kc3 HBf
    have hI := chain5 q w.heap.size w2.heap.size (w2.heap.size + 1) w6.heap.size
    have hZ := chain5 q w.heap.size w2.heap.size (w2.heap.size + 1) (w2.heap.size + 2)
    go_upto_region 6 with (fail)
    replace HF := Lib.hid (((HF.out.setQ 3 (.int .i64 1)).setQ 4 (.int .i64 l_)).setQ 5 (.int .i64 c_))
    replace HP := Lib.hid (HP.out.fault (l := l_) (c := c_))
    replace HBr := Lib.hid (((HBr.out.far (g := q) 3 (.int .i64 1) (by omega)).far (g := q) 4 (.int .i64 l_) (by omega)).far (g := q) 5 (.int .i64 c_) (by omega))
    replace HBe := Lib.hid (((HBe.out.far (g := q) 3 (.int .i64 1) (by omega)).far (g := q) 4 (.int .i64 l_) (by omega)).far (g := q) 5 (.int .i64 c_) (by omega))
    replace HBf := Lib.hid (((HBf.out.far (g := q) 3 (.int .i64 1) (by omega)).far (g := q) 4 (.int .i64 l_) (by omega)).far (g := q) 5 (.int .i64 c_) (by omega))
    clear qc rc ec fc
    clear hI hZ
    have hsz : (((w6.setCell ⟨q, 3, none⟩ (.int .i64 1)).setCell ⟨q, 4, none⟩ (.int .i64 l_)).setCell ⟨q, 5, none⟩ (.int .i64 c_)).heap.size = w6.heap.size := by simp only [World.setCell, Array.size_modify]
    generalize (((w6.setCell ⟨q, 3, none⟩ (.int .i64 1)).setCell ⟨q, 4, none⟩ (.int .i64 l_)).setCell ⟨q, 5, none⟩ (.int .i64 c_)) = w7 at *
    have qc := kcR HP
    have rc := kc6 HBr; have ec := kc6 HBe; have fc := kc3 HBf
    have hI := chain5 q w.heap.size w2.heap.size (w2.heap.size + 1) w7.heap.size
    have hZ := chain5 q w.heap.size w2.heap.size (w2.heap.size + 1) (w2.heap.size + 2)
    go_wp2_with (fail)
    clear qc rc ec fc
    generalize ee : World.setCell _ ⟨w.heap.size, 5, none⟩ _ = w8
    have hsz8 := sizeS6 ee
    replace HP := rpO6 HP ee
    replace HF := fN6 HF ee
    replace HBr := bS6 HBr ee
    replace HBe := bF6 HBe ee
    replace HBf := bF6 HBf ee
    clear ee
    clear hI hZ
    have fc := kc6 HBr
    refine bodyPost_ret (v := .agg #[.int .i64 0, .string ⟨#[]⟩, .int .i64 0, .slice none 0 0, .int .i64 0, .int .i64 0]) (by clear HP HF HBr HBe HBf; simp [results, Try.results76, go_sem, fc]) rfl ?_
    exact ⟨_, _, _, rfl, HF.out.out, HP.out, noEx_mem⟩

   ·
    go_simp
    refine hK.out _ _ ?_ (fun hS12 => ?_)
    · exact Far.trans hS11 (Far.of (below_new _ _))
    clear hK K
    generalize ee : (w2.alloc (.cells #[.int .i64 0, .int .i64 0, .int .i64 0] 30)) = w3 at *
    have hsa3 := sizeA ee
    replace HP := rpA HP ee
    replace HF := fA HF ee
    replace HBr := bA HBr ee
    have HBf := nB ee (w2.heap.size)
    clear ee
    refine callA 14 rfl fun K hK => ?_
    go_simp
    refine hK.out _ _ ?_ (fun hS13 => ?_)
    · exact Far.trans hS12 (Far.of (below_new _ _))
    clear hK K
    generalize ee : (w3.alloc (.cells #[.int .i64 0, .string ⟨#[]⟩, .int .i64 0, .slice none 0 0, .int .i64 0, .int .i64 0] 27)) = w4 at *
    have hsa4 := sizeA ee
    replace HP := rpA HP ee
    replace HF := fA HF ee
    replace HBr := bA HBr ee
    replace HBf := bA HBf ee
    have HBe := nB ee (w2.heap.size + 1)
    clear ee
    have qc := kcR HP
    have rc := kc6 HBr; have fc := kc3 HBf; have ec := kc6 HBe
    have hI := chain5 q w.heap.size w2.heap.size (w2.heap.size + 1) w4.heap.size
    have hZ := chain5 q w.heap.size w2.heap.size (w2.heap.size + 1) (w2.heap.size + 2)
    refine callA 16 rfl fun K hK => ?_
    go_simp
    refine hK.out _ _ ?_ (fun hS14 => ?_)
    · exact (by (iterate 6 (refine Far.setCell (p := ⟨(w2.heap.size + 1), _, none⟩) ?_ (by show w1.heap.size ≤ (w2.heap.size + 1); omega) _)); exact hS13)
    clear hK K

    clear qc rc fc ec
    generalize ee : ((((((w4.setCell ⟨(w2.heap.size + 1), 0, none⟩ (.int .i64 0)).setCell ⟨(w2.heap.size + 1), 1, none⟩ (.string ⟨#[]⟩)).setCell ⟨(w2.heap.size + 1), 2, none⟩ (.int .i64 0)).setCell ⟨(w2.heap.size + 1), 3, none⟩ (.slice none 0 0)).setCell ⟨(w2.heap.size + 1), 4, none⟩ (.int .i64 0)).setCell ⟨(w2.heap.size + 1), 5, none⟩ (.int .i64 0)) = w5 at *
    have hsz5 := sizeS6 ee
    replace HP := rpO6 HP ee
    replace HF := fN6 HF ee
    replace HBr := bF6 HBr ee
    replace HBf := bF6 HBf ee
    replace HBe := bS6 HBe ee
    clear ee
    clear hI hZ
    have qc := kcR HP
    have rc := kc6 HBr; have fc := kc3 HBf; have ec := kc6 HBe
    have hI := chain5 q w.heap.size w2.heap.size (w2.heap.size + 1) w5.heap.size
    have hZ := chain5 q w.heap.size w2.heap.size (w2.heap.size + 1) (w2.heap.size + 2)
    refine takeA 17 (v := ?_) rfl ?_ ?_
    rotate_left
    · (intro w hSw; (try dsimp only at hSw); go_simp; try with_reducible rfl)
    try simp only [Act.put, pu1, pu2, pu3]

    refine callA 18 rfl fun K hK => ?_
    go_simp
    refine hK.out _ _ ?_ (fun hS15 => ?_)
    · exact (by (iterate 3 (refine Far.setCell (p := ⟨w2.heap.size, _, none⟩) ?_ (by show w1.heap.size ≤ w2.heap.size; omega) _)); exact hS14)
    clear hK K
    refine wpAnyH_done (by kernel_rfl) ?_ _

    clear qc rc fc ec
    generalize ee : World.setCell _ ⟨w2.heap.size, 2, none⟩ _ = w6
    have hsz6 := sizeS3 ee
    replace HP := rpO3 HP ee
    replace HF := fN3 HF ee
    replace HBr := bF3 HBr ee
    replace HBf := bS3 HBf ee
    replace HBe := bF3 HBe ee
    clear ee
    clear hI hZ
    have qc := kcR HP
    have rc := kc6 HBr; have fc := kc3 HBf; have ec := kc6 HBe
    have hI := chain5 q w.heap.size w2.heap.size (w2.heap.size + 1) w6.heap.size
    have hZ := chain5 q w.heap.size w2.heap.size (w2.heap.size + 1) (w2.heap.size + 2)
    go_upto_region 6 with (fail)
    replace HF := Lib.hid (((HF.out.setQ 3 (.int .i64 1)).setQ 4 (.int .i64 l_)).setQ 5 (.int .i64 c_))
    replace HP := Lib.hid (HP.out.fault (l := l_) (c := c_))
    replace HBr := Lib.hid (((HBr.out.far (g := q) 3 (.int .i64 1) (by omega)).far (g := q) 4 (.int .i64 l_) (by omega)).far (g := q) 5 (.int .i64 c_) (by omega))
    replace HBf := Lib.hid (((HBf.out.far (g := q) 3 (.int .i64 1) (by omega)).far (g := q) 4 (.int .i64 l_) (by omega)).far (g := q) 5 (.int .i64 c_) (by omega))
    replace HBe := Lib.hid (((HBe.out.far (g := q) 3 (.int .i64 1) (by omega)).far (g := q) 4 (.int .i64 l_) (by omega)).far (g := q) 5 (.int .i64 c_) (by omega))
    clear qc rc fc ec
    clear hI hZ
    have hsz : (((w6.setCell ⟨q, 3, none⟩ (.int .i64 1)).setCell ⟨q, 4, none⟩ (.int .i64 l_)).setCell ⟨q, 5, none⟩ (.int .i64 c_)).heap.size = w6.heap.size := by simp only [World.setCell, Array.size_modify]
    generalize (((w6.setCell ⟨q, 3, none⟩ (.int .i64 1)).setCell ⟨q, 4, none⟩ (.int .i64 l_)).setCell ⟨q, 5, none⟩ (.int .i64 c_)) = w7 at *
    have qc := kcR HP
    have rc := kc6 HBr; have fc := kc3 HBf; have ec := kc6 HBe
    have hI := chain5 q w.heap.size w2.heap.size (w2.heap.size + 1) w7.heap.size
    have hZ := chain5 q w.heap.size w2.heap.size (w2.heap.size + 1) (w2.heap.size + 2)
    go_wp2_with (fail)
    clear qc rc fc ec
    generalize ee : World.setCell _ ⟨w.heap.size, 5, none⟩ _ = w8
    have hsz8 := sizeS6 ee
    replace HP := rpO6 HP ee
    replace HF := fN6 HF ee
    replace HBr := bS6 HBr ee
    replace HBf := bF6 HBf ee
    replace HBe := bF6 HBe ee
    clear ee
    clear hI hZ
    have fc := kc6 HBr
    refine bodyPost_ret (v := .agg #[.int .i64 0, .string ⟨#[]⟩, .int .i64 0, .slice none 0 0, .int .i64 0, .int .i64 0]) (by clear HP HF HBr HBf HBe; simp [results, Try.results76, go_sem, fc]) rfl ?_
    exact ⟨_, _, _, rfl, HF.out.out, HP.out, noEx_mem⟩

  ·
   go_simp
   refine hK.out _ _ ?_ (fun hS11 => ?_)
   · exact Far.trans hS10 (Far.of (below_new _ _))
   clear hK K
   generalize ee : (w1.alloc (.cells #[.int .i64 0, .string ⟨#[]⟩, .int .i64 0, .slice none 0 0, .int .i64 0, .int .i64 0] 27)) = w2_1 at *
   have hq1 := sizeA ee
   replace HP := rpA HP ee
   replace HF := fA HF ee
   replace HBr := bA HBr ee
   have HBe := nB ee (w.heap.size + 1)
   clear ee
   generalize ee : (w2_1.drew) = w2 at *
   have hq2 := sizeD ee
   replace HP := rpD HP ee
   replace HF := fD HF ee
   replace HBr := bD HBr ee
   replace HBe := bD HBe ee
   clear ee
   have hsa2 : w2.heap.size = w.heap.size + 2 := by omega
   clear hq1 hq2
   clear hI hZ
   refine twoL 9 15 rfl rfl (by kernel_rfl) (by rfl) (by rfl) (fun K hK => ?_) (fun K hK => ?_)
   ·
    go_simp
    refine (HC s.i (.bad l_ c_) _ HP.out.mem HP.out.sm hrd).mono ?_
    rintro e w3 ⟨rfl, hb⟩
    have HBB := Lib.hid hb
    have hf := FarQ.of (q := q) hb
    have hsw3 : w2.heap.size ≤ w3.heap.size := hf.size
    replace HBr := qB HBr hf
    replace HBe := qB HBe hf
    replace HF := qF HF hf
    replace HP := krP HP hb
    clear hf hb
    go_simp
    refine hK.out _ _ ?_ (fun hS12 => ?_)
    · exact Far.trans hS11 (Far.of HBB.out)
    clear hK K
    refine takeA 10 (v := ?_) rfl ?_ ?_
    rotate_left
    · (intro w hSw; (try dsimp only at hSw); go_simp; try with_reducible rfl)
    try simp only [Act.put, pu1, pu2, pu3]
    refine takeA 11 (v := ?_) rfl ?_ ?_
    rotate_left
    · (intro w hSw; (try dsimp only at hSw); go_simp; try with_reducible rfl)
    try simp only [Act.put, pu1, pu2, pu3]
    refine takeA 12 (v := ?_) rfl ?_ ?_
    rotate_left
    · (intro w hSw; (try dsimp only at hSw); go_simp; try with_reducible rfl)
    try simp only [Act.put, pu1, pu2, pu3]
    refine takeA 13 (v := ?_) rfl ?_ ?_
    rotate_left
    · (intro w hSw; (try dsimp only at hSw); go_simp; try with_reducible rfl)
    try simp only [Act.put, pu1, pu2, pu3]

    refine callA 15 rfl fun K hK => ?_
    go_simp
    refine hK.out _ _ ?_ (fun hS13 => ?_)
    · exact Far.trans hS12 (Far.of (below_new _ _))
    clear hK K
    generalize ee : (w3.alloc (.cells #[.int .i64 0, .int .i64 0, .int .i64 0] 30)) = w4 at *
    have hsa4 := sizeA ee
    replace HP := rpA HP ee
    replace HF := fA HF ee
    replace HBr := bA HBr ee
    replace HBe := bA HBe ee
    have HBf := nB ee (w3.heap.size)
    clear ee
    have qc := kcR HP
    have rc := kc6 HBr; have ec := kc6 HBe; have fc := kc3 HBf
    have hI := chain5 q w.heap.size (w.heap.size + 1) w3.heap.size w4.heap.size
    have hZ := chain5 q w.heap.size (w.heap.size + 1) w3.heap.size (w3.heap.size + 1)
    refine callA 16 rfl fun K hK => ?_
    go_simp
    refine hK.out _ _ ?_ (fun hS14 => ?_)
    · exact (by (iterate 6 (refine Far.setCell (p := ⟨(w.heap.size + 1), _, none⟩) ?_ (by show w1.heap.size ≤ (w.heap.size + 1); omega) _)); exact hS13)
    clear hK K

    clear qc rc ec fc
    generalize ee : ((((((w4.setCell ⟨(w.heap.size + 1), 0, none⟩ (.int .i64 0)).setCell ⟨(w.heap.size + 1), 1, none⟩ (.string ⟨#[]⟩)).setCell ⟨(w.heap.size + 1), 2, none⟩ (.int .i64 0)).setCell ⟨(w.heap.size + 1), 3, none⟩ (.slice none 0 0)).setCell ⟨(w.heap.size + 1), 4, none⟩ (.int .i64 0)).setCell ⟨(w.heap.size + 1), 5, none⟩ (.int .i64 0)) = w5 at *
    have hsz5 := sizeS6 ee
    replace HP := rpO6 HP ee
    replace HF := fN6 HF ee
    replace HBr := bF6 HBr ee
    replace HBe := bS6 HBe ee
    replace HBf := bF6 HBf ee
    clear ee
    clear hI hZ
    have qc := kcR HP
    have rc := kc6 HBr; have ec := kc6 HBe; have fc := kc3 HBf
    have hI := chain5 q w.heap.size (w.heap.size + 1) w3.heap.size w5.heap.size
    have hZ := chain5 q w.heap.size (w.heap.size + 1) w3.heap.size (w3.heap.size + 1)
    refine takeA 17 (v := ?_) rfl ?_ ?_
    rotate_left
    · (intro w hSw; (try dsimp only at hSw); go_simp; try with_reducible rfl)
    try simp only [Act.put, pu1, pu2, pu3]

    refine callA 18 rfl fun K hK => ?_
    go_simp
    refine hK.out _ _ ?_ (fun hS15 => ?_)
    · exact (by (iterate 3 (refine Far.setCell (p := ⟨w3.heap.size, _, none⟩) ?_ (by show w1.heap.size ≤ w3.heap.size; omega) _)); exact hS14)
    clear hK K
    refine wpAnyH_done (by kernel_rfl) ?_ _

    clear qc rc ec fc
    generalize ee : World.setCell _ ⟨w3.heap.size, 2, none⟩ _ = w6
    have hsz6 := sizeS3 ee
    replace HP := rpO3 HP ee
    replace HF := fN3 HF ee
    replace HBr := bF3 HBr ee
    replace HBe := bF3 HBe ee
    replace HBf := bS3 HBf ee
    clear ee
    clear hI hZ
    have qc := kcR HP
    have rc := kc6 HBr; have ec := kc6 HBe; have fc := kc3 HBf
    have hI := chain5 q w.heap.size (w.heap.size + 1) w3.heap.size w6.heap.size
    have hZ := chain5 q w.heap.size (w.heap.size + 1) w3.heap.size (w3.heap.size + 1)
    go_upto_region 6 with (fail)
    replace HF := Lib.hid (((HF.out.setQ 3 (.int .i64 1)).setQ 4 (.int .i64 l_)).setQ 5 (.int .i64 c_))
    replace HP := Lib.hid (HP.out.fault (l := l_) (c := c_))
    replace HBr := Lib.hid (((HBr.out.far (g := q) 3 (.int .i64 1) (by omega)).far (g := q) 4 (.int .i64 l_) (by omega)).far (g := q) 5 (.int .i64 c_) (by omega))
    replace HBe := Lib.hid (((HBe.out.far (g := q) 3 (.int .i64 1) (by omega)).far (g := q) 4 (.int .i64 l_) (by omega)).far (g := q) 5 (.int .i64 c_) (by omega))
    replace HBf := Lib.hid (((HBf.out.far (g := q) 3 (.int .i64 1) (by omega)).far (g := q) 4 (.int .i64 l_) (by omega)).far (g := q) 5 (.int .i64 c_) (by omega))
    clear qc rc ec fc
    clear hI hZ
    have hsz : (((w6.setCell ⟨q, 3, none⟩ (.int .i64 1)).setCell ⟨q, 4, none⟩ (.int .i64 l_)).setCell ⟨q, 5, none⟩ (.int .i64 c_)).heap.size = w6.heap.size := by simp only [World.setCell, Array.size_modify]
    generalize (((w6.setCell ⟨q, 3, none⟩ (.int .i64 1)).setCell ⟨q, 4, none⟩ (.int .i64 l_)).setCell ⟨q, 5, none⟩ (.int .i64 c_)) = w7 at *
    have qc := kcR HP
    have rc := kc6 HBr; have ec := kc6 HBe; have fc := kc3 HBf
    have hI := chain5 q w.heap.size (w.heap.size + 1) w3.heap.size w7.heap.size
    have hZ := chain5 q w.heap.size (w.heap.size + 1) w3.heap.size (w3.heap.size + 1)
    go_wp2_with (fail)
    clear qc rc ec fc
    generalize ee : World.setCell _ ⟨w.heap.size, 5, none⟩ _ = w8
    have hsz8 := sizeS6 ee
    replace HP := rpO6 HP ee
    replace HF := fN6 HF ee
    replace HBr := bS6 HBr ee
    replace HBe := bF6 HBe ee
    replace HBf := bF6 HBf ee
    clear ee
    clear hI hZ
    have fc := kc6 HBr
    refine bodyPost_ret (v := .agg #[.int .i64 0, .string ⟨#[]⟩, .int .i64 0, .slice none 0 0, .int .i64 0, .int .i64 0]) (by clear HP HF HBr HBe HBf; simp [results, Try.results76, go_sem, fc]) rfl ?_
    exact ⟨_, _, _, rfl, HF.out.out, HP.out, noEx_mem⟩

   ·
    go_simp
    refine hK.out _ _ ?_ (fun hS12 => ?_)
    · exact Far.trans hS11 (Far.of (below_new _ _))
    clear hK K
    generalize ee : (w2.alloc (.cells #[.int .i64 0, .int .i64 0, .int .i64 0] 30)) = w3 at *
    have hsa3 := sizeA ee
    replace HP := rpA HP ee
    replace HF := fA HF ee
    replace HBr := bA HBr ee
    replace HBe := bA HBe ee
    have HBf := nB ee (w.heap.size + 2)
    clear ee
    refine callA 9 rfl fun K hK => ?_
    go_simp
    refine (HC s.i (.bad l_ c_) _ HP.out.mem HP.out.sm hrd).mono ?_
    rintro e w4 ⟨rfl, hb⟩
    have HBB := Lib.hid hb
    have hf := FarQ.of (q := q) hb
    have hsw4 : w3.heap.size ≤ w4.heap.size := hf.size
    replace HBr := qB HBr hf
    replace HBe := qB HBe hf
    replace HBf := qB HBf hf
    replace HF := qF HF hf
    replace HP := krP HP hb
    clear hf hb
    go_simp
    refine hK.out _ _ ?_ (fun hS13 => ?_)
    · exact Far.trans hS12 (Far.of HBB.out)
    clear hK K
    refine takeA 10 (v := ?_) rfl ?_ ?_
    rotate_left
    · (intro w hSw; (try dsimp only at hSw); go_simp; try with_reducible rfl)
    try simp only [Act.put, pu1, pu2, pu3]
    refine takeA 11 (v := ?_) rfl ?_ ?_
    rotate_left
    · (intro w hSw; (try dsimp only at hSw); go_simp; try with_reducible rfl)
    try simp only [Act.put, pu1, pu2, pu3]
    refine takeA 12 (v := ?_) rfl ?_ ?_
    rotate_left
    · (intro w hSw; (try dsimp only at hSw); go_simp; try with_reducible rfl)
    try simp only [Act.put, pu1, pu2, pu3]
    refine takeA 13 (v := ?_) rfl ?_ ?_
    rotate_left
    · (intro w hSw; (try dsimp only at hSw); go_simp; try with_reducible rfl)
    try simp only [Act.put, pu1, pu2, pu3]

    have qc := kcR HP
    have rc := kc6 HBr; have ec := kc6 HBe; have fc := kc3 HBf
    have hI := iq_012_0 q w w4
    refine callA 16 rfl fun K hK => ?_
    go_simp
    refine hK.out _ _ ?_ (fun hS14 => ?_)
    · exact (by (iterate 6 (refine Far.setCell (p := ⟨(w.heap.size + 1), _, none⟩) ?_ (by show w1.heap.size ≤ (w.heap.size + 1); omega) _)); exact hS13)
    clear hK K

    clear qc rc ec fc
    generalize ee : ((((((w4.setCell ⟨(w.heap.size + 1), 0, none⟩ (.int .i64 0)).setCell ⟨(w.heap.size + 1), 1, none⟩ (.string ⟨#[]⟩)).setCell ⟨(w.heap.size + 1), 2, none⟩ (.int .i64 0)).setCell ⟨(w.heap.size + 1), 3, none⟩ (.slice none 0 0)).setCell ⟨(w.heap.size + 1), 4, none⟩ (.int .i64 0)).setCell ⟨(w.heap.size + 1), 5, none⟩ (.int .i64 0)) = w5 at *
    have hsz5 := sizeS6 ee
    replace HP := rpO6 HP ee
    replace HF := fN6 HF ee
    replace HBr := bF6 HBr ee
    replace HBe := bS6 HBe ee
    replace HBf := bF6 HBf ee
    clear ee
    clear hI
    have qc := kcR HP
    have rc := kc6 HBr; have ec := kc6 HBe; have fc := kc3 HBf
    have hI := iq_012_0 q w w5
    have hZ := iq_012_0 q w w4
    refine takeA 17 (v := ?_) rfl ?_ ?_
    rotate_left
    · (intro w hSw; (try dsimp only at hSw); go_simp; try with_reducible rfl)
    try simp only [Act.put, pu1, pu2, pu3]

    refine callA 18 rfl fun K hK => ?_
    go_simp
    refine hK.out _ _ ?_ (fun hS15 => ?_)
    · exact (by (iterate 3 (refine Far.setCell (p := ⟨(w.heap.size + 2), _, none⟩) ?_ (by show w1.heap.size ≤ (w.heap.size + 2); omega) _)); exact hS14)
    clear hK K
    refine wpAnyH_done (by kernel_rfl) ?_ _

    clear qc rc ec fc
    generalize ee : World.setCell _ ⟨(w.heap.size + 2), 2, none⟩ _ = w6
    have hsz6 := sizeS3 ee
    replace HP := rpO3 HP ee
    replace HF := fN3 HF ee
    replace HBr := bF3 HBr ee
    replace HBe := bF3 HBe ee
    replace HBf := bS3 HBf ee
    clear ee
    clear hI hZ
    have qc := kcR HP
    have rc := kc6 HBr; have ec := kc6 HBe; have fc := kc3 HBf
    have hI := iq_012_0 q w w6
    have hZ := iq_012_0 q w w4
    go_upto_region 6 with (fail)
    replace HF := Lib.hid (((HF.out.setQ 3 (.int .i64 1)).setQ 4 (.int .i64 l_)).setQ 5 (.int .i64 c_))
    replace HP := Lib.hid (HP.out.fault (l := l_) (c := c_))
    replace HBr := Lib.hid (((HBr.out.far (g := q) 3 (.int .i64 1) (by omega)).far (g := q) 4 (.int .i64 l_) (by omega)).far (g := q) 5 (.int .i64 c_) (by omega))
    replace HBe := Lib.hid (((HBe.out.far (g := q) 3 (.int .i64 1) (by omega)).far (g := q) 4 (.int .i64 l_) (by omega)).far (g := q) 5 (.int .i64 c_) (by omega))
    replace HBf := Lib.hid (((HBf.out.far (g := q) 3 (.int .i64 1) (by omega)).far (g := q) 4 (.int .i64 l_) (by omega)).far (g := q) 5 (.int .i64 c_) (by omega))
    clear qc rc ec fc
    clear hI hZ
    have hsz : (((w6.setCell ⟨q, 3, none⟩ (.int .i64 1)).setCell ⟨q, 4, none⟩ (.int .i64 l_)).setCell ⟨q, 5, none⟩ (.int .i64 c_)).heap.size = w6.heap.size := by simp only [World.setCell, Array.size_modify]
    generalize (((w6.setCell ⟨q, 3, none⟩ (.int .i64 1)).setCell ⟨q, 4, none⟩ (.int .i64 l_)).setCell ⟨q, 5, none⟩ (.int .i64 c_)) = w7 at *
    have qc := kcR HP
    have rc := kc6 HBr; have ec := kc6 HBe; have fc := kc3 HBf
    have hI := iq_012_0 q w w7
    have hZ := iq_012_0 q w w4
    go_wp2_with (fail)
    clear qc rc ec fc
    generalize ee : World.setCell _ ⟨w.heap.size, 5, none⟩ _ = w8
    have hsz8 := sizeS6 ee
    replace HP := rpO6 HP ee
    replace HF := fN6 HF ee
    replace HBr := bS6 HBr ee
    replace HBe := bF6 HBe ee
    replace HBf := bF6 HBf ee
    clear ee
    clear hI hZ
    have fc := kc6 HBr
    refine bodyPost_ret (v := .agg #[.int .i64 0, .string ⟨#[]⟩, .int .i64 0, .slice none 0 0, .int .i64 0, .int .i64 0]) (by clear HP HF HBr HBe HBf; simp [results, Try.results76, go_sem, fc]) rfl ?_
    exact ⟨_, _, _, rfl, HF.out.out, HP.out, noEx_mem⟩

  ·
   go_simp
   refine hK.out _ _ ?_ (fun hS11 => ?_)
   · exact Far.trans hS10 (Far.of (below_new _ _))
   clear hK K
   generalize ee : (w1.alloc (.cells #[.int .i64 0, .int .i64 0, .int .i64 0] 30)) = w2_1 at *
   have hq1 := sizeA ee
   replace HP := rpA HP ee
   replace HF := fA HF ee
   replace HBr := bA HBr ee
   have HBf := nB ee (w.heap.size + 1)
   clear ee
   generalize ee : (w2_1.drew) = w2 at *
   have hq2 := sizeD ee
   replace HP := rpD HP ee
   replace HF := fD HF ee
   replace HBr := bD HBr ee
   replace HBf := bD HBf ee
   clear ee
   have hsa2 : w2.heap.size = w.heap.size + 2 := by omega
   clear hq1 hq2
   clear hI hZ
   refine twoL 9 14 rfl rfl (by kernel_rfl) (by rfl) (by rfl) (fun K hK => ?_) (fun K hK => ?_)
   ·
    go_simp
    refine (HC s.i (.bad l_ c_) _ HP.out.mem HP.out.sm hrd).mono ?_
    rintro e w3 ⟨rfl, hb⟩
    have HBB := Lib.hid hb
    have hf := FarQ.of (q := q) hb
    have hsw3 : w2.heap.size ≤ w3.heap.size := hf.size
    replace HBr := qB HBr hf
    replace HBf := qB HBf hf
    replace HF := qF HF hf
    replace HP := krP HP hb
    clear hf hb
    go_simp
    refine hK.out _ _ ?_ (fun hS12 => ?_)
    · exact Far.trans hS11 (Far.of HBB.out)
    clear hK K
    refine takeA 10 (v := ?_) rfl ?_ ?_
    rotate_left
    · (intro w hSw; (try dsimp only at hSw); go_simp; try with_reducible rfl)
    try simp only [Act.put, pu1, pu2, pu3]
    refine takeA 11 (v := ?_) rfl ?_ ?_
    rotate_left
    · (intro w hSw; (try dsimp only at hSw); go_simp; try with_reducible rfl)
    try simp only [Act.put, pu1, pu2, pu3]
    refine takeA 12 (v := ?_) rfl ?_ ?_
    rotate_left
    · (intro w hSw; (try dsimp only at hSw); go_simp; try with_reducible rfl)
    try simp only [Act.put, pu1, pu2, pu3]
    refine takeA 13 (v := ?_) rfl ?_ ?_
    rotate_left
    · (intro w hSw; (try dsimp only at hSw); go_simp; try with_reducible rfl)
    try simp only [Act.put, pu1, pu2, pu3]

    refine callA 14 rfl fun K hK => ?_
    go_simp
    refine hK.out _ _ ?_ (fun hS13 => ?_)
    · exact Far.trans hS12 (Far.of (below_new _ _))
    clear hK K
    generalize ee : (w3.alloc (.cells #[.int .i64 0, .string ⟨#[]⟩, .int .i64 0, .slice none 0 0, .int .i64 0, .int .i64 0] 27)) = w4 at *
    have hsa4 := sizeA ee
    replace HP := rpA HP ee
    replace HF := fA HF ee
    replace HBr := bA HBr ee
    replace HBf := bA HBf ee
    have HBe := nB ee (w3.heap.size)
    clear ee
    have qc := kcR HP
    have rc := kc6 HBr; have fc := kc3 HBf; have ec := kc6 HBe
    have hI := chain5 q w.heap.size (w.heap.size + 1) w3.heap.size w4.heap.size
    have hZ := chain5 q w.heap.size (w.heap.size + 1) w3.heap.size (w3.heap.size + 1)
    refine callA 16 rfl fun K hK => ?_
    go_simp
    refine hK.out _ _ ?_ (fun hS14 => ?_)
    · exact (by (iterate 6 (refine Far.setCell (p := ⟨w3.heap.size, _, none⟩) ?_ (by show w1.heap.size ≤ w3.heap.size; omega) _)); exact hS13)
    clear hK K

    clear qc rc fc ec
    generalize ee : ((((((w4.setCell ⟨w3.heap.size, 0, none⟩ (.int .i64 0)).setCell ⟨w3.heap.size, 1, none⟩ (.string ⟨#[]⟩)).setCell ⟨w3.heap.size, 2, none⟩ (.int .i64 0)).setCell ⟨w3.heap.size, 3, none⟩ (.slice none 0 0)).setCell ⟨w3.heap.size, 4, none⟩ (.int .i64 0)).setCell ⟨w3.heap.size, 5, none⟩ (.int .i64 0)) = w5 at *
    have hsz5 := sizeS6 ee
    replace HP := rpO6 HP ee
    replace HF := fN6 HF ee
    replace HBr := bF6 HBr ee
    replace HBf := bF6 HBf ee
    replace HBe := bS6 HBe ee
    clear ee
    clear hI hZ
    have qc := kcR HP
    have rc := kc6 HBr; have fc := kc3 HBf; have ec := kc6 HBe
    have hI := chain5 q w.heap.size (w.heap.size + 1) w3.heap.size w5.heap.size
    have hZ := chain5 q w.heap.size (w.heap.size + 1) w3.heap.size (w3.heap.size + 1)
    refine takeA 17 (v := ?_) rfl ?_ ?_
    rotate_left
    · (intro w hSw; (try dsimp only at hSw); go_simp; try with_reducible rfl)
    try simp only [Act.put, pu1, pu2, pu3]

    refine callA 18 rfl fun K hK => ?_
    go_simp
    refine hK.out _ _ ?_ (fun hS15 => ?_)
    · exact (by (iterate 3 (refine Far.setCell (p := ⟨(w.heap.size + 1), _, none⟩) ?_ (by show w1.heap.size ≤ (w.heap.size + 1); omega) _)); exact hS14)
    clear hK K
    refine wpAnyH_done (by kernel_rfl) ?_ _

    clear qc rc fc ec
    generalize ee : World.setCell _ ⟨(w.heap.size + 1), 2, none⟩ _ = w6
    have hsz6 := sizeS3 ee
    replace HP := rpO3 HP ee
    replace HF := fN3 HF ee
    replace HBr := bF3 HBr ee
    replace HBf := bS3 HBf ee
    replace HBe := bF3 HBe ee
    clear ee
    clear hI hZ
    have qc := kcR HP
    have rc := kc6 HBr; have fc := kc3 HBf; have ec := kc6 HBe
    have hI := chain5 q w.heap.size (w.heap.size + 1) w3.heap.size w6.heap.size
    have hZ := chain5 q w.heap.size (w.heap.size + 1) w3.heap.size (w3.heap.size + 1)
    go_upto_region 6 with (fail)
    replace HF := Lib.hid (((HF.out.setQ 3 (.int .i64 1)).setQ 4 (.int .i64 l_)).setQ 5 (.int .i64 c_))
    replace HP := Lib.hid (HP.out.fault (l := l_) (c := c_))
    replace HBr := Lib.hid (((HBr.out.far (g := q) 3 (.int .i64 1) (by omega)).far (g := q) 4 (.int .i64 l_) (by omega)).far (g := q) 5 (.int .i64 c_) (by omega))
    replace HBf := Lib.hid (((HBf.out.far (g := q) 3 (.int .i64 1) (by omega)).far (g := q) 4 (.int .i64 l_) (by omega)).far (g := q) 5 (.int .i64 c_) (by omega))
    replace HBe := Lib.hid (((HBe.out.far (g := q) 3 (.int .i64 1) (by omega)).far (g := q) 4 (.int .i64 l_) (by omega)).far (g := q) 5 (.int .i64 c_) (by omega))
    clear qc rc fc ec
    clear hI hZ
    have hsz : (((w6.setCell ⟨q, 3, none⟩ (.int .i64 1)).setCell ⟨q, 4, none⟩ (.int .i64 l_)).setCell ⟨q, 5, none⟩ (.int .i64 c_)).heap.size = w6.heap.size := by simp only [World.setCell, Array.size_modify]
    generalize (((w6.setCell ⟨q, 3, none⟩ (.int .i64 1)).setCell ⟨q, 4, none⟩ (.int .i64 l_)).setCell ⟨q, 5, none⟩ (.int .i64 c_)) = w7 at *
    have qc := kcR HP
    have rc := kc6 HBr; have fc := kc3 HBf; have ec := kc6 HBe
    have hI := chain5 q w.heap.size (w.heap.size + 1) w3.heap.size w7.heap.size
    have hZ := chain5 q w.heap.size (w.heap.size + 1) w3.heap.size (w3.heap.size + 1)
    go_wp2_with (fail)
    clear qc rc fc ec
    generalize ee : World.setCell _ ⟨w.heap.size, 5, none⟩ _ = w8
    have hsz8 := sizeS6 ee
    replace HP := rpO6 HP ee
    replace HF := fN6 HF ee
    replace HBr := bS6 HBr ee
    replace HBf := bF6 HBf ee
    replace HBe := bF6 HBe ee
    clear ee
    clear hI hZ
    have fc := kc6 HBr
    refine bodyPost_ret (v := .agg #[.int .i64 0, .string ⟨#[]⟩, .int .i64 0, .slice none 0 0, .int .i64 0, .int .i64 0]) (by clear HP HF HBr HBf HBe; simp [results, Try.results76, go_sem, fc]) rfl ?_
    exact ⟨_, _, _, rfl, HF.out.out, HP.out, noEx_mem⟩

   ·
    go_simp
    refine hK.out _ _ ?_ (fun hS12 => ?_)
    · exact Far.trans hS11 (Far.of (below_new _ _))
    clear hK K
    generalize ee : (w2.alloc (.cells #[.int .i64 0, .string ⟨#[]⟩, .int .i64 0, .slice none 0 0, .int .i64 0, .int .i64 0] 27)) = w3 at *
    have hsa3 := sizeA ee
    replace HP := rpA HP ee
    replace HF := fA HF ee
    replace HBr := bA HBr ee
    replace HBf := bA HBf ee
    have HBe := nB ee (w.heap.size + 2)
    clear ee
    refine callA 9 rfl fun K hK => ?_
    go_simp
    refine (HC s.i (.bad l_ c_) _ HP.out.mem HP.out.sm hrd).mono ?_
    rintro e w4 ⟨rfl, hb⟩
    have HBB := Lib.hid hb
    have hf := FarQ.of (q := q) hb
    have hsw4 : w3.heap.size ≤ w4.heap.size := hf.size
    replace HBr := qB HBr hf
    replace HBf := qB HBf hf
    replace HBe := qB HBe hf
    replace HF := qF HF hf
    replace HP := krP HP hb
    clear hf hb
    go_simp
    refine hK.out _ _ ?_ (fun hS13 => ?_)
    · exact Far.trans hS12 (Far.of HBB.out)
    clear hK K
    refine takeA 10 (v := ?_) rfl ?_ ?_
    rotate_left
    · (intro w hSw; (try dsimp only at hSw); go_simp; try with_reducible rfl)
    try simp only [Act.put, pu1, pu2, pu3]
    refine takeA 11 (v := ?_) rfl ?_ ?_
    rotate_left
    · (intro w hSw; (try dsimp only at hSw); go_simp; try with_reducible rfl)
    try simp only [Act.put, pu1, pu2, pu3]
    refine takeA 12 (v := ?_) rfl ?_ ?_
    rotate_left
    · (intro w hSw; (try dsimp only at hSw); go_simp; try with_reducible rfl)
    try simp only [Act.put, pu1, pu2, pu3]
    refine takeA 13 (v := ?_) rfl ?_ ?_
    rotate_left
    · (intro w hSw; (try dsimp only at hSw); go_simp; try with_reducible rfl)
    try simp only [Act.put, pu1, pu2, pu3]

    have qc := kcR HP
    have rc := kc6 HBr; have fc := kc3 HBf; have ec := kc6 HBe
    have hI := iq_012_0 q w w4
    refine callA 16 rfl fun K hK => ?_
    go_simp
    refine hK.out _ _ ?_ (fun hS14 => ?_)
    · exact (by (iterate 6 (refine Far.setCell (p := ⟨(w.heap.size + 2), _, none⟩) ?_ (by show w1.heap.size ≤ (w.heap.size + 2); omega) _)); exact hS13)
    clear hK K

    clear qc rc fc ec
    generalize ee : ((((((w4.setCell ⟨(w.heap.size + 2), 0, none⟩ (.int .i64 0)).setCell ⟨(w.heap.size + 2), 1, none⟩ (.string ⟨#[]⟩)).setCell ⟨(w.heap.size + 2), 2, none⟩ (.int .i64 0)).setCell ⟨(w.heap.size + 2), 3, none⟩ (.slice none 0 0)).setCell ⟨(w.heap.size + 2), 4, none⟩ (.int .i64 0)).setCell ⟨(w.heap.size + 2), 5, none⟩ (.int .i64 0)) = w5 at *
    have hsz5 := sizeS6 ee
    replace HP := rpO6 HP ee
    replace HF := fN6 HF ee
    replace HBr := bF6 HBr ee
    replace HBf := bF6 HBf ee
    replace HBe := bS6 HBe ee
    clear ee
    clear hI
    have qc := kcR HP
    have rc := kc6 HBr; have fc := kc3 HBf; have ec := kc6 HBe
    have hI := iq_012_0 q w w5
    have hZ := iq_012_0 q w w4
    refine takeA 17 (v := ?_) rfl ?_ ?_
    rotate_left
    · (intro w hSw; (try dsimp only at hSw); go_simp; try with_reducible rfl)
    try simp only [Act.put, pu1, pu2, pu3]

    refine callA 18 rfl fun K hK => ?_
    go_simp
    refine hK.out _ _ ?_ (fun hS15 => ?_)
    · exact (by (iterate 3 (refine Far.setCell (p := ⟨(w.heap.size + 1), _, none⟩) ?_ (by show w1.heap.size ≤ (w.heap.size + 1); omega) _)); exact hS14)
    clear hK K
    refine wpAnyH_done (by kernel_rfl) ?_ _

    clear qc rc fc ec
    generalize ee : World.setCell _ ⟨(w.heap.size + 1), 2, none⟩ _ = w6
    have hsz6 := sizeS3 ee
    replace HP := rpO3 HP ee
    replace HF := fN3 HF ee
    replace HBr := bF3 HBr ee
    replace HBf := bS3 HBf ee
    replace HBe := bF3 HBe ee
    clear ee
    clear hI hZ
    have qc := kcR HP
    have rc := kc6 HBr; have fc := kc3 HBf; have ec := kc6 HBe
    have hI := iq_012_0 q w w6
    have hZ := iq_012_0 q w w4
    go_upto_region 6 with (fail)
    replace HF := Lib.hid (((HF.out.setQ 3 (.int .i64 1)).setQ 4 (.int .i64 l_)).setQ 5 (.int .i64 c_))
    replace HP := Lib.hid (HP.out.fault (l := l_) (c := c_))
    replace HBr := Lib.hid (((HBr.out.far (g := q) 3 (.int .i64 1) (by omega)).far (g := q) 4 (.int .i64 l_) (by omega)).far (g := q) 5 (.int .i64 c_) (by omega))
    replace HBf := Lib.hid (((HBf.out.far (g := q) 3 (.int .i64 1) (by omega)).far (g := q) 4 (.int .i64 l_) (by omega)).far (g := q) 5 (.int .i64 c_) (by omega))
    replace HBe := Lib.hid (((HBe.out.far (g := q) 3 (.int .i64 1) (by omega)).far (g := q) 4 (.int .i64 l_) (by omega)).far (g := q) 5 (.int .i64 c_) (by omega))
    clear qc rc fc ec
    clear hI hZ
    have hsz : (((w6.setCell ⟨q, 3, none⟩ (.int .i64 1)).setCell ⟨q, 4, none⟩ (.int .i64 l_)).setCell ⟨q, 5, none⟩ (.int .i64 c_)).heap.size = w6.heap.size := by simp only [World.setCell, Array.size_modify]
    generalize (((w6.setCell ⟨q, 3, none⟩ (.int .i64 1)).setCell ⟨q, 4, none⟩ (.int .i64 l_)).setCell ⟨q, 5, none⟩ (.int .i64 c_)) = w7 at *
    have qc := kcR HP
    have rc := kc6 HBr; have fc := kc3 HBf; have ec := kc6 HBe
    have hI := iq_012_0 q w w7
    have hZ := iq_012_0 q w w4
    go_wp2_with (fail)
    clear qc rc fc ec
    generalize ee : World.setCell _ ⟨w.heap.size, 5, none⟩ _ = w8
    have hsz8 := sizeS6 ee
    replace HP := rpO6 HP ee
    replace HF := fN6 HF ee
    replace HBr := bS6 HBr ee
    replace HBf := bF6 HBf ee
    replace HBe := bF6 HBe ee
    clear ee
    clear hI hZ
    have fc := kc6 HBr
    refine bodyPost_ret (v := .agg #[.int .i64 0, .string ⟨#[]⟩, .int .i64 0, .slice none 0 0, .int .i64 0, .int .i64 0]) (by clear HP HF HBr HBf HBe; simp [results, Try.results76, go_sem, fc]) rfl ?_
    exact ⟨_, _, _, rfl, HF.out.out, HP.out, noEx_mem⟩
end
end Go.Proofs.Ytcoiagfeoonpbaa

/-
  The module reader's part, whole. No condition but how the reader and the tokens lie.
-/
namespace Go.Proofs.Ytcoiagfeoonpbaa
open Go.RowKit
section
variable {ts : List Tk} {aL : Option Addr} {n cap q : Nat}
theorem part_run {F : Nat} {nt : Nt} {fn : FuncId} (hE : ∀ args w, Sem.run Try.prog (callFunc fn args) w = .ok (.enter fn args) w)
  (HC : ∀ (i : Nat) (r : Rd1) (w : World), MemW w (.s 5 (tkRows ts)) (.slice aL n cap) → n ≤ 1048576 → readE ts F nt i 0 = some r → Calls Try.prog fn #[.slice aL n cap, .int .i64 (i : Int)] w (RunAns r w))
  {s s' : MS} {x : Ex} (w : World) (hr : partM ts F nt s = some (x, s')) (hp : RS ts aL n cap q s ((0 : Nat) : Int) w) :
  Calls Try.prog 76 #[.pointer (some ⟨q, 0, none⟩), .func (.func fn) #[] #[]] w (PAns ts aL n cap q x s' w) := by
 by_cases h : s.ok = true ∧ ∃ l c, readE ts F nt s.i 0 = some (.bad l c)
 · exact mpart_no hE HC w hr hp h.1 fun x j e => by obtain ⟨_, l, c, h⟩ := h; rw [h] at e; cases e
 · exact mpart_yes hE HC w hr hp fun hs l c e => h ⟨hs, l, c, e⟩
theorem part_pat {F : Nat} {s s' : MS} {x : Ex} (w : World) (hr : partM ts F .pat s = some (x, s')) (hp : RS ts aL n cap q s ((0 : Nat) : Int) w) : Calls Try.prog 76 #[.pointer (some ⟨q, 0, none⟩), .func (.func 77) #[] #[]] w (PAns ts aL n cap q x s' w) :=
 part_run (fun _ _ => by kernel_rfl) (fun i r w hm hn hrd => pat_any (i := (i : Int)) w hm hn (by simpa using hrd)) w hr hp
theorem part_expr {F : Nat} {s s' : MS} {x : Ex} (w : World) (hr : partM ts F .expr s = some (x, s')) (hp : RS ts aL n cap q s ((0 : Nat) : Int) w) : Calls Try.prog 76 #[.pointer (some ⟨q, 0, none⟩), .func (.func 25) #[] #[]] w (PAns ts aL n cap q x s' w) :=
 part_run (fun _ _ => by kernel_rfl) (fun i r w hm hn hrd => of_any (i := (i : Int)) w hm hn (by simpa using hrd)) w hr hp
end
end Go.Proofs.Ytcoiagfeoonpbaa
