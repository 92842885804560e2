/-
 The parser's atom: an Atom. Under what the other reading functions do with less fuel.
-/
import Derived.Test.YtcoiagfeoonpbaaMt12
import Derived.Test.YtcoiagfeoonpbaaMt13
import Derived.Test.YtcoiagfeoonpbaaMt9
import Derived.Recover
namespace Go.Proofs.Ytcoiagfeoonpbaa
open Go.RowKit
attribute [local go_sem] tk_pos
section
variable {ts : List Tk} {aL : Option Addr} {n cap q : Nat}
theorem memNone {base : Nat} {w : World} {x : Ex} (h : x.args = []) : Mem (Nw 0 base w.heap.size) w (.s 6 (Ex.rows x.args)) (.slice none 0 0) := by
 rw [h, Ex.rows_eq]
 exact .e none 0 6 (by decide)
set_option maxRecDepth 100000 in
set_option maxHeartbeats 20000000 in
theorem atom_succ {f i deep : Nat} {r : Rd1} (hr : readE ts (f + 1) .atom i deep = some r) (w : World) (hd : deep ≤ 40) (H : AllR ts aL n cap q (f + 1)) (hp : PS ts aL n cap q i (deep : Int) w) :
  Calls Try.prog 119 #[.pointer (some ⟨q, 0, none⟩)] w (Ans ts aL n cap q r deep w) := by
 have HP := Lib.hid hp
 have hq0 := hp.lt
 have HF := Lib.hid (FarB.refl q w.heap.size w)
 clear hp
 rw [readE] at hr
 go_enter_defers Try.func119, Try.ntmps119
 refine Code.wp_mono (doorQ_mono _ r deep w) ?_
 go_wp2_with (fail)
 generalize ee : World.alloc w _ = w1
 have hsa1 := sizeA ee
 replace HP := pA HP ee
 replace HF := fA HF ee
 have HBr := nB ee (w.heap.size)
 clear ee
 have qc := kcP HP
 have rc := kc6 HBr
 have hI := iq_0_0 q w w1
 have hZ := iq_01 q w
 cases hpl : plainE (nowT ts i) with
 | some x =>
  simp only [hpl] at hr
  cases hr
  clear qc rc
  refine (plain_ok _ HP.out hpl).mono ?_
  rintro _ w2 ⟨rfl, hf, hp⟩
  replace HBr := qB HBr hf
  replace HF := qF HF hf
  have hs2 := hf.size
  replace HP := Lib.hid hp
  clear hf hp
  simp only [exV]
  have HMx : Hid (Mem (Nw 0 w.heap.size w2.heap.size) w2 (.s 6 (Ex.rows x.args)) (.slice none 0 0)) := Lib.hid (memNone (plain_args hpl))
  clear hI hZ
  have qc := kcP HP
  have rc := kc6 HBr
  have hI := iq_0_0 q w w2
  go_wp2_with (fail)
  clear HMx
  clear qc rc
  generalize ee : World.setCell _ ⟨w.heap.size, 5, none⟩ _ = w3_1
  have hq1 := sizeS6 ee
  replace HP := pO6 HP ee
  replace HF := fN6 HF ee
  replace HBr := bS6 HBr ee
  clear ee
  generalize ee : World.alloc w3_1 _ = w3
  have hq2 := sizeA ee
  replace HP := pA HP ee
  replace HF := fA HF ee
  replace HBr := bA HBr ee
  have HBp := nB ee (w2.heap.size)
  clear ee
  have hsa3 : w3.heap.size = w2.heap.size + 1 := by omega
  clear hq1 hq2
  clear hI
  refine door_plain ?_
  have fc := kc6 HBr
  refine ⟨.agg #[.int .i64 x.kind, .string x.name, .int .i64 x.n, .slice none 0 0, .int .i64 x.line, .int .i64 x.col], (by clear HP HF HBr HBp; simp [results, Try.results119, go_sem, fc]), ?_⟩
  exact ⟨_, _, _, rfl, HF.out.out, HP.out, memNone (plain_args hpl)⟩
 | none =>
  simp only [hpl] at hr
  clear qc rc
  refine (plain_bad _ HP.out hpl).mono ?_
  rintro _ w2 ⟨⟨s_, l_, c_, rfl⟩, hf, hp⟩
  replace HBr := qB HBr hf
  replace HF := qF HF hf
  have hs2 := hf.size
  replace HP := Lib.hid hp
  clear hf hp
  clear hI hZ
  have qc := kcP HP
  have rc := kc6 HBr
  have hI := iq_0_0 q w w2
  go_wp2_with (fail)
  clear qc rc
  generalize ee : World.alloc w2 _ = w3
  have hsa3 := sizeA ee
  replace HP := pA HP ee
  replace HF := fA HF ee
  replace HBr := bA HBr ee
  have HBp := nB ee (w2.heap.size)
  clear ee
  clear hI
  have qc := kcP HP
  have rc := kc6 HBr; have pc := kc6 HBp
  have hI := iq_0_0_0 q w w2 w3
  have hZ := iq_0_01 q w w2
  rcases hop : isT ts i 6 wOpen
  ·
   simp only [hop, Bool.false_eq_true, if_false] at hr
   cases hr
   clear qc rc pc
   refine (is_any 6 wOpen _ HP.out).mono ?_
   rintro _ w4 ⟨rfl, hb⟩
   have hf := FarQ.of (q := q) hb
   replace HBr := qB HBr hf
   replace HBp := qB HBp hf
   replace HF := qF HF hf
   have hs4 := hf.size
   replace HP := kP HP hb
   clear hf hb
   rw [hop]
   clear hI hZ
   have qc := kcP HP
   have rc := kc6 HBr; have pc := kc6 HBp
   have hI := iq_0_0_0 q w w2 w4
   go_wp2_with (fail)
   clear qc rc pc
   refine (fail_any _ HP.out.bo HP.out.mem).mono ?_
   rintro _ w5 ⟨rfl, hb⟩
   have hf := FarQ.of (q := q) hb
   have hbo := (HP.out.keep hb).any
   go_wp2_with (fail)
   exact ⟨_, _, rfl, rfl, .inl rfl, FarB.out (HF.out.farq hf), hbo⟩
  simp only [hop, if_true] at hr
  clear qc rc pc
  refine (is_any 6 wOpen _ HP.out).mono ?_
  rintro _ w4 ⟨rfl, hb⟩
  have hf := FarQ.of (q := q) hb
  replace HBr := qB HBr hf
  replace HBp := qB HBp hf
  replace HF := qF HF hf
  have hs4 := hf.size
  replace HP := kP HP hb
  clear hf hb
  rw [hop]
  clear hI hZ
  have qc := kcP HP
  have rc := kc6 HBr; have pc := kc6 HBp
  have hI := iq_0_0_0 q w w2 w4
  go_wp2_with (fail)
  by_cases h40 : deep = 40
  ·
   rw [if_pos h40] at hr
   cases hr
   subst h40
   clear qc rc pc
   refine (down_bad _ (by exact HP.out)).mono ?_
   rintro _ w5 ⟨rfl, hb⟩
   have hf := FarQ.of (q := q) hb
   have hbo := (HP.out.keep hb).any
   go_wp2_with (fail)
   exact ⟨_, _, rfl, rfl, .inl rfl, FarB.out (HF.out.farq hf), hbo⟩
  rw [if_neg h40] at hr
  have hil : i < ts.length := isT_lt hop (by decide)
  have hd1 : deep + 1 ≤ 40 := by omega
  clear qc rc pc
  refine (down_ok _ HP.out (by omega) (by omega) (by omega) hil).mono ?_
  rintro _ w5 ⟨rfl, hf, hp⟩
  replace HBr := qB HBr hf
  replace HBp := qB HBp hf
  replace HF := qF HF hf
  have hs5 := hf.size
  replace HP := Lib.hid hp
  clear hf hp
  replace HP := Lib.hid (by have h := HP.out; rw [show ((deep : Int) + 1) = ((deep + 1 : Nat) : Int) by omega] at h; exact h)
  clear hI
  have qc := kcP HP
  have rc := kc6 HBr; have pc := kc6 HBp
  have hI := iq_0_0_0 q w w2 w5
  go_wp2_with (fail)
  rcases hx : readE ts f .expr (i + 1) (deep + 1) with _ | ⟨x, j⟩ | ⟨l_, c_⟩
  · (rw [hx] at hr; cases hr)
  rotate_left
  ·
   rw [hx] at hr
   first | simp only at hr | simp only [andT] at hr
   cases hr
   clear qc rc pc
   refine ((H.ex f (Nat.lt_succ_self f)) (i + 1) (deep + 1) _ _ hd1 hx HP.out).mono ?_
   rintro _ w6 ⟨rfl, hf, hbo⟩
   go_wp2_with (fail)
   exact ⟨_, _, rfl, rfl, .inr rfl, FarB.out (HF.out.farq hf), hbo⟩
  rw [hx] at hr
  first | simp only at hr | simp only [andT] at hr
  clear qc rc pc
  refine ((H.ex f (Nat.lt_succ_self f)) (i + 1) (deep + 1) _ _ hd1 hx HP.out).mono ?_
  rintro _ w6 ⟨ax, mx, cx, rfl, hf, hp, hm⟩
  replace HBr := qB HBr hf
  replace HBp := qB HBp hf
  replace HF := qF HF hf
  have hs6 := hf.size
  replace HP := Lib.hid hp
  have HMx := Lib.hid hm
  clear hf hp hm
  simp only [exV]
  clear hI
  have qc := kcP HP
  have rc := kc6 HBr; have pc := kc6 HBp
  have hI := iq_0_0_0 q w w2 w6
  go_wp2_with (fail)
  clear qc rc pc
  generalize ee : World.alloc w6 _ = w7
  have hsa7 := sizeA ee
  replace HP := pA HP ee
  replace HF := fA HF ee
  replace HBr := bA HBr ee
  replace HBp := bA HBp ee
  replace HMx := mA HMx ee
  have HBu := nB ee (w6.heap.size)
  clear ee
  clear hI
  have qc := kcP HP
  have rc := kc6 HBr; have pc := kc6 HBp; have uc := kc6 HBu
  have hI := iq_0_0_0_0 q w w2 w6 w7
  have hZ := iq_0_0_01 q w w2 w6
  rcases hcl : isT ts j 6 wClose
  ·
   first | simp only [hcl, Bool.false_eq_true, if_false] at hr | simp only [takeT, hcl, Bool.false_eq_true, if_false] at hr
   cases hr
   clear qc rc pc uc
   refine (take_bad 6 wClose _ HP.out hcl).mono ?_
   rintro _ w8 ⟨rfl, hb⟩
   have hf := FarQ.of (q := q) hb
   have hbo := (HP.out.keep hb).any
   go_wp2_with (fail)
   exact ⟨_, _, rfl, rfl, .inr rfl, FarB.out (HF.out.farq hf), hbo⟩
  first | simp only [hcl, if_true] at hr | simp only [takeT, hcl, if_true] at hr
  cases hr
  clear qc rc pc uc
  refine (take_ok 6 wClose _ HP.out hcl (by decide)).mono ?_
  rintro _ w8 ⟨rfl, hf, hp⟩
  replace HBr := qB HBr hf
  replace HBp := qB HBp hf
  replace HBu := qB HBu hf
  replace HMx := qM HMx hf
  replace HF := qF HF hf
  have hs8 := hf.size
  replace HP := Lib.hid hp
  clear hf hp
  clear hI hZ
  have qc := kcP HP
  have rc := kc6 HBr; have pc := kc6 HBp; have uc := kc6 HBu
  have hI := iq_0_0_0_0 q w w2 w6 w8
  go_wp2_with (fail)
  clear qc rc pc uc
  generalize ee : World.setCell _ ⟨w.heap.size, 5, none⟩ _ = w9
  have hsz9 := sizeS6 ee
  replace HP := pO6 HP ee
  replace HF := fN6 HF ee
  replace HBr := bS6 HBr ee
  replace HBp := bF6 HBp ee
  replace HBu := bF6 HBu ee
  replace HMx := mS6 HMx ee
  clear ee
  clear hI
  refine door_up HP.out.bo ?_
  generalize ee : World.setCell w9 _ _ = w10
  have hsz10 := sizeS1 ee
  replace HP := Lib.hid (HP.out.setDE (k := ((deep : Int))) ee (wrap_up hd))
  replace HF := Lib.hid (HF.out.setQE ee)
  replace HBr := bF1 HBr ee
  replace HBp := bF1 HBp ee
  replace HBu := bF1 HBu ee
  replace HMx := mS1 HMx ee
  clear ee
  have fc := kc6 HBr
  refine ⟨.agg #[.int .i64 x.kind, .string x.name, .int .i64 x.n, .slice ax mx cx, .int .i64 x.line, .int .i64 x.col], (by clear HP HF HBr HBp HBu HMx; simp [results, Try.results119, go_sem, fc]), ?_⟩
  exact ⟨_, _, _, rfl, HF.out.out, HP.out, memNw HMx.out (by omega)⟩
theorem atom_reads (F : Nat) (H : AllR ts aL n cap q F) : Reads ts aL n cap q 119 .atom F := by
 intro i deep r w hd hr hp
 cases F with
 | zero => rw [readE] at hr; cases hr
 | succ f => exact atom_succ hr w hd H hp
end
end Go.Proofs.Ytcoiagfeoonpbaa

/-
  The parser's reading functions, all of them, at any fuel. Under no condition but how the parser and the tokens lie.
-/
namespace Go.Proofs.Ytcoiagfeoonpbaa
theorem allR (ts : List Tk) (aL : Option Addr) (n cap q : Nat) : ∀ F, AllR ts aL n cap q F := by
  intro F
  induction F with
  | zero => exact ⟨fun g h => absurd h (Nat.not_lt_zero g), fun g h => absurd h (Nat.not_lt_zero g), fun g h => absurd h (Nat.not_lt_zero g), fun g h => absurd h (Nat.not_lt_zero g), fun g h => absurd h (Nat.not_lt_zero g)⟩
  | succ F ih =>
    have hat : ∀ g, g < F + 1 → Reads ts aL n cap q 119 .atom g := fun g hg => by
      rcases Nat.lt_succ_iff_lt_or_eq.1 hg with h | rfl
      · exact ih.tm g h
      · exact atom_reads g ih
    refine ⟨fun g hg => ?_, fun g hg => ?_, fun g hg => ?_, fun g hg => ?_, hat⟩
    · rcases Nat.lt_succ_iff_lt_or_eq.1 hg with h | rfl
      · exact ih.ex g h
      · exact expr_reads g ih
    · rcases Nat.lt_succ_iff_lt_or_eq.1 hg with h | rfl
      · exact ih.or g h
      · exact or_reads g ih
    · rcases Nat.lt_succ_iff_lt_or_eq.1 hg with h | rfl
      · exact ih.le g h
      · exact left_reads g ih
    · rcases Nat.lt_succ_iff_lt_or_eq.1 hg with h | rfl
      · exact ih.ap g h
      · exact app_reads g hat
end Go.Proofs.Ytcoiagfeoonpbaa

/-
  expr.run's deferred closure: what is thrown is caught and told. Under no condition but that the three results' boxes stand.
-/
namespace Go.Proofs.Ytcoiagfeoonpbaa
open Go.RowKit
section
variable {b0 b1 b2 : Nat}
set_option maxRecDepth 100000 in
set_option maxHeartbeats 4000000 in
/-- Nothing was thrown. -/
theorem caught_none (w : World) :
    CallsD Try.prog 88 #[.pointer (some ⟨b0, 0, none⟩), .pointer (some ⟨b1, 0, none⟩), .pointer (some ⟨b2, 0, none⟩)] .returning w fun e u' w' => e = .returned (.tuple #[]) ∧ u' = .returning ∧ w' = w := by
  refine callsD_of_wpS Try.func88 rfl fun c₀ cs hu => ?_
  simp only [Try.ntmps88, List.size_toArray, List.length_cons, List.length_nil, Nat.reduceAdd, Nat.reduceSub, Array.replicate_succ, Array.replicate_zero, List.push_toArray, List.append_toArray, List.nil_append, List.cons_append]
  apply wpS_seq
  apply wpS_region
  simp [wpOpsS, go_sem, recoverD, hu, Exit.thenS]
  refine wpS_of_wp ?_
  go_wp2
  cases c₀
  simp_all [bodyPostS, results, Try.results88]
set_option maxRecDepth 100000 in
set_option maxHeartbeats 4000000 in
/-- A fault was thrown. -/
theorem caught_fault (w : World) {c0 c1 c2 c3 c4 c5 d0 e0 e1 e2 : Value} (l c : Int) (hb1 : b0 < b1) (hb2 : b1 < b2) (h0 : Bo w b0 27 #[c0, c1, c2, c3, c4, c5]) (h1 : Bo w b1 3 #[d0]) (h2 : Bo w b2 30 #[e0, e1, e2]) :
    CallsD Try.prog 88 #[.pointer (some ⟨b0, 0, none⟩), .pointer (some ⟨b1, 0, none⟩), .pointer (some ⟨b2, 0, none⟩)] (.panicking (faultV l c)) w fun e u' w' =>
      e = .returned (.tuple #[]) ∧ settle u' = .returning ∧ Far (fun b => b = b0 ∨ b = b1 ∨ b = b2) w w' ∧ Bo w' b0 27 #[.int .i64 0, .string ⟨#[]⟩, .int .i64 0, .slice none 0 0, .int .i64 0, .int .i64 0] ∧ Bo w' b1 3 #[.int .i64 0] ∧ Bo w' b2 30 #[.int .i64 1, .int .i64 l, .int .i64 c] := by
  refine callsD_of_wpS Try.func88 rfl fun c₀ cs hu => ?_
  simp only [Try.ntmps88, List.size_toArray, List.length_cons, List.length_nil, Nat.reduceAdd, Nat.reduceSub, Array.replicate_succ, Array.replicate_zero, List.push_toArray, List.append_toArray, List.nil_append, List.cons_append]
  unfold faultV at hu
  apply wpS_seq
  apply wpS_region
  simp [wpOpsS, go_sem, recoverD, hu, Exit.thenS]
  refine wpS_of_wp ?_
  have hta : ∀ w : World, Sem.run Try.prog (Instr.typeAssert (.iface 145 (.agg #[.int .i64 l, .int .i64 c])) 20 145 true) w = .ok (.tuple #[.agg #[.int .i64 l, .int .i64 c], .bool true]) w := fun _ => by kernel_rfl
  have z0 := h0.cell (j := 0) rfl; have z1 := h0.cell (j := 1) rfl; have z2 := h0.cell (j := 2) rfl; have z3 := h0.cell (j := 3) rfl; have z4 := h0.cell (j := 4) rfl; have z5 := h0.cell (j := 5) rfl; have zz := h0.frozen
  have y0 := h1.cell (j := 0) rfl; have yz := h1.frozen
  have x0 := h2.cell (j := 0) rfl; have x1 := h2.cell (j := 1) rfl; have x2 := h2.cell (j := 2) rfl; have xz := h2.frozen
  go_wp2
  clear z0 z1 z2 z3 z4 z5 zz y0 yz x0 x1 x2 xz
  have hl2 := h2.lt
  have H0 := Lib.hid (h0.alloc (.cells #[.int .i64 l, .int .i64 c] 145))
  have H1 := Lib.hid (h1.alloc (.cells #[.int .i64 l, .int .i64 c] 145))
  have H2 := Lib.hid (h2.alloc (.cells #[.int .i64 l, .int .i64 c] 145))
  have H3 := Lib.hid (Bo.new w 145 #[.int .i64 l, .int .i64 c])
  have HF : Hid (Far (fun b => b = b0 ∨ b = b1 ∨ b = b2) w (w.alloc (.cells #[.int .i64 l, .int .i64 c] 145))) := Lib.hid (Far.of (below_new _ _))
  have hs1 : (w.alloc (.cells #[.int .i64 l, .int .i64 c] 145)).heap.size = w.heap.size + 1 := World.size_alloc _ _
  clear h0 h1 h2
  generalize (w.alloc (.cells #[.int .i64 l, .int .i64 c] 145)) = v1 at *
  have f0 := H3.out.cell (j := 0) rfl; have f1 := H3.out.cell (j := 1) rfl; have fz := Bo.frozen H3.out; have z0 := H0.out.cell (j := 0) rfl; have z1 := H0.out.cell (j := 1) rfl; have z2 := H0.out.cell (j := 2) rfl; have z3 := H0.out.cell (j := 3) rfl; have z4 := H0.out.cell (j := 4) rfl; have z5 := H0.out.cell (j := 5) rfl; have zz := Bo.frozen H0.out; have y0 := H1.out.cell (j := 0) rfl; have yz := Bo.frozen H1.out; have x0 := H2.out.cell (j := 0) rfl; have x1 := H2.out.cell (j := 1) rfl; have x2 := H2.out.cell (j := 2) rfl; have xz := Bo.frozen H2.out
  have n1 : b0 ≠ b1 := (by omega); have n2 : b1 ≠ b0 := (by omega); have n3 : b0 ≠ b2 := (by omega); have n4 : b2 ≠ b0 := (by omega); have n5 : b1 ≠ b2 := (by omega); have n6 : b2 ≠ b1 := (by omega); have n7 : b0 ≠ w.heap.size := (by omega); have n8 : b1 ≠ w.heap.size := (by omega); have n9 : b2 ≠ w.heap.size := (by omega)
  refine wp_region_held_drew (S := fun w' => Far (fun b => b = b0 ∨ b = b1 ∨ b = b2) (v1) w') (by kernel_rfl) (Far.of (below_drew _)) (fun hS0 => ?_)
  refine takeL 0 (v := ?_) rfl (by kernel_rfl) (by kernel_rfl) (by kernel_rfl) (fun _ _ _ h => h) (by rfl) ?_ (by assumption) ?_
  rotate_left
  · (intro w hSw; (try dsimp only at hSw); replace f0 := Far.cellZ f0 hSw (by intro e; rcases e with e | e | e <;> omega); replace f1 := Far.cellZ f1 hSw (by intro e; rcases e with e | e | e <;> omega); go_simp; try with_reducible rfl)
  try simp only [Act.put, List.setIfInBounds_toArray, List.set_cons_zero, List.set_cons_succ]
  refine takeL 1 (v := ?_) rfl (by kernel_rfl) (by kernel_rfl) (by kernel_rfl) (fun _ _ _ h => h) (by rfl) ?_ (by assumption) ?_
  rotate_left
  · (intro w hSw; (try dsimp only at hSw); replace f0 := Far.cellZ f0 hSw (by intro e; rcases e with e | e | e <;> omega); replace f1 := Far.cellZ f1 hSw (by intro e; rcases e with e | e | e <;> omega); go_simp; try with_reducible rfl)
  try simp only [Act.put, List.setIfInBounds_toArray, List.set_cons_zero, List.set_cons_succ]
  refine takeL 2 (v := ?_) rfl (by kernel_rfl) (by kernel_rfl) (by kernel_rfl) (fun _ _ _ h => h) (by rfl) ?_ (by assumption) ?_
  rotate_left
  · (intro w hSw; (try dsimp only at hSw); replace f0 := Far.cellZ f0 hSw (by intro e; rcases e with e | e | e <;> omega); replace f1 := Far.cellZ f1 hSw (by intro e; rcases e with e | e | e <;> omega); go_simp; try with_reducible rfl)
  try simp only [Act.put, List.setIfInBounds_toArray, List.set_cons_zero, List.set_cons_succ]
  refine takeL 3 (v := ?_) rfl (by kernel_rfl) (by kernel_rfl) (by kernel_rfl) (fun _ _ _ h => h) (by rfl) ?_ (by assumption) ?_
  rotate_left
  · (intro w hSw; (try dsimp only at hSw); replace f0 := Far.cellZ f0 hSw (by intro e; rcases e with e | e | e <;> omega); replace f1 := Far.cellZ f1 hSw (by intro e; rcases e with e | e | e <;> omega); go_simp; try with_reducible rfl)
  try simp only [Act.put, List.setIfInBounds_toArray, List.set_cons_zero, List.set_cons_succ]

  refine callL 4 rfl (by kernel_rfl) (by rfl) (fun K hK => ?_)
  go_simp
  refine hK.out _ _ ?_ (fun hS1 => ?_)
  · exact (by refine Far.trans ?_ (Far.of (below_drew _)); (iterate 6 (refine Far.setCell (p := ⟨b0, _, none⟩) ?_ (.inl rfl) _)); exact Far.refl _ _)
  clear hK K

  clear f0 f1 fz z0 z1 z2 z3 z4 z5 zz y0 yz x0 x1 x2 xz
  replace H0 := Lib.hid (H0.out.set 0 (.int .i64 0))
  replace H1 := Lib.hid (H1.out.far 0 (.int .i64 0) (g := b0) (by omega))
  replace H2 := Lib.hid (H2.out.far 0 (.int .i64 0) (g := b0) (by omega))
  replace HF := Lib.hid (HF.out.setCell (p := ⟨b0, 0, none⟩) (.inl rfl) (.int .i64 0))
  replace H0 := Lib.hid (H0.out.set 1 (.string ⟨#[]⟩))
  replace H1 := Lib.hid (H1.out.far 1 (.string ⟨#[]⟩) (g := b0) (by omega))
  replace H2 := Lib.hid (H2.out.far 1 (.string ⟨#[]⟩) (g := b0) (by omega))
  replace HF := Lib.hid (HF.out.setCell (p := ⟨b0, 1, none⟩) (.inl rfl) (.string ⟨#[]⟩))
  replace H0 := Lib.hid (H0.out.set 2 (.int .i64 0))
  replace H1 := Lib.hid (H1.out.far 2 (.int .i64 0) (g := b0) (by omega))
  replace H2 := Lib.hid (H2.out.far 2 (.int .i64 0) (g := b0) (by omega))
  replace HF := Lib.hid (HF.out.setCell (p := ⟨b0, 2, none⟩) (.inl rfl) (.int .i64 0))
  replace H0 := Lib.hid (H0.out.set 3 (.slice none 0 0))
  replace H1 := Lib.hid (H1.out.far 3 (.slice none 0 0) (g := b0) (by omega))
  replace H2 := Lib.hid (H2.out.far 3 (.slice none 0 0) (g := b0) (by omega))
  replace HF := Lib.hid (HF.out.setCell (p := ⟨b0, 3, none⟩) (.inl rfl) (.slice none 0 0))
  replace H0 := Lib.hid (H0.out.set 4 (.int .i64 0))
  replace H1 := Lib.hid (H1.out.far 4 (.int .i64 0) (g := b0) (by omega))
  replace H2 := Lib.hid (H2.out.far 4 (.int .i64 0) (g := b0) (by omega))
  replace HF := Lib.hid (HF.out.setCell (p := ⟨b0, 4, none⟩) (.inl rfl) (.int .i64 0))
  replace H0 := Lib.hid (H0.out.set 5 (.int .i64 0))
  replace H1 := Lib.hid (H1.out.far 5 (.int .i64 0) (g := b0) (by omega))
  replace H2 := Lib.hid (H2.out.far 5 (.int .i64 0) (g := b0) (by omega))
  replace HF := Lib.hid (HF.out.setCell (p := ⟨b0, 5, none⟩) (.inl rfl) (.int .i64 0))
  replace H0 := Lib.hid (H0.out.drew)
  replace H1 := Lib.hid (H1.out.drew)
  replace H2 := Lib.hid (H2.out.drew)
  replace HF := Lib.hid (Far.trans HF.out (Far.of (below_drew _)))
  replace H0 : Hid (Bo (((((((v1.setCell ⟨b0, 0, none⟩ (.int .i64 0)).setCell ⟨b0, 1, none⟩ (.string ⟨#[]⟩)).setCell ⟨b0, 2, none⟩ (.int .i64 0)).setCell ⟨b0, 3, none⟩ (.slice none 0 0)).setCell ⟨b0, 4, none⟩ (.int .i64 0)).setCell ⟨b0, 5, none⟩ (.int .i64 0)).drew) b0 27 #[.int .i64 0, .string ⟨#[]⟩, .int .i64 0, .slice none 0 0, .int .i64 0, .int .i64 0]) := H0
  generalize (((((((v1.setCell ⟨b0, 0, none⟩ (.int .i64 0)).setCell ⟨b0, 1, none⟩ (.string ⟨#[]⟩)).setCell ⟨b0, 2, none⟩ (.int .i64 0)).setCell ⟨b0, 3, none⟩ (.slice none 0 0)).setCell ⟨b0, 4, none⟩ (.int .i64 0)).setCell ⟨b0, 5, none⟩ (.int .i64 0)).drew) = v2 at *
  have y0 := H1.out.cell (j := 0) rfl; have yz := Bo.frozen H1.out; have x0 := H2.out.cell (j := 0) rfl; have x1 := H2.out.cell (j := 1) rfl; have x2 := H2.out.cell (j := 2) rfl; have xz := Bo.frozen H2.out
  refine callL 5 rfl (by kernel_rfl) (by rfl) (fun K hK => ?_)
  go_simp
  refine hK.out _ _ ?_ (fun hS2 => ?_)
  · exact Far.setCell (p := ⟨b1, 0, none⟩) hS1 (.inr (.inl rfl)) _
  clear hK K

  clear y0 yz x0 x1 x2 xz
  replace H1 := Lib.hid (H1.out.set 0 (.int .i64 0))
  replace H0 := Lib.hid (H0.out.far 0 (.int .i64 0) (g := b1) (by omega))
  replace H2 := Lib.hid (H2.out.far 0 (.int .i64 0) (g := b1) (by omega))
  replace HF := Lib.hid (HF.out.setCell (p := ⟨b1, 0, none⟩) (.inr (.inl rfl)) (.int .i64 0))
  replace H1 : Hid (Bo (v2.setCell ⟨b1, 0, none⟩ (.int .i64 0)) b1 3 #[.int .i64 0]) := H1
  generalize (v2.setCell ⟨b1, 0, none⟩ (.int .i64 0)) = v3 at *
  have x0 := H2.out.cell (j := 0) rfl; have x1 := H2.out.cell (j := 1) rfl; have x2 := H2.out.cell (j := 2) rfl; have xz := Bo.frozen H2.out
  refine callL 6 rfl (by kernel_rfl) (by rfl) (fun K hK => ?_)
  go_simp
  refine hK.out _ _ ?_ (fun hS3 => ?_)
  · exact Far.setCell (p := ⟨b2, 2, none⟩) (Far.setCell (p := ⟨b2, 1, none⟩) (Far.setCell (p := ⟨b2, 0, none⟩) hS2 (.inr (.inr rfl)) _) (.inr (.inr rfl)) _) (.inr (.inr rfl)) _
  clear hK K
  refine wpAnyH_done (by kernel_rfl) ?_ _

  replace H2 := Lib.hid (H2.out.set 0 (.int .i64 1))
  replace H0 := Lib.hid (H0.out.far 0 (.int .i64 1) (g := b2) (by omega))
  replace H1 := Lib.hid (H1.out.far 0 (.int .i64 1) (g := b2) (by omega))
  replace HF := Lib.hid (HF.out.setCell (p := ⟨b2, 0, none⟩) (.inr (.inr rfl)) (.int .i64 1))
  replace H2 := Lib.hid (H2.out.set 1 (.int .i64 l))
  replace H0 := Lib.hid (H0.out.far 1 (.int .i64 l) (g := b2) (by omega))
  replace H1 := Lib.hid (H1.out.far 1 (.int .i64 l) (g := b2) (by omega))
  replace HF := Lib.hid (HF.out.setCell (p := ⟨b2, 1, none⟩) (.inr (.inr rfl)) (.int .i64 l))
  replace H2 := Lib.hid (H2.out.set 2 (.int .i64 c))
  replace H0 := Lib.hid (H0.out.far 2 (.int .i64 c) (g := b2) (by omega))
  replace H1 := Lib.hid (H1.out.far 2 (.int .i64 c) (g := b2) (by omega))
  replace HF := Lib.hid (HF.out.setCell (p := ⟨b2, 2, none⟩) (.inr (.inr rfl)) (.int .i64 c))
  replace H2 : Hid (Bo (((v3.setCell ⟨b2, 0, none⟩ (.int .i64 1)).setCell ⟨b2, 1, none⟩ (.int .i64 l)).setCell ⟨b2, 2, none⟩ (.int .i64 c)) b2 30 #[.int .i64 1, .int .i64 l, .int .i64 c]) := H2
  generalize (((v3.setCell ⟨b2, 0, none⟩ (.int .i64 1)).setCell ⟨b2, 1, none⟩ (.int .i64 l)).setCell ⟨b2, 2, none⟩ (.int .i64 c)) = v4 at *
  go_wp2
  clear x0 x1 x2 xz hta
  exact ⟨rfl, _, rfl, _, results_none rfl _ _ _, rfl, rfl, HF.out, H0.out, H1.out, H2.out⟩
end
end Go.Proofs.Ytcoiagfeoonpbaa

/-
 expr.run: a reading function at a place; what is thrown is told. Under no condition but how the tokens lie.
-/
namespace Go.Proofs.Ytcoiagfeoonpbaa
open Go.RowKit
section
variable {ts : List Tk} {aL : Option Addr} {n cap q : Nat}
set_option maxRecDepth 100000 in
set_option maxHeartbeats 20000000 in
theorem of1_any {F i : Nat} {r : Rd1} (hr : readE ts F .expr i 0 = some r) (w : World) (hp : PS ts aL n cap q i ((0 : Nat) : Int) w) :
  Calls Try.prog 57 #[.pointer (some ⟨q, 0, none⟩)] w (Ans ts aL n cap q r 0 w) := by
 have HP := Lib.hid hp
 have hq0 := hp.lt
 have HF := Lib.hid (FarB.refl q w.heap.size w)
 have HA := (allR ts aL n cap q (F + 1)).ex
 clear hp
 go_enter Try.func57, Try.ntmps57
 go_wp2_with (fail)
 generalize ee : (w.alloc (.cells #[.int .i64 0, .string ⟨#[]⟩, .int .i64 0, .slice none 0 0, .int .i64 0, .int .i64 0] 27)) = w1 at *
 have hsa1 := sizeA ee
 replace HP := pA HP ee
 replace HF := fA HF ee
 have HBr := nB ee (w.heap.size)
 clear ee
 have qc := kcP HP
 have rc := kc6 HBr
 have hI := iq_0_0 q w w1
 have hZ := iq_01 q w
 cases r with
 | bad l_ c_ =>
  clear qc rc
  refine (HA F (Nat.lt_succ_self F) i 0 _ _ (Nat.zero_le _) hr HP.out).mono ?_
  rintro _ w2 ⟨rfl, hf, hbo⟩
  go_wp2_with (fail)
  exact ⟨rfl, rfl, FarB.out (HF.out.farq hf), hbo⟩
 | ok x j =>
  clear qc rc
  refine (HA F (Nat.lt_succ_self F) i 0 _ _ (Nat.zero_le _) hr HP.out).mono ?_
  rintro _ w2 ⟨ax, mx, cx, rfl, hf, hp, hm⟩
  replace HBr := qB HBr hf
  replace HF := qF HF hf
  have hs2 := hf.size
  replace HP := Lib.hid hp
  have HMx := Lib.hid hm
  clear hf hp hm
  simp only [exV]
  clear hI hZ
  have qc := kcP HP
  have rc := kc6 HBr
  have hI := iq_0_0 q w w2
  go_wp2_with (fail)
  clear qc rc
  generalize ee : ((((((w2.setCell ⟨w.heap.size, 0, none⟩ (.int .i64 x.kind)).setCell ⟨w.heap.size, 1, none⟩ (.string x.name)).setCell ⟨w.heap.size, 2, none⟩ (.int .i64 x.n)).setCell ⟨w.heap.size, 3, none⟩ (.slice ax mx cx)).setCell ⟨w.heap.size, 4, none⟩ (.int .i64 x.line)).setCell ⟨w.heap.size, 5, none⟩ (.int .i64 x.col)) = w3 at *
  have hsz3 := sizeS6 ee
  replace HP := pO6 HP ee
  replace HF := fN6 HF ee
  replace HBr := bS6 HBr ee
  replace HMx := mS6 HMx ee
  clear ee
  clear hI
  have fc := kc6 HBr
  refine bodyPost_ret (v := .agg #[.int .i64 x.kind, .string x.name, .int .i64 x.n, .slice ax mx cx, .int .i64 x.line, .int .i64 x.col]) (by clear HP HF HBr HMx; simp [results, Try.results57, go_sem, fc]) rfl ?_
  exact ⟨_, _, _, rfl, HF.out.out, HP.out, memNw HMx.out (by omega)⟩
theorem wp_nopanic {P : Program} {c : Code} {Q : Exit → Act → World → Prop} {a : Act} {w : World} (h : c.wp P (fun e a w => match e with | .panic _ => False | e => Q e a w) a w) : c.wp P Q a w :=
 Code.wp_mono (fun e a w h => by cases e <;> first | exact h | exact h.elim) h
def RunAns (r : Rd1) (W : World) (e : Ending) (w' : World) : Prop :=
 match r with
 | .ok x j => ∃ a m c, e = .returned (.tuple #[exV x a m c, .int .i64 (j : Int), .agg #[.int .i64 0, .int .i64 0, .int .i64 0]]) ∧ Below W.heap.size W w' ∧ Mem (Nw 0 W.heap.size w'.heap.size) w' (.s 6 (Ex.rows x.args)) (.slice a m c)
 | .bad l c => e = .returned (.tuple #[.agg #[.int .i64 0, .string ⟨#[]⟩, .int .i64 0, .slice none 0 0, .int .i64 0, .int .i64 0], .int .i64 0, .agg #[.int .i64 1, .int .i64 l, .int .i64 c]]) ∧ Below W.heap.size W w'
set_option maxRecDepth 100000 in
set_option maxHeartbeats 20000000 in
theorem run_of_neg {F : Nat} {i : Int} (hi : i < 0) {r : Rd1} (w : World) (h : MemW w (.s 5 (tkRows ts)) (.slice aL n cap)) (hn : n ≤ 1048576) (hr : readE ts F .expr 0 0 = some r) :
  Calls Try.prog 56 #[.slice aL n cap, .int .i64 i, .func (.func 57) #[] #[]] w (RunAns r w) := by
 have H := Lib.hid h
 have hmf : ∀ (fn : Fn) (first cap : Array Value) (w : World), (Instr.makeFunc fn first cap).run Try.prog w = .ok (.func fn first cap) w := fun _ _ _ _ => rfl
 have hE : ∀ args w, Sem.run Try.prog (callFunc 57 args) w = .ok (.enter 57 args) w := fun _ _ => by kernel_rfl
 clear h
 go_enter_defers Try.func56, Try.ntmps56
 go_wp2_with (fail)
 have hs1 : ((((w.alloc (.cells #[.int .i64 0, .string ⟨#[]⟩, .int .i64 0, .slice none 0 0, .int .i64 0, .int .i64 0] 27)).alloc (.cells #[.int .i64 0] 3)).alloc (.cells #[.int .i64 0, .int .i64 0, .int .i64 0] 30)).alloc (.cells #[.slice aL n cap, .int .i64 0, .int .i64 0] 143)).heap.size = w.heap.size + 1 + 1 + 1 + 1 := by simp only [World.size_alloc]
 have HBe : Hid (Bo ((((w.alloc (.cells #[.int .i64 0, .string ⟨#[]⟩, .int .i64 0, .slice none 0 0, .int .i64 0, .int .i64 0] 27)).alloc (.cells #[.int .i64 0] 3)).alloc (.cells #[.int .i64 0, .int .i64 0, .int .i64 0] 30)).alloc (.cells #[.slice aL n cap, .int .i64 0, .int .i64 0] 143)) w.heap.size 27 #[.int .i64 0, .string ⟨#[]⟩, .int .i64 0, .slice none 0 0, .int .i64 0, .int .i64 0]) := Lib.hid ((((Bo.new w 27 #[.int .i64 0, .string ⟨#[]⟩, .int .i64 0, .slice none 0 0, .int .i64 0, .int .i64 0]).alloc _).alloc _).alloc _)
 have HBn : Hid (Bo ((((w.alloc (.cells #[.int .i64 0, .string ⟨#[]⟩, .int .i64 0, .slice none 0 0, .int .i64 0, .int .i64 0] 27)).alloc (.cells #[.int .i64 0] 3)).alloc (.cells #[.int .i64 0, .int .i64 0, .int .i64 0] 30)).alloc (.cells #[.slice aL n cap, .int .i64 0, .int .i64 0] 143)) (w.heap.size + 1) 3 #[.int .i64 0]) := Lib.hid ((((by have h := Bo.new (w.alloc (.cells #[.int .i64 0, .string ⟨#[]⟩, .int .i64 0, .slice none 0 0, .int .i64 0, .int .i64 0] 27)) 3 #[.int .i64 0]; rw [World.size_alloc] at h; exact h : Bo ((w.alloc (.cells #[.int .i64 0, .string ⟨#[]⟩, .int .i64 0, .slice none 0 0, .int .i64 0, .int .i64 0] 27)).alloc (.cells #[.int .i64 0] 3)) (w.heap.size + 1) 3 #[.int .i64 0])).alloc _).alloc _)
 have HBf : Hid (Bo ((((w.alloc (.cells #[.int .i64 0, .string ⟨#[]⟩, .int .i64 0, .slice none 0 0, .int .i64 0, .int .i64 0] 27)).alloc (.cells #[.int .i64 0] 3)).alloc (.cells #[.int .i64 0, .int .i64 0, .int .i64 0] 30)).alloc (.cells #[.slice aL n cap, .int .i64 0, .int .i64 0] 143)) (w.heap.size + 1 + 1) 30 #[.int .i64 0, .int .i64 0, .int .i64 0]) := Lib.hid (((by have h := Bo.new ((w.alloc (.cells #[.int .i64 0, .string ⟨#[]⟩, .int .i64 0, .slice none 0 0, .int .i64 0, .int .i64 0] 27)).alloc (.cells #[.int .i64 0] 3)) 30 #[.int .i64 0, .int .i64 0, .int .i64 0]; rw [World.size_alloc, World.size_alloc] at h; exact h : Bo (((w.alloc (.cells #[.int .i64 0, .string ⟨#[]⟩, .int .i64 0, .slice none 0 0, .int .i64 0, .int .i64 0] 27)).alloc (.cells #[.int .i64 0] 3)).alloc (.cells #[.int .i64 0, .int .i64 0, .int .i64 0] 30)) (w.heap.size + 1 + 1) 30 #[.int .i64 0, .int .i64 0, .int .i64 0])).alloc _)
 have hbo : Bo ((((w.alloc (.cells #[.int .i64 0, .string ⟨#[]⟩, .int .i64 0, .slice none 0 0, .int .i64 0, .int .i64 0] 27)).alloc (.cells #[.int .i64 0] 3)).alloc (.cells #[.int .i64 0, .int .i64 0, .int .i64 0] 30)).alloc (.cells #[.slice aL n cap, .int .i64 0, .int .i64 0] 143)) (w.heap.size + 1 + 1 + 1) 143 #[.slice aL n cap, .int .i64 0, .int .i64 0] := by have h := Bo.new (((w.alloc (.cells #[.int .i64 0, .string ⟨#[]⟩, .int .i64 0, .slice none 0 0, .int .i64 0, .int .i64 0] 27)).alloc (.cells #[.int .i64 0] 3)).alloc (.cells #[.int .i64 0, .int .i64 0, .int .i64 0] 30)) 143 #[.slice aL n cap, .int .i64 0, .int .i64 0]; rw [World.size_alloc, World.size_alloc, World.size_alloc] at h; exact h
 have hbel : Below w.heap.size w ((((w.alloc (.cells #[.int .i64 0, .string ⟨#[]⟩, .int .i64 0, .slice none 0 0, .int .i64 0, .int .i64 0] 27)).alloc (.cells #[.int .i64 0] 3)).alloc (.cells #[.int .i64 0, .int .i64 0, .int .i64 0] 30)).alloc (.cells #[.slice aL n cap, .int .i64 0, .int .i64 0] 143)) := (((below_new w _).alloc (by simp) _).alloc (by simp only [World.size_alloc]; omega) _).alloc (by simp only [World.size_alloc]; omega) _
 have htk := H.out.keep hbel
 generalize ((((w.alloc (.cells #[.int .i64 0, .string ⟨#[]⟩, .int .i64 0, .slice none 0 0, .int .i64 0, .int .i64 0] 27)).alloc (.cells #[.int .i64 0] 3)).alloc (.cells #[.int .i64 0, .int .i64 0, .int .i64 0] 30)).alloc (.cells #[.slice aL n cap, .int .i64 0, .int .i64 0] 143)) = w1 at *
 have htk2 : Mem (· < w.heap.size + 1 + 1 + 1) w1 (.s 5 (tkRows ts)) (.slice aL n cap) := (Mem.keep H.out (Nat.le_refl _) hbel).le (by omega)
 generalize hq : w.heap.size + 1 + 1 + 1 = q at *
 have HP : Hid (PS ts aL n cap q 0 ((0 : Nat) : Int) w1) := Lib.hid ⟨hbo, htk2, hn⟩
 have HF : Hid (FarB q w.heap.size w w1) := Lib.hid (Far.of hbel)
 have hq1 : w.heap.size + 1 + 1 < q := by omega
 have hs2 : w1.heap.size = q + 1 := by omega
 clear hq hs1 hbo htk htk2 hbel
 cases r with
 | bad l_ c_ =>
  refine (of1_any hr _ HP.out).mono ?_
  rintro _ w2 ⟨rfl, hf, hbo⟩
  replace HBe := qB HBe hf
  replace HBn := qB HBn hf
  replace HBf := qB HBf hf
  replace HF := qF HF hf
  have hs2 := hf.size
  go_wp2_with (fail)
  refine leaves_cons (f := 88) (args := #[.pointer (some ⟨w.heap.size, 0, none⟩), .pointer (some ⟨w.heap.size + 1, 0, none⟩), .pointer (some ⟨w.heap.size + 1 + 1, 0, none⟩)]) (by simp) (by simp [go_sem]) ?_
  refine (caught_fault w2 l_ c_ (by omega) (by omega) HBe.out HBn.out HBf.out).mono ?_
  rintro e u w3 ⟨rfl, hu, hf3, g0, g1, g2⟩
  show Leaves _ _ _ _ [] (settle u) w3
  rw [hu]
  have x0 := g0.cell (j := 0) rfl; have x1 := g0.cell (j := 1) rfl; have x2 := g0.cell (j := 2) rfl; have x3 := g0.cell (j := 3) rfl; have x4 := g0.cell (j := 4) rfl; have x5 := g0.cell (j := 5) rfl; have y0 := g1.cell (j := 0) rfl; have z0 := g2.cell (j := 0) rfl; have z1 := g2.cell (j := 1) rfl; have z2 := g2.cell (j := 2) rfl
  refine ⟨_, ?_, rfl, ?_⟩
  · (clear HF HBe HBn HBf H g0 g1 g2 hf3; simp [results, Try.results56, go_sem, x0, x1, x2, x3, x4, x5, y0, z0, z1, z2])
  · exact Far.toB (Far.trans (Far.mono HF.out (fun b e => by rcases e with e | e <;> omega)) (Far.mono hf3 (fun b e => by rcases e with e | e | e <;> omega))) (Nat.le_refl _)
 | ok x j =>
  refine (of1_any hr _ HP.out).mono ?_
  rintro _ w2 ⟨ax, mx, cx, rfl, hf, hp, hm⟩
  replace HBe := qB HBe hf
  replace HBn := qB HBn hf
  replace HBf := qB HBf hf
  replace HF := qF HF hf
  have hs2 := hf.size
  replace HP := Lib.hid hp
  have HMx := Lib.hid hm
  clear hf hp hm
  simp only [exV]
  have HBq := Lib.hid HP.out.bo
  clear HP
  have ec := kc6 HBe; have nc := kc1 HBn; have fc := kc3 HBf; have qc := kc3 HBq
  have hI := i01_q_q_0 w (w.heap.size + 1 + 1) q w2
  go_wp2_with (fail)
  clear ec nc fc qc
  generalize ee : ((((((w2.setCell ⟨w.heap.size, 0, none⟩ (.int .i64 x.kind)).setCell ⟨w.heap.size, 1, none⟩ (.string x.name)).setCell ⟨w.heap.size, 2, none⟩ (.int .i64 x.n)).setCell ⟨w.heap.size, 3, none⟩ (.slice ax mx cx)).setCell ⟨w.heap.size, 4, none⟩ (.int .i64 x.line)).setCell ⟨w.heap.size, 5, none⟩ (.int .i64 x.col)) = w3 at *
  have hsz3 := sizeS6 ee
  replace HF := fN6 HF ee
  replace HBe := bS6 HBe ee
  replace HBn := bF6 HBn ee
  replace HBf := bF6 HBf ee
  replace HBq := bF6 HBq ee
  replace HMx := mS6 HMx ee
  clear ee
  clear hI
  have ec := kc6 HBe; have nc := kc1 HBn; have fc := kc3 HBf; have qc := kc3 HBq
  have hI := i01_q_q_0 w (w.heap.size + 1 + 1) q w3
  have hZ := i01_q_q_0 w (w.heap.size + 1 + 1) q w2
  refine wp_nopanic ?_
  refine wp_region_held_drew (S := fun w' => Far (fun b => b = w.heap.size ∨ b = w.heap.size + 1 ∨ b = w.heap.size + 1 + 1) (w3) w') (by kernel_rfl) (Far.of (below_drew _)) (fun hS10 => ?_)
  refine takeA 1 (v := ?_) rfl ?_ ?_
  rotate_left
  · (intro w hSw; (try dsimp only at hSw); replace qc := Far.c3z qc hSw (by intro e; rcases e with e | e | e <;> omega); go_simp; try with_reducible rfl)
  try simp only [Act.put, pu1, pu2, pu3]
  refine takeA 2 (v := ?_) rfl ?_ ?_
  rotate_left
  · (intro w hSw; (try dsimp only at hSw); replace qc := Far.c3z qc hSw (by intro e; rcases e with e | e | e <;> omega); go_simp; try with_reducible rfl)
  try simp only [Act.put, pu1, pu2, pu3]
  refine takeA 3 (v := ?_) rfl ?_ ?_
  rotate_left
  · (intro w hSw; (try dsimp only at hSw); replace qc := Far.c3z qc hSw (by intro e; rcases e with e | e | e <;> omega); go_simp; try with_reducible rfl)
  try simp only [Act.put, pu1, pu2, pu3]
  refine takeA 4 (v := ?_) rfl ?_ ?_
  rotate_left
  · (intro w hSw; (try dsimp only at hSw); replace qc := Far.c3z qc hSw (by intro e; rcases e with e | e | e <;> omega); go_simp; try with_reducible rfl)
  try simp only [Act.put, pu1, pu2, pu3]
  refine takeA 5 (v := ?_) rfl ?_ ?_
  rotate_left
  · (intro w hSw; (try dsimp only at hSw); replace qc := Far.c3z qc hSw (by intro e; rcases e with e | e | e <;> omega); go_simp; try with_reducible rfl)
  try simp only [Act.put, pu1, pu2, pu3]

  refine callA 0 rfl fun K hK => ?_
  go_simp
  refine hK.out _ _ ?_ (fun hS11 => ?_)
  · exact hS10
  clear hK K
  refine callA 6 rfl fun K hK => ?_
  go_simp
  refine hK.out _ _ ?_ (fun hS12 => ?_)
  · exact (by refine Far.trans ?_ (Far.of (below_drew _)); (iterate 6 (refine Far.setCell (p := ⟨w.heap.size, _, none⟩) ?_ (.inl rfl) _)); exact Far.refl _ _)
  clear hK K

  clear ec nc fc qc
  generalize ee : ((((((w3.setCell ⟨w.heap.size, 0, none⟩ (.int .i64 x.kind)).setCell ⟨w.heap.size, 1, none⟩ (.string x.name)).setCell ⟨w.heap.size, 2, none⟩ (.int .i64 x.n)).setCell ⟨w.heap.size, 3, none⟩ (.slice ax mx cx)).setCell ⟨w.heap.size, 4, none⟩ (.int .i64 x.line)).setCell ⟨w.heap.size, 5, none⟩ (.int .i64 x.col)) = w4_1 at *
  have hq1 := sizeS6 ee
  replace HF := fN6 HF ee
  replace HBe := bS6 HBe ee
  replace HBn := bF6 HBn ee
  replace HBf := bF6 HBf ee
  replace HBq := bF6 HBq ee
  replace HMx := mS6 HMx ee
  clear ee
  generalize ee : (w4_1.drew) = w4 at *
  have hq2 := sizeD ee
  replace HF := fD HF ee
  replace HBe := bD HBe ee
  replace HBn := bD HBn ee
  replace HBf := bD HBf ee
  replace HBq := bD HBq ee
  replace HMx := mD HMx ee
  clear ee
  have hsa4 : w4.heap.size = w2.heap.size + 0 := by omega
  clear hq1 hq2
  clear hI hZ
  have ec := kc6 HBe; have nc := kc1 HBn; have fc := kc3 HBf; have qc := kc3 HBq
  have hI := i01_q_q_0 w (w.heap.size + 1 + 1) q w4
  have hZ := i01_q_q_0 w (w.heap.size + 1 + 1) q w2
  refine callA 7 rfl fun K hK => ?_
  go_simp
  refine hK.out _ _ ?_ (fun hS13 => ?_)
  · exact Far.setCell (p := ⟨w.heap.size + 1, 0, none⟩) hS12 (.inr (.inl rfl)) _
  clear hK K

  clear ec nc fc qc
  generalize ee : (w4.setCell ⟨(w.heap.size + 1), 0, none⟩ (.int .i64 (j : Int))) = w5 at *
  have hsz5 := sizeS1 ee
  replace HF := fN1 HF ee
  replace HBe := bF1 HBe ee
  replace HBn : Hid (Bo w5 (w.heap.size + 1) 3 #[.int .i64 (j : Int)]) := Lib.hid (by rw [← ee]; exact HBn.out.set 0 (.int .i64 (j : Int)))
  replace HBf := bF1 HBf ee
  replace HBq := bF1 HBq ee
  replace HMx := mS1 HMx ee
  clear ee
  clear hI hZ
  have ec := kc6 HBe; have nc := kc1 HBn; have fc := kc3 HBf; have qc := kc3 HBq
  have hI := i01_q_q_0 w (w.heap.size + 1 + 1) q w5
  have hZ := i01_q_q_0 w (w.heap.size + 1 + 1) q w2
  refine callA 8 rfl fun K hK => ?_
  go_simp
  refine hK.out _ _ ?_ (fun hS14 => ?_)
  · exact Far.setCell (p := ⟨w.heap.size + 1 + 1, 2, none⟩) (Far.setCell (p := ⟨w.heap.size + 1 + 1, 1, none⟩) (Far.setCell (p := ⟨w.heap.size + 1 + 1, 0, none⟩) hS13 (.inr (.inr rfl)) _) (.inr (.inr rfl)) _) (.inr (.inr rfl)) _
  clear hK K
  refine wpAnyH_done (by kernel_rfl) ?_ _

  clear ec nc fc qc
  generalize ee : (((w5.setCell ⟨(w.heap.size + 1 + 1), 0, none⟩ (.int .i64 0)).setCell ⟨(w.heap.size + 1 + 1), 1, none⟩ (.int .i64 0)).setCell ⟨(w.heap.size + 1 + 1), 2, none⟩ (.int .i64 0)) = w6 at *
  have hsz6 := sizeS3 ee
  replace HF := fN3 HF ee
  replace HBe := bF3 HBe ee
  replace HBn := bF3 HBn ee
  replace HBf := bS3 HBf ee
  replace HBq := bF3 HBq ee
  replace HMx := mS3 HMx ee
  clear ee
  clear hI hZ
  show Exit.then _ _ Exit.normal _ _
  go_wp2_with (fail)
  refine leaves_cons (f := 88) (args := #[.pointer (some ⟨w.heap.size, 0, none⟩), .pointer (some ⟨w.heap.size + 1, 0, none⟩), .pointer (some ⟨w.heap.size + 1 + 1, 0, none⟩)]) (by simp) (by simp [go_sem]) ?_
  refine (caught_none _).mono ?_
  rintro e u w9 ⟨rfl, rfl, rfl⟩
  have x0 := HBe.out.cell (j := 0) rfl; have x1 := HBe.out.cell (j := 1) rfl; have x2 := HBe.out.cell (j := 2) rfl; have x3 := HBe.out.cell (j := 3) rfl; have x4 := HBe.out.cell (j := 4) rfl; have x5 := HBe.out.cell (j := 5) rfl; have y0 := HBn.out.cell (j := 0) rfl; have z0 := HBf.out.cell (j := 0) rfl; have z1 := HBf.out.cell (j := 1) rfl; have z2 := HBf.out.cell (j := 2) rfl
  refine ⟨.tuple #[exV x ax mx cx, .int .i64 (j : Int), .agg #[.int .i64 0, .int .i64 0, .int .i64 0]], ?_, ax, mx, cx, rfl, ?_, memNw HMx.out (by omega)⟩
  · (clear HF HBe HBn HBf HBq HMx H; simp [results, Try.results56, go_sem, exV, x0, x1, x2, x3, x4, x5, y0, z0, z1, z2])
  · exact Far.toB (Far.mono HF.out (fun b e => by rcases e with e | e <;> omega)) (Nat.le_refl _)
set_option maxRecDepth 100000 in
set_option maxHeartbeats 20000000 in
theorem run_of_pos {F : Nat} {k : Nat} {r : Rd1} (w : World) (h : MemW w (.s 5 (tkRows ts)) (.slice aL n cap)) (hn : n ≤ 1048576) (hr : readE ts F .expr k 0 = some r) :
  Calls Try.prog 56 #[.slice aL n cap, .int .i64 (k : Int), .func (.func 57) #[] #[]] w (RunAns r w) := by
 have H := Lib.hid h
 have hmf : ∀ (fn : Fn) (first cap : Array Value) (w : World), (Instr.makeFunc fn first cap).run Try.prog w = .ok (.func fn first cap) w := fun _ _ _ _ => rfl
 have hE : ∀ args w, Sem.run Try.prog (callFunc 57 args) w = .ok (.enter 57 args) w := fun _ _ => by kernel_rfl
 clear h
 go_enter_defers Try.func56, Try.ntmps56
 go_wp2_with (fail)
 have hs1 : ((((w.alloc (.cells #[.int .i64 0, .string ⟨#[]⟩, .int .i64 0, .slice none 0 0, .int .i64 0, .int .i64 0] 27)).alloc (.cells #[.int .i64 0] 3)).alloc (.cells #[.int .i64 0, .int .i64 0, .int .i64 0] 30)).alloc (.cells #[.slice aL n cap, .int .i64 (k : Int), .int .i64 0] 143)).heap.size = w.heap.size + 1 + 1 + 1 + 1 := by simp only [World.size_alloc]
 have HBe : Hid (Bo ((((w.alloc (.cells #[.int .i64 0, .string ⟨#[]⟩, .int .i64 0, .slice none 0 0, .int .i64 0, .int .i64 0] 27)).alloc (.cells #[.int .i64 0] 3)).alloc (.cells #[.int .i64 0, .int .i64 0, .int .i64 0] 30)).alloc (.cells #[.slice aL n cap, .int .i64 (k : Int), .int .i64 0] 143)) w.heap.size 27 #[.int .i64 0, .string ⟨#[]⟩, .int .i64 0, .slice none 0 0, .int .i64 0, .int .i64 0]) := Lib.hid ((((Bo.new w 27 #[.int .i64 0, .string ⟨#[]⟩, .int .i64 0, .slice none 0 0, .int .i64 0, .int .i64 0]).alloc _).alloc _).alloc _)
 have HBn : Hid (Bo ((((w.alloc (.cells #[.int .i64 0, .string ⟨#[]⟩, .int .i64 0, .slice none 0 0, .int .i64 0, .int .i64 0] 27)).alloc (.cells #[.int .i64 0] 3)).alloc (.cells #[.int .i64 0, .int .i64 0, .int .i64 0] 30)).alloc (.cells #[.slice aL n cap, .int .i64 (k : Int), .int .i64 0] 143)) (w.heap.size + 1) 3 #[.int .i64 0]) := Lib.hid ((((by have h := Bo.new (w.alloc (.cells #[.int .i64 0, .string ⟨#[]⟩, .int .i64 0, .slice none 0 0, .int .i64 0, .int .i64 0] 27)) 3 #[.int .i64 0]; rw [World.size_alloc] at h; exact h : Bo ((w.alloc (.cells #[.int .i64 0, .string ⟨#[]⟩, .int .i64 0, .slice none 0 0, .int .i64 0, .int .i64 0] 27)).alloc (.cells #[.int .i64 0] 3)) (w.heap.size + 1) 3 #[.int .i64 0])).alloc _).alloc _)
 have HBf : Hid (Bo ((((w.alloc (.cells #[.int .i64 0, .string ⟨#[]⟩, .int .i64 0, .slice none 0 0, .int .i64 0, .int .i64 0] 27)).alloc (.cells #[.int .i64 0] 3)).alloc (.cells #[.int .i64 0, .int .i64 0, .int .i64 0] 30)).alloc (.cells #[.slice aL n cap, .int .i64 (k : Int), .int .i64 0] 143)) (w.heap.size + 1 + 1) 30 #[.int .i64 0, .int .i64 0, .int .i64 0]) := Lib.hid (((by have h := Bo.new ((w.alloc (.cells #[.int .i64 0, .string ⟨#[]⟩, .int .i64 0, .slice none 0 0, .int .i64 0, .int .i64 0] 27)).alloc (.cells #[.int .i64 0] 3)) 30 #[.int .i64 0, .int .i64 0, .int .i64 0]; rw [World.size_alloc, World.size_alloc] at h; exact h : Bo (((w.alloc (.cells #[.int .i64 0, .string ⟨#[]⟩, .int .i64 0, .slice none 0 0, .int .i64 0, .int .i64 0] 27)).alloc (.cells #[.int .i64 0] 3)).alloc (.cells #[.int .i64 0, .int .i64 0, .int .i64 0] 30)) (w.heap.size + 1 + 1) 30 #[.int .i64 0, .int .i64 0, .int .i64 0])).alloc _)
 have hbo : Bo ((((w.alloc (.cells #[.int .i64 0, .string ⟨#[]⟩, .int .i64 0, .slice none 0 0, .int .i64 0, .int .i64 0] 27)).alloc (.cells #[.int .i64 0] 3)).alloc (.cells #[.int .i64 0, .int .i64 0, .int .i64 0] 30)).alloc (.cells #[.slice aL n cap, .int .i64 (k : Int), .int .i64 0] 143)) (w.heap.size + 1 + 1 + 1) 143 #[.slice aL n cap, .int .i64 (k : Int), .int .i64 0] := by have h := Bo.new (((w.alloc (.cells #[.int .i64 0, .string ⟨#[]⟩, .int .i64 0, .slice none 0 0, .int .i64 0, .int .i64 0] 27)).alloc (.cells #[.int .i64 0] 3)).alloc (.cells #[.int .i64 0, .int .i64 0, .int .i64 0] 30)) 143 #[.slice aL n cap, .int .i64 (k : Int), .int .i64 0]; rw [World.size_alloc, World.size_alloc, World.size_alloc] at h; exact h
 have hbel : Below w.heap.size w ((((w.alloc (.cells #[.int .i64 0, .string ⟨#[]⟩, .int .i64 0, .slice none 0 0, .int .i64 0, .int .i64 0] 27)).alloc (.cells #[.int .i64 0] 3)).alloc (.cells #[.int .i64 0, .int .i64 0, .int .i64 0] 30)).alloc (.cells #[.slice aL n cap, .int .i64 (k : Int), .int .i64 0] 143)) := (((below_new w _).alloc (by simp) _).alloc (by simp only [World.size_alloc]; omega) _).alloc (by simp only [World.size_alloc]; omega) _
 have htk := H.out.keep hbel
 generalize ((((w.alloc (.cells #[.int .i64 0, .string ⟨#[]⟩, .int .i64 0, .slice none 0 0, .int .i64 0, .int .i64 0] 27)).alloc (.cells #[.int .i64 0] 3)).alloc (.cells #[.int .i64 0, .int .i64 0, .int .i64 0] 30)).alloc (.cells #[.slice aL n cap, .int .i64 (k : Int), .int .i64 0] 143)) = w1 at *
 have htk2 : Mem (· < w.heap.size + 1 + 1 + 1) w1 (.s 5 (tkRows ts)) (.slice aL n cap) := (Mem.keep H.out (Nat.le_refl _) hbel).le (by omega)
 generalize hq : w.heap.size + 1 + 1 + 1 = q at *
 have HP : Hid (PS ts aL n cap q k ((0 : Nat) : Int) w1) := Lib.hid ⟨hbo, htk2, hn⟩
 have HF : Hid (FarB q w.heap.size w w1) := Lib.hid (Far.of hbel)
 have hq1 : w.heap.size + 1 + 1 < q := by omega
 have hs2 : w1.heap.size = q + 1 := by omega
 clear hq hs1 hbo htk htk2 hbel
 cases r with
 | bad l_ c_ =>
  refine (of1_any hr _ HP.out).mono ?_
  rintro _ w2 ⟨rfl, hf, hbo⟩
  replace HBe := qB HBe hf
  replace HBn := qB HBn hf
  replace HBf := qB HBf hf
  replace HF := qF HF hf
  have hs2 := hf.size
  go_wp2_with (fail)
  refine leaves_cons (f := 88) (args := #[.pointer (some ⟨w.heap.size, 0, none⟩), .pointer (some ⟨w.heap.size + 1, 0, none⟩), .pointer (some ⟨w.heap.size + 1 + 1, 0, none⟩)]) (by simp) (by simp [go_sem]) ?_
  refine (caught_fault w2 l_ c_ (by omega) (by omega) HBe.out HBn.out HBf.out).mono ?_
  rintro e u w3 ⟨rfl, hu, hf3, g0, g1, g2⟩
  show Leaves _ _ _ _ [] (settle u) w3
  rw [hu]
  have x0 := g0.cell (j := 0) rfl; have x1 := g0.cell (j := 1) rfl; have x2 := g0.cell (j := 2) rfl; have x3 := g0.cell (j := 3) rfl; have x4 := g0.cell (j := 4) rfl; have x5 := g0.cell (j := 5) rfl; have y0 := g1.cell (j := 0) rfl; have z0 := g2.cell (j := 0) rfl; have z1 := g2.cell (j := 1) rfl; have z2 := g2.cell (j := 2) rfl
  refine ⟨_, ?_, rfl, ?_⟩
  · (clear HF HBe HBn HBf H g0 g1 g2 hf3; simp [results, Try.results56, go_sem, x0, x1, x2, x3, x4, x5, y0, z0, z1, z2])
  · exact Far.toB (Far.trans (Far.mono HF.out (fun b e => by rcases e with e | e <;> omega)) (Far.mono hf3 (fun b e => by rcases e with e | e | e <;> omega))) (Nat.le_refl _)
 | ok x j =>
  refine (of1_any hr _ HP.out).mono ?_
  rintro _ w2 ⟨ax, mx, cx, rfl, hf, hp, hm⟩
  replace HBe := qB HBe hf
  replace HBn := qB HBn hf
  replace HBf := qB HBf hf
  replace HF := qF HF hf
  have hs2 := hf.size
  replace HP := Lib.hid hp
  have HMx := Lib.hid hm
  clear hf hp hm
  simp only [exV]
  have HBq := Lib.hid HP.out.bo
  clear HP
  have ec := kc6 HBe; have nc := kc1 HBn; have fc := kc3 HBf; have qc := kc3 HBq
  have hI := i01_q_q_0 w (w.heap.size + 1 + 1) q w2
  go_wp2_with (fail)
  clear ec nc fc qc
  generalize ee : ((((((w2.setCell ⟨w.heap.size, 0, none⟩ (.int .i64 x.kind)).setCell ⟨w.heap.size, 1, none⟩ (.string x.name)).setCell ⟨w.heap.size, 2, none⟩ (.int .i64 x.n)).setCell ⟨w.heap.size, 3, none⟩ (.slice ax mx cx)).setCell ⟨w.heap.size, 4, none⟩ (.int .i64 x.line)).setCell ⟨w.heap.size, 5, none⟩ (.int .i64 x.col)) = w3 at *
  have hsz3 := sizeS6 ee
  replace HF := fN6 HF ee
  replace HBe := bS6 HBe ee
  replace HBn := bF6 HBn ee
  replace HBf := bF6 HBf ee
  replace HBq := bF6 HBq ee
  replace HMx := mS6 HMx ee
  clear ee
  clear hI
  have ec := kc6 HBe; have nc := kc1 HBn; have fc := kc3 HBf; have qc := kc3 HBq
  have hI := i01_q_q_0 w (w.heap.size + 1 + 1) q w3
  have hZ := i01_q_q_0 w (w.heap.size + 1 + 1) q w2
  refine wp_nopanic ?_
  refine wp_region_held_drew (S := fun w' => Far (fun b => b = w.heap.size ∨ b = w.heap.size + 1 ∨ b = w.heap.size + 1 + 1) (w3) w') (by kernel_rfl) (Far.of (below_drew _)) (fun hS10 => ?_)
  refine takeA 1 (v := ?_) rfl ?_ ?_
  rotate_left
  · (intro w hSw; (try dsimp only at hSw); replace qc := Far.c3z qc hSw (by intro e; rcases e with e | e | e <;> omega); go_simp; try with_reducible rfl)
  try simp only [Act.put, pu1, pu2, pu3]
  refine takeA 2 (v := ?_) rfl ?_ ?_
  rotate_left
  · (intro w hSw; (try dsimp only at hSw); replace qc := Far.c3z qc hSw (by intro e; rcases e with e | e | e <;> omega); go_simp; try with_reducible rfl)
  try simp only [Act.put, pu1, pu2, pu3]
  refine takeA 3 (v := ?_) rfl ?_ ?_
  rotate_left
  · (intro w hSw; (try dsimp only at hSw); replace qc := Far.c3z qc hSw (by intro e; rcases e with e | e | e <;> omega); go_simp; try with_reducible rfl)
  try simp only [Act.put, pu1, pu2, pu3]
  refine takeA 4 (v := ?_) rfl ?_ ?_
  rotate_left
  · (intro w hSw; (try dsimp only at hSw); replace qc := Far.c3z qc hSw (by intro e; rcases e with e | e | e <;> omega); go_simp; try with_reducible rfl)
  try simp only [Act.put, pu1, pu2, pu3]
  refine takeA 5 (v := ?_) rfl ?_ ?_
  rotate_left
  · (intro w hSw; (try dsimp only at hSw); replace qc := Far.c3z qc hSw (by intro e; rcases e with e | e | e <;> omega); go_simp; try with_reducible rfl)
  try simp only [Act.put, pu1, pu2, pu3]

  refine callA 0 rfl fun K hK => ?_
  go_simp
  refine hK.out _ _ ?_ (fun hS11 => ?_)
  · exact hS10
  clear hK K
  refine callA 6 rfl fun K hK => ?_
  go_simp
  refine hK.out _ _ ?_ (fun hS12 => ?_)
  · exact (by refine Far.trans ?_ (Far.of (below_drew _)); (iterate 6 (refine Far.setCell (p := ⟨w.heap.size, _, none⟩) ?_ (.inl rfl) _)); exact Far.refl _ _)
  clear hK K

  clear ec nc fc qc
  generalize ee : ((((((w3.setCell ⟨w.heap.size, 0, none⟩ (.int .i64 x.kind)).setCell ⟨w.heap.size, 1, none⟩ (.string x.name)).setCell ⟨w.heap.size, 2, none⟩ (.int .i64 x.n)).setCell ⟨w.heap.size, 3, none⟩ (.slice ax mx cx)).setCell ⟨w.heap.size, 4, none⟩ (.int .i64 x.line)).setCell ⟨w.heap.size, 5, none⟩ (.int .i64 x.col)) = w4_1 at *
  have hq1 := sizeS6 ee
  replace HF := fN6 HF ee
  replace HBe := bS6 HBe ee
  replace HBn := bF6 HBn ee
  replace HBf := bF6 HBf ee
  replace HBq := bF6 HBq ee
  replace HMx := mS6 HMx ee
  clear ee
  generalize ee : (w4_1.drew) = w4 at *
  have hq2 := sizeD ee
  replace HF := fD HF ee
  replace HBe := bD HBe ee
  replace HBn := bD HBn ee
  replace HBf := bD HBf ee
  replace HBq := bD HBq ee
  replace HMx := mD HMx ee
  clear ee
  have hsa4 : w4.heap.size = w2.heap.size + 0 := by omega
  clear hq1 hq2
  clear hI hZ
  have ec := kc6 HBe; have nc := kc1 HBn; have fc := kc3 HBf; have qc := kc3 HBq
  have hI := i01_q_q_0 w (w.heap.size + 1 + 1) q w4
  have hZ := i01_q_q_0 w (w.heap.size + 1 + 1) q w2
  refine callA 7 rfl fun K hK => ?_
  go_simp
  refine hK.out _ _ ?_ (fun hS13 => ?_)
  · exact Far.setCell (p := ⟨w.heap.size + 1, 0, none⟩) hS12 (.inr (.inl rfl)) _
  clear hK K

  clear ec nc fc qc
  generalize ee : (w4.setCell ⟨(w.heap.size + 1), 0, none⟩ (.int .i64 (j : Int))) = w5 at *
  have hsz5 := sizeS1 ee
  replace HF := fN1 HF ee
  replace HBe := bF1 HBe ee
  replace HBn : Hid (Bo w5 (w.heap.size + 1) 3 #[.int .i64 (j : Int)]) := Lib.hid (by rw [← ee]; exact HBn.out.set 0 (.int .i64 (j : Int)))
  replace HBf := bF1 HBf ee
  replace HBq := bF1 HBq ee
  replace HMx := mS1 HMx ee
  clear ee
  clear hI hZ
  have ec := kc6 HBe; have nc := kc1 HBn; have fc := kc3 HBf; have qc := kc3 HBq
  have hI := i01_q_q_0 w (w.heap.size + 1 + 1) q w5
  have hZ := i01_q_q_0 w (w.heap.size + 1 + 1) q w2
  refine callA 8 rfl fun K hK => ?_
  go_simp
  refine hK.out _ _ ?_ (fun hS14 => ?_)
  · exact Far.setCell (p := ⟨w.heap.size + 1 + 1, 2, none⟩) (Far.setCell (p := ⟨w.heap.size + 1 + 1, 1, none⟩) (Far.setCell (p := ⟨w.heap.size + 1 + 1, 0, none⟩) hS13 (.inr (.inr rfl)) _) (.inr (.inr rfl)) _) (.inr (.inr rfl)) _
  clear hK K
  refine wpAnyH_done (by kernel_rfl) ?_ _

  clear ec nc fc qc
  generalize ee : (((w5.setCell ⟨(w.heap.size + 1 + 1), 0, none⟩ (.int .i64 0)).setCell ⟨(w.heap.size + 1 + 1), 1, none⟩ (.int .i64 0)).setCell ⟨(w.heap.size + 1 + 1), 2, none⟩ (.int .i64 0)) = w6 at *
  have hsz6 := sizeS3 ee
  replace HF := fN3 HF ee
  replace HBe := bF3 HBe ee
  replace HBn := bF3 HBn ee
  replace HBf := bS3 HBf ee
  replace HBq := bF3 HBq ee
  replace HMx := mS3 HMx ee
  clear ee
  clear hI hZ
  show Exit.then _ _ Exit.normal _ _
  go_wp2_with (fail)
  refine leaves_cons (f := 88) (args := #[.pointer (some ⟨w.heap.size, 0, none⟩), .pointer (some ⟨w.heap.size + 1, 0, none⟩), .pointer (some ⟨w.heap.size + 1 + 1, 0, none⟩)]) (by simp) (by simp [go_sem]) ?_
  refine (caught_none _).mono ?_
  rintro e u w9 ⟨rfl, rfl, rfl⟩
  have x0 := HBe.out.cell (j := 0) rfl; have x1 := HBe.out.cell (j := 1) rfl; have x2 := HBe.out.cell (j := 2) rfl; have x3 := HBe.out.cell (j := 3) rfl; have x4 := HBe.out.cell (j := 4) rfl; have x5 := HBe.out.cell (j := 5) rfl; have y0 := HBn.out.cell (j := 0) rfl; have z0 := HBf.out.cell (j := 0) rfl; have z1 := HBf.out.cell (j := 1) rfl; have z2 := HBf.out.cell (j := 2) rfl
  refine ⟨.tuple #[exV x ax mx cx, .int .i64 (j : Int), .agg #[.int .i64 0, .int .i64 0, .int .i64 0]], ?_, ax, mx, cx, rfl, ?_, memNw HMx.out (by omega)⟩
  · (clear HF HBe HBn HBf HBq HMx H; simp [results, Try.results56, go_sem, exV, x0, x1, x2, x3, x4, x5, y0, z0, z1, z2])
  · exact Far.toB (Far.mono HF.out (fun b e => by rcases e with e | e <;> omega)) (Nat.le_refl _)
theorem rof_any {F : Nat} {i : Int} {r : Rd1} (w : World) (h : MemW w (.s 5 (tkRows ts)) (.slice aL n cap)) (hn : n ≤ 1048576) (hr : readE ts F .expr i.toNat 0 = some r) :
  Calls Try.prog 56 #[.slice aL n cap, .int .i64 i, .func (.func 57) #[] #[]] w (RunAns r w) := by
 by_cases hi : i < 0
 · (rw [Int.toNat_of_nonpos (by omega)] at hr; exact run_of_neg hi w h hn hr)
 · (obtain ⟨k, rfl⟩ := Int.eq_ofNat_of_zero_le (show 0 ≤ i by omega); exact run_of_pos w h hn hr)
set_option maxRecDepth 100000 in
set_option maxHeartbeats 20000000 in
theorem of_any {F : Nat} {i : Int} {r : Rd1} (w : World) (h : MemW w (.s 5 (tkRows ts)) (.slice aL n cap)) (hn : n ≤ 1048576) (hr : readE ts F .expr i.toNat 0 = some r) :
  Calls Try.prog 25 #[.slice aL n cap, .int .i64 i] w (RunAns r w) := by
 have H := Lib.hid h
 clear h
 go_enter Try.func25, Try.ntmps25
 go_wp2_with (fail)
 have hs1 : ((w.alloc (.cells #[.int .i64 0, .string ⟨#[]⟩, .int .i64 0, .slice none 0 0, .int .i64 0, .int .i64 0] 27)).alloc (.cells #[.int .i64 0, .int .i64 0, .int .i64 0] 30)).heap.size = w.heap.size + 1 + 1 := by simp only [World.size_alloc]
 have HBe : Hid (Bo ((w.alloc (.cells #[.int .i64 0, .string ⟨#[]⟩, .int .i64 0, .slice none 0 0, .int .i64 0, .int .i64 0] 27)).alloc (.cells #[.int .i64 0, .int .i64 0, .int .i64 0] 30)) w.heap.size 27 #[.int .i64 0, .string ⟨#[]⟩, .int .i64 0, .slice none 0 0, .int .i64 0, .int .i64 0]) := Lib.hid ((Bo.new w 27 #[.int .i64 0, .string ⟨#[]⟩, .int .i64 0, .slice none 0 0, .int .i64 0, .int .i64 0]).alloc _)
 have HBf : Hid (Bo ((w.alloc (.cells #[.int .i64 0, .string ⟨#[]⟩, .int .i64 0, .slice none 0 0, .int .i64 0, .int .i64 0] 27)).alloc (.cells #[.int .i64 0, .int .i64 0, .int .i64 0] 30)) (w.heap.size + 1) 30 #[.int .i64 0, .int .i64 0, .int .i64 0]) := Lib.hid (by have h := Bo.new (w.alloc (.cells #[.int .i64 0, .string ⟨#[]⟩, .int .i64 0, .slice none 0 0, .int .i64 0, .int .i64 0] 27)) 30 #[.int .i64 0, .int .i64 0, .int .i64 0]; rw [World.size_alloc] at h; exact h)
 have hbel : Below w.heap.size w ((w.alloc (.cells #[.int .i64 0, .string ⟨#[]⟩, .int .i64 0, .slice none 0 0, .int .i64 0, .int .i64 0] 27)).alloc (.cells #[.int .i64 0, .int .i64 0, .int .i64 0] 30)) := ((below_new w _).alloc (by simp) _)
 have HM := Lib.hid (H.out.keep hbel)
 have HB := Lib.hid hbel
 clear hbel
 generalize ((w.alloc (.cells #[.int .i64 0, .string ⟨#[]⟩, .int .i64 0, .slice none 0 0, .int .i64 0, .int .i64 0] 27)).alloc (.cells #[.int .i64 0, .int .i64 0, .int .i64 0] 30)) = w1 at *
 refine (rof_any w1 HM.out hn hr).mono ?_
 cases r with
 | bad l_ c_ =>
  rintro _ w2 ⟨rfl, hb⟩
  replace HBe := kB HBe hb
  replace HBf := kB HBf hb
  have hs2 := hb.size
  have HF : Hid (Far (fun b => w.heap.size ≤ b) w w2) := Lib.hid (Far.of (HB.out.trans (hb.mono (by omega))))
  clear hb
  have ec := kc6 HBe; have fc := kc3 HBf
  have hI := i01_0 w w2
  go_wp2_with (fail)
  clear ec fc
  replace HBe := Lib.hid (HBe.out.set 0 (.int .i64 0))
  replace HBf := Lib.hid (HBf.out.far 0 (.int .i64 0) (g := w.heap.size) (by omega))
  replace HF := Lib.hid (HF.out.setCell (p := ⟨w.heap.size, 0, none⟩) (Nat.le_refl w.heap.size) (.int .i64 0))
  replace HBe := Lib.hid (HBe.out.set 1 (.string ⟨#[]⟩))
  replace HBf := Lib.hid (HBf.out.far 1 (.string ⟨#[]⟩) (g := w.heap.size) (by omega))
  replace HF := Lib.hid (HF.out.setCell (p := ⟨w.heap.size, 1, none⟩) (Nat.le_refl w.heap.size) (.string ⟨#[]⟩))
  replace HBe := Lib.hid (HBe.out.set 2 (.int .i64 0))
  replace HBf := Lib.hid (HBf.out.far 2 (.int .i64 0) (g := w.heap.size) (by omega))
  replace HF := Lib.hid (HF.out.setCell (p := ⟨w.heap.size, 2, none⟩) (Nat.le_refl w.heap.size) (.int .i64 0))
  replace HBe := Lib.hid (HBe.out.set 3 (.slice none 0 0))
  replace HBf := Lib.hid (HBf.out.far 3 (.slice none 0 0) (g := w.heap.size) (by omega))
  replace HF := Lib.hid (HF.out.setCell (p := ⟨w.heap.size, 3, none⟩) (Nat.le_refl w.heap.size) (.slice none 0 0))
  replace HBe := Lib.hid (HBe.out.set 4 (.int .i64 0))
  replace HBf := Lib.hid (HBf.out.far 4 (.int .i64 0) (g := w.heap.size) (by omega))
  replace HF := Lib.hid (HF.out.setCell (p := ⟨w.heap.size, 4, none⟩) (Nat.le_refl w.heap.size) (.int .i64 0))
  replace HBe := Lib.hid (HBe.out.set 5 (.int .i64 0))
  replace HBf := Lib.hid (HBf.out.far 5 (.int .i64 0) (g := w.heap.size) (by omega))
  replace HF := Lib.hid (HF.out.setCell (p := ⟨w.heap.size, 5, none⟩) (Nat.le_refl w.heap.size) (.int .i64 0))
  replace HBf := Lib.hid (HBf.out.set 0 (.int .i64 1))
  replace HBe := Lib.hid (HBe.out.far 0 (.int .i64 1) (g := (w.heap.size + 1)) (by omega))
  replace HF := Lib.hid (HF.out.setCell (p := ⟨(w.heap.size + 1), 0, none⟩) (Nat.le_succ w.heap.size) (.int .i64 1))
  replace HBf := Lib.hid (HBf.out.set 1 (.int .i64 l_))
  replace HBe := Lib.hid (HBe.out.far 1 (.int .i64 l_) (g := (w.heap.size + 1)) (by omega))
  replace HF := Lib.hid (HF.out.setCell (p := ⟨(w.heap.size + 1), 1, none⟩) (Nat.le_succ w.heap.size) (.int .i64 l_))
  replace HBf := Lib.hid (HBf.out.set 2 (.int .i64 c_))
  replace HBe := Lib.hid (HBe.out.far 2 (.int .i64 c_) (g := (w.heap.size + 1)) (by omega))
  replace HF := Lib.hid (HF.out.setCell (p := ⟨(w.heap.size + 1), 2, none⟩) (Nat.le_succ w.heap.size) (.int .i64 c_))
  replace HBe : Hid (Bo (((((((((w2.setCell ⟨w.heap.size, 0, none⟩ (.int .i64 0)).setCell ⟨w.heap.size, 1, none⟩ (.string ⟨#[]⟩)).setCell ⟨w.heap.size, 2, none⟩ (.int .i64 0)).setCell ⟨w.heap.size, 3, none⟩ (.slice none 0 0)).setCell ⟨w.heap.size, 4, none⟩ (.int .i64 0)).setCell ⟨w.heap.size, 5, none⟩ (.int .i64 0)).setCell ⟨(w.heap.size + 1), 0, none⟩ (.int .i64 1)).setCell ⟨(w.heap.size + 1), 1, none⟩ (.int .i64 l_)).setCell ⟨(w.heap.size + 1), 2, none⟩ (.int .i64 c_)) w.heap.size 27 #[.int .i64 0, .string ⟨#[]⟩, .int .i64 0, .slice none 0 0, .int .i64 0, .int .i64 0]) := HBe
  replace HBf : Hid (Bo (((((((((w2.setCell ⟨w.heap.size, 0, none⟩ (.int .i64 0)).setCell ⟨w.heap.size, 1, none⟩ (.string ⟨#[]⟩)).setCell ⟨w.heap.size, 2, none⟩ (.int .i64 0)).setCell ⟨w.heap.size, 3, none⟩ (.slice none 0 0)).setCell ⟨w.heap.size, 4, none⟩ (.int .i64 0)).setCell ⟨w.heap.size, 5, none⟩ (.int .i64 0)).setCell ⟨(w.heap.size + 1), 0, none⟩ (.int .i64 1)).setCell ⟨(w.heap.size + 1), 1, none⟩ (.int .i64 l_)).setCell ⟨(w.heap.size + 1), 2, none⟩ (.int .i64 c_)) (w.heap.size + 1) 30 #[.int .i64 1, .int .i64 l_, .int .i64 c_]) := HBf
  generalize (((((((((w2.setCell ⟨w.heap.size, 0, none⟩ (.int .i64 0)).setCell ⟨w.heap.size, 1, none⟩ (.string ⟨#[]⟩)).setCell ⟨w.heap.size, 2, none⟩ (.int .i64 0)).setCell ⟨w.heap.size, 3, none⟩ (.slice none 0 0)).setCell ⟨w.heap.size, 4, none⟩ (.int .i64 0)).setCell ⟨w.heap.size, 5, none⟩ (.int .i64 0)).setCell ⟨(w.heap.size + 1), 0, none⟩ (.int .i64 1)).setCell ⟨(w.heap.size + 1), 1, none⟩ (.int .i64 l_)).setCell ⟨(w.heap.size + 1), 2, none⟩ (.int .i64 c_)) = w3 at *
  have x0 := HBe.out.cell (j := 0) rfl; have x1 := HBe.out.cell (j := 1) rfl; have x2 := HBe.out.cell (j := 2) rfl; have x3 := HBe.out.cell (j := 3) rfl; have x4 := HBe.out.cell (j := 4) rfl; have x5 := HBe.out.cell (j := 5) rfl; have z0 := HBf.out.cell (j := 0) rfl; have z1 := HBf.out.cell (j := 1) rfl; have z2 := HBf.out.cell (j := 2) rfl
  refine bodyPost_ret (v := .tuple #[.agg #[.int .i64 0, .string ⟨#[]⟩, .int .i64 0, .slice none 0 0, .int .i64 0, .int .i64 0], .int .i64 0, .agg #[.int .i64 1, .int .i64 l_, .int .i64 c_]]) (by clear HF HBe HBf H HM HB; simp [results, Try.results25, go_sem, x0, x1, x2, x3, x4, x5, z0, z1, z2]) rfl ?_
  exact ⟨rfl, Far.toB HF.out (Nat.le_refl _)⟩
 | ok x j =>
  rintro _ w2 ⟨a, m, c, rfl, hb, hm⟩
  replace HBe := kB HBe hb
  replace HBf := kB HBf hb
  have hs2 := hb.size
  have HF : Hid (Far (fun b => w.heap.size ≤ b) w w2) := Lib.hid (Far.of (HB.out.trans (hb.mono (by omega))))
  clear hb
  have HM2 := Lib.hid hm
  clear hm
  simp only [exV]
  have ec := kc6 HBe; have fc := kc3 HBf
  have hI := i01_0 w w2
  go_wp2_with (fail)
  clear ec fc
  replace HBe := Lib.hid (HBe.out.set 0 (.int .i64 x.kind))
  replace HBf := Lib.hid (HBf.out.far 0 (.int .i64 x.kind) (g := w.heap.size) (by omega))
  replace HF := Lib.hid (HF.out.setCell (p := ⟨w.heap.size, 0, none⟩) (Nat.le_refl w.heap.size) (.int .i64 x.kind))
  replace HM2 := Lib.hid (memSet HM2.out (g := w.heap.size) (by omega) 0 (.int .i64 x.kind))
  replace HBe := Lib.hid (HBe.out.set 1 (.string x.name))
  replace HBf := Lib.hid (HBf.out.far 1 (.string x.name) (g := w.heap.size) (by omega))
  replace HF := Lib.hid (HF.out.setCell (p := ⟨w.heap.size, 1, none⟩) (Nat.le_refl w.heap.size) (.string x.name))
  replace HM2 := Lib.hid (memSet HM2.out (g := w.heap.size) (by omega) 1 (.string x.name))
  replace HBe := Lib.hid (HBe.out.set 2 (.int .i64 x.n))
  replace HBf := Lib.hid (HBf.out.far 2 (.int .i64 x.n) (g := w.heap.size) (by omega))
  replace HF := Lib.hid (HF.out.setCell (p := ⟨w.heap.size, 2, none⟩) (Nat.le_refl w.heap.size) (.int .i64 x.n))
  replace HM2 := Lib.hid (memSet HM2.out (g := w.heap.size) (by omega) 2 (.int .i64 x.n))
  replace HBe := Lib.hid (HBe.out.set 3 (.slice a m c))
  replace HBf := Lib.hid (HBf.out.far 3 (.slice a m c) (g := w.heap.size) (by omega))
  replace HF := Lib.hid (HF.out.setCell (p := ⟨w.heap.size, 3, none⟩) (Nat.le_refl w.heap.size) (.slice a m c))
  replace HM2 := Lib.hid (memSet HM2.out (g := w.heap.size) (by omega) 3 (.slice a m c))
  replace HBe := Lib.hid (HBe.out.set 4 (.int .i64 x.line))
  replace HBf := Lib.hid (HBf.out.far 4 (.int .i64 x.line) (g := w.heap.size) (by omega))
  replace HF := Lib.hid (HF.out.setCell (p := ⟨w.heap.size, 4, none⟩) (Nat.le_refl w.heap.size) (.int .i64 x.line))
  replace HM2 := Lib.hid (memSet HM2.out (g := w.heap.size) (by omega) 4 (.int .i64 x.line))
  replace HBe := Lib.hid (HBe.out.set 5 (.int .i64 x.col))
  replace HBf := Lib.hid (HBf.out.far 5 (.int .i64 x.col) (g := w.heap.size) (by omega))
  replace HF := Lib.hid (HF.out.setCell (p := ⟨w.heap.size, 5, none⟩) (Nat.le_refl w.heap.size) (.int .i64 x.col))
  replace HM2 := Lib.hid (memSet HM2.out (g := w.heap.size) (by omega) 5 (.int .i64 x.col))
  replace HBf := Lib.hid (HBf.out.set 0 (.int .i64 0))
  replace HBe := Lib.hid (HBe.out.far 0 (.int .i64 0) (g := (w.heap.size + 1)) (by omega))
  replace HF := Lib.hid (HF.out.setCell (p := ⟨(w.heap.size + 1), 0, none⟩) (Nat.le_succ w.heap.size) (.int .i64 0))
  replace HM2 := Lib.hid (memSet HM2.out (g := (w.heap.size + 1)) (by omega) 0 (.int .i64 0))
  replace HBf := Lib.hid (HBf.out.set 1 (.int .i64 0))
  replace HBe := Lib.hid (HBe.out.far 1 (.int .i64 0) (g := (w.heap.size + 1)) (by omega))
  replace HF := Lib.hid (HF.out.setCell (p := ⟨(w.heap.size + 1), 1, none⟩) (Nat.le_succ w.heap.size) (.int .i64 0))
  replace HM2 := Lib.hid (memSet HM2.out (g := (w.heap.size + 1)) (by omega) 1 (.int .i64 0))
  replace HBf := Lib.hid (HBf.out.set 2 (.int .i64 0))
  replace HBe := Lib.hid (HBe.out.far 2 (.int .i64 0) (g := (w.heap.size + 1)) (by omega))
  replace HF := Lib.hid (HF.out.setCell (p := ⟨(w.heap.size + 1), 2, none⟩) (Nat.le_succ w.heap.size) (.int .i64 0))
  replace HM2 := Lib.hid (memSet HM2.out (g := (w.heap.size + 1)) (by omega) 2 (.int .i64 0))
  replace HBe : Hid (Bo (((((((((w2.setCell ⟨w.heap.size, 0, none⟩ (.int .i64 x.kind)).setCell ⟨w.heap.size, 1, none⟩ (.string x.name)).setCell ⟨w.heap.size, 2, none⟩ (.int .i64 x.n)).setCell ⟨w.heap.size, 3, none⟩ (.slice a m c)).setCell ⟨w.heap.size, 4, none⟩ (.int .i64 x.line)).setCell ⟨w.heap.size, 5, none⟩ (.int .i64 x.col)).setCell ⟨(w.heap.size + 1), 0, none⟩ (.int .i64 0)).setCell ⟨(w.heap.size + 1), 1, none⟩ (.int .i64 0)).setCell ⟨(w.heap.size + 1), 2, none⟩ (.int .i64 0)) w.heap.size 27 #[.int .i64 x.kind, .string x.name, .int .i64 x.n, .slice a m c, .int .i64 x.line, .int .i64 x.col]) := HBe
  replace HBf : Hid (Bo (((((((((w2.setCell ⟨w.heap.size, 0, none⟩ (.int .i64 x.kind)).setCell ⟨w.heap.size, 1, none⟩ (.string x.name)).setCell ⟨w.heap.size, 2, none⟩ (.int .i64 x.n)).setCell ⟨w.heap.size, 3, none⟩ (.slice a m c)).setCell ⟨w.heap.size, 4, none⟩ (.int .i64 x.line)).setCell ⟨w.heap.size, 5, none⟩ (.int .i64 x.col)).setCell ⟨(w.heap.size + 1), 0, none⟩ (.int .i64 0)).setCell ⟨(w.heap.size + 1), 1, none⟩ (.int .i64 0)).setCell ⟨(w.heap.size + 1), 2, none⟩ (.int .i64 0)) (w.heap.size + 1) 30 #[.int .i64 0, .int .i64 0, .int .i64 0]) := HBf
  generalize (((((((((w2.setCell ⟨w.heap.size, 0, none⟩ (.int .i64 x.kind)).setCell ⟨w.heap.size, 1, none⟩ (.string x.name)).setCell ⟨w.heap.size, 2, none⟩ (.int .i64 x.n)).setCell ⟨w.heap.size, 3, none⟩ (.slice a m c)).setCell ⟨w.heap.size, 4, none⟩ (.int .i64 x.line)).setCell ⟨w.heap.size, 5, none⟩ (.int .i64 x.col)).setCell ⟨(w.heap.size + 1), 0, none⟩ (.int .i64 0)).setCell ⟨(w.heap.size + 1), 1, none⟩ (.int .i64 0)).setCell ⟨(w.heap.size + 1), 2, none⟩ (.int .i64 0)) = w3 at *
  have x0 := HBe.out.cell (j := 0) rfl; have x1 := HBe.out.cell (j := 1) rfl; have x2 := HBe.out.cell (j := 2) rfl; have x3 := HBe.out.cell (j := 3) rfl; have x4 := HBe.out.cell (j := 4) rfl; have x5 := HBe.out.cell (j := 5) rfl; have z0 := HBf.out.cell (j := 0) rfl; have z1 := HBf.out.cell (j := 1) rfl; have z2 := HBf.out.cell (j := 2) rfl
  refine bodyPost_ret (v := .tuple #[.agg #[.int .i64 x.kind, .string x.name, .int .i64 x.n, .slice a m c, .int .i64 x.line, .int .i64 x.col], .int .i64 (j : Int), .agg #[.int .i64 0, .int .i64 0, .int .i64 0]]) (by clear HF HBe HBf H HM HB HM2; simp [results, Try.results25, go_sem, x0, x1, x2, x3, x4, x5, z0, z1, z2]) rfl ?_
  exact ⟨_, _, _, rfl, Far.toB HF.out (Nat.le_refl _), memNw HM2.out (by omega)⟩
end
end Go.Proofs.Ytcoiagfeoonpbaa
