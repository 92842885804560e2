/-
  Constructors, data and rules in memory: their rows, read and built. Plain lemmas. No condition.
-/
import Derived.Test.YtcoiagfeoonpbaaSt19
import Derived.Test.YtcoiagfeoonpbaaSt6
import Derived.Test.YtcoiagfeoonpbaaSt18
import Derived.Test.YtcoiagfeoonpbaaSt17
namespace Go.Proofs.Ytcoiagfeoonpbaa
open Go.RowKit
def strRow (s : ByteArray) : List At := [.v (.string s)]
def Cn.row (c : Cn) : List At := [.v (.string c.name), .s 4 (Tm.rows c.types), .v (.int .i64 c.l), .v (.int .i64 c.c)]
def Da.row (d : Da) : List At := [.v (.string d.name), .s 1 (d.vars.map strRow), .s 4 (d.cons.map Cn.row), .v (.int .i64 d.l), .v (.int .i64 d.c)]
def Ru.row (r : Ru) : List At := [.v (.string r.name), .s 6 (Ex.rows r.pats), .s 6 (Ex.rows r.guard), .v (.int .i64 r.body.kind), .v (.string r.body.name), .v (.int .i64 r.body.n), .s 6 (Ex.rows r.body.args), .v (.int .i64 r.body.line), .v (.int .i64 r.body.col), .v (.int .i64 r.l), .v (.int .i64 r.c)]
def tmV (x : Tm) (a : Option Addr) (n c : Nat) : Value := .agg #[.int .i64 x.kind, .string x.name, .int .i64 x.n, .slice a n c]
def cnV (x : Cn) (a : Option Addr) (n c : Nat) : Value := .agg #[.string x.name, .slice a n c, .int .i64 x.l, .int .i64 x.c]
def daV (x : Da) (a : Option Addr) (n c : Nat) (a' : Option Addr) (n' c' : Nat) : Value := .agg #[.string x.name, .slice a n c, .slice a' n' c', .int .i64 x.l, .int .i64 x.c]
section
variable {S : Nat → Prop} {w : World}
theorem mem_slice {sz : Nat} {rs : List (List At)} {v : Value} (h : Mem S w (.s sz rs) v) : ∃ a n c, v = .slice a n c := by
  cases h with
  | e a cap sz hc => exact ⟨_, _, _, rfl⟩
  | s => exact ⟨_, _, _, rfl⟩
theorem mem_v {x y : Value} (h : Mem S w (.v x) y) : y = x := by cases h; rfl
theorem cn_mem {x : Cn} {a : Option Addr} {n c : Nat} (h : Mem S w (.s 4 (Tm.rows x.types)) (.slice a n c)) : All2 (Mem S w) x.row [.string x.name, .slice a n c, .int .i64 x.l, .int .i64 x.c] :=
  .cons (.v _ rfl) (.cons h (.cons (.v _ rfl) (.cons (.v _ rfl) .nil)))
theorem da_mem {x : Da} {a a' : Option Addr} {n c n' c' : Nat} (h : Mem S w (.s 1 (x.vars.map strRow)) (.slice a n c)) (h' : Mem S w (.s 4 (x.cons.map Cn.row)) (.slice a' n' c')) : All2 (Mem S w) x.row [.string x.name, .slice a n c, .slice a' n' c', .int .i64 x.l, .int .i64 x.c] :=
  .cons (.v _ rfl) (.cons h (.cons h' (.cons (.v _ rfl) (.cons (.v _ rfl) .nil))))
theorem ru_mem {x : Ru} {a a' b : Option Addr} {n c n' c' m k : Nat} (h : Mem S w (.s 6 (Ex.rows x.pats)) (.slice a n c)) (h' : Mem S w (.s 6 (Ex.rows x.guard)) (.slice a' n' c')) (hb : Mem S w (.s 6 (Ex.rows x.body.args)) (.slice b m k)) :
    All2 (Mem S w) x.row [.string x.name, .slice a n c, .slice a' n' c', .int .i64 x.body.kind, .string x.body.name, .int .i64 x.body.n, .slice b m k, .int .i64 x.body.line, .int .i64 x.body.col, .int .i64 x.l, .int .i64 x.c] :=
  .cons (.v _ rfl) (.cons h (.cons h' (.cons (.v _ rfl) (.cons (.v _ rfl) (.cons (.v _ rfl) (.cons hb (.cons (.v _ rfl) (.cons (.v _ rfl) (.cons (.v _ rfl) (.cons (.v _ rfl) .nil))))))))))
theorem str_mem {s : ByteArray} : All2 (Mem S w) (strRow s) [.string s] := .cons (.v _ rfl) .nil
theorem tm_mem {x : Tm} {a : Option Addr} {n c : Nat} (h : Mem S w (.s 4 (Tm.rows x.args)) (.slice a n c)) : All2 (Mem S w) x.row [.int .i64 x.kind, .string x.name, .int .i64 x.n, .slice a n c] := by
  rw [Tm.row_eq]
  exact .cons (.v _ rfl) (.cons (.v _ rfl) (.cons (.v _ rfl) (.cons h .nil)))
theorem cn_cells {x : Cn} {cs : List Value} (h : All2 (Mem S w) x.row cs) : ∃ a n c, cs = [.string x.name, .slice a n c, .int .i64 x.l, .int .i64 x.c] ∧ Mem S w (.s 4 (Tm.rows x.types)) (.slice a n c) := by
  unfold Cn.row at h
  cases h with | cons h0 h => cases h with | cons h1 h => cases h with | cons h2 h => cases h with | cons h3 h => cases h with | nil =>
  obtain ⟨a, n, c, rfl⟩ := mem_slice h1
  exact ⟨a, n, c, by rw [mem_v h0, mem_v h2, mem_v h3], h1⟩
theorem da_cells {x : Da} {cs : List Value} (h : All2 (Mem S w) x.row cs) : ∃ a n c a' n' c', cs = [.string x.name, .slice a n c, .slice a' n' c', .int .i64 x.l, .int .i64 x.c] ∧ Mem S w (.s 1 (x.vars.map strRow)) (.slice a n c) ∧ Mem S w (.s 4 (x.cons.map Cn.row)) (.slice a' n' c') := by
  unfold Da.row at h
  cases h with | cons h0 h => cases h with | cons h1 h => cases h with | cons h2 h => cases h with | cons h3 h => cases h with | cons h4 h => cases h with | nil =>
  obtain ⟨a, n, c, rfl⟩ := mem_slice h1
  obtain ⟨a', n', c', rfl⟩ := mem_slice h2
  exact ⟨a, n, c, a', n', c', by rw [mem_v h0, mem_v h3, mem_v h4], h1, h2⟩
end
section
variable {w w' : World} {base : Nat}
theorem row_new {t : TypeId} {sz : Nat} {r : List At} {cs : Array Value} (hr : All2 (Mem (Nw 0 base w.heap.size) w) r cs.toList) (hs : cs.toList.length = sz) (hb : base ≤ w.heap.size) : OwnD 0 base t sz (w.alloc (.cells cs t)) (.slice (some ⟨w.heap.size, 0, none⟩) 1 1) [r] :=
  OwnD.built (css := [cs.toList]) (.cons ⟨hs, hr⟩ .nil) hb 1 rfl (by decide) cs (by simp)
theorem row_app {t : TypeId} {sz : Nat} {y : Value} {rs : List (List At)} {W : World} {r : List At} {cs : Array Value} (h : OwnD 0 base t sz W y rs) (hb : base ≤ W.heap.size) (hs : W.heap.size ≤ w.heap.size) (hr : All2 (Mem (Nw 0 W.heap.size w.heap.size) w) r cs.toList) (hsz : cs.toList.length = sz) :
    Mem (fun b => Nw 0 base (w.alloc (.cells cs t)).heap.size b ∧ y.ownBlock ≠ some b) (w.alloc (.cells cs t)) (.s sz [r]) (.slice (some ⟨w.heap.size, 0, none⟩) 1 1) :=
  h.apart (Nat.zero_le _) hb (row_new hr hsz hs).mem
end
end Go.Proofs.Ytcoiagfeoonpbaa

/-
  The module reader's small steps: ok, fail, is, take, name, starts. No condition but how the reader and the tokens lie.
-/
namespace Go.Proofs.Ytcoiagfeoonpbaa
open Go.RowKit
theorem fail_ok {ts : List Tk} {s : MS} (h : s.ok = true) : failS ts s = ⟨s.i, some ((nowT ts s.i).l, (nowT ts s.i).c)⟩ := by unfold failS; rw [if_pos h]
theorem fail_no {ts : List Tk} {s : MS} (h : s.ok = false) : failS ts s = s := by unfold failS; rw [if_neg (by rw [h]; decide)]
section
variable {ts : List Tk} {aL : Option Addr} {n cap q : Nat} {s : MS} {d : Int}
attribute [local go_sem] tk_pos
set_option maxRecDepth 100000 in
set_option maxHeartbeats 20000000 in
theorem mok_any (w : World) (hp : RS ts aL n cap q s d w) :
    Calls Try.prog 34 #[.pointer (some ⟨q, 0, none⟩)] w fun e w' => e = .returned (.bool s.ok) ∧ w = w' := by
  have c3 := (kcR (Lib.hid hp)).2.2.2.1
  have he := ok_eB s
  have fz := hp.bo.frozen
  clear hp
  go_enter Try.func34, Try.ntmps34
  go_wp2
  refine bodyPost_ret (results_tmp rfl _ _ _) rfl ?_
  exact ⟨rfl, rfl⟩
set_option maxRecDepth 100000 in
set_option maxHeartbeats 20000000 in
theorem mfail_any (w : World) (hp : RS ts aL n cap q s d w) :
    Calls Try.prog 73 #[.pointer (some ⟨q, 0, none⟩)] w fun e w' => e = .returned (.tuple #[]) ∧ FarQ q w w' ∧ RS ts aL n cap q (failS ts s) d w' := by
  have HP := Lib.hid hp
  clear hp
  go_enter Try.func73, Try.ntmps73
  go_wp2_with (fail)
  refine (mok_any _ HP.out).mono ?_
  rintro _ _ ⟨rfl, rfl⟩
  cases hok : s.ok with
  | false =>
    go_wp2_with (fail)
    go_end0
    exact ⟨rfl, FarQ.refl _ _, by rw [fail_no hok]; exact HP.out⟩
  | true =>
    go_wp2_with (fail)
    refine (mnow_any _ HP.out.bo HP.out.mem).mono ?_
    rintro _ w2 ⟨rfl, hb⟩
    have HB := Lib.hid hb
    have HP2 := krP HP hb
    clear hb
    simp only [tkV]
    have qc := kcR HP2
    go_wp2_with (fail)
    go_end0
    exact ⟨rfl, (FarQ.of HB.out).trans ((FarQ.set _ _ _).trans ((FarQ.set _ _ _).trans (FarQ.set _ _ _))), by rw [fail_ok hok]; exact HP2.out.of ((FarQ.set _ _ _).trans ((FarQ.set _ _ _).trans (FarQ.set _ _ _))) (((HP2.out.bo.set 3 _).set 4 _).set 5 _)⟩
set_option maxRecDepth 100000 in
set_option maxHeartbeats 20000000 in
theorem mis_any (k : Int) (x : ByteArray) (w : World) (hp : RS ts aL n cap q s d w) :
    Calls Try.prog 39 #[.pointer (some ⟨q, 0, none⟩), .int .i64 k, .string x] w fun e w' => e = .returned (.bool (isS ts s k x)) ∧ Below w.heap.size w w' := by
  have HP := Lib.hid hp
  clear hp
  go_enter Try.func39, Try.ntmps39
  go_wp2_with (fail)
  refine (mnow_any _ HP.out.bo HP.out.mem).mono ?_
  rintro _ w1 ⟨rfl, hb⟩
  have HB1 := Lib.hid hb
  have HP1 := Lib.hid ((krP HP hb).out.alloc (.cells #[.int .i64 (nowT ts s.i).k, .string (nowT ts s.i).s, .int .i64 (nowT ts s.i).n, .int .i64 (nowT ts s.i).l, .int .i64 (nowT ts s.i).c] 71))
  clear hb
  simp only [tkV]
  go_wp2_with (fail)
  refine (mok_any _ HP1.out).mono ?_
  rintro _ _ ⟨rfl, rfl⟩
  have HE : Hid (Below w.heap.size w (w1.alloc (.cells #[.int .i64 (nowT ts s.i).k, .string (nowT ts s.i).s, .int .i64 (nowT ts s.i).n, .int .i64 (nowT ts s.i).l, .int .i64 (nowT ts s.i).c] 71))) := Lib.hid (HB1.out.trans ((below_new w1 _).mono HB1.out.size))
  cases hok : s.ok with
  | false =>
    go_wp2_with (fail)
    refine bodyPost_ret (results_tmp rfl _ _ _) rfl ?_
    exact ⟨congrArg (fun b => Ending.returned (.bool b)) (by unfold isS; rw [hok]; rfl), HE.out⟩
  | true =>
    by_cases hk : (nowT ts s.i).k = k
    · subst hk
      have e1 : ((nowT ts s.i).k == (nowT ts s.i).k) = true := by simp
      go_wp2_with (fail)
      refine bodyPost_ret (results_tmp rfl _ _ _) rfl ?_
      refine ⟨congrArg (fun b => Ending.returned (.bool b)) ?_, HE.out⟩
      unfold isS isT
      rw [hok, decide_eq_true rfl, Bool.true_and, Bool.true_and, ← ba_eq, ← toList_beq]
    · have e1 : ((nowT ts s.i).k == k) = false := by simp [hk]
      go_wp2_with (fail)
      refine bodyPost_ret (results_tmp rfl _ _ _) rfl ?_
      refine ⟨congrArg (fun b => Ending.returned (.bool b)) ?_, HE.out⟩
      unfold isS isT
      rw [hok, decide_eq_false hk, Bool.false_and, Bool.true_and]
set_option maxRecDepth 100000 in
set_option maxHeartbeats 20000000 in
theorem mtake_any (k : Int) (x : ByteArray) (w : World) (hp : RS ts aL n cap q s d w) (hk1 : k ≠ -1) :
    Calls Try.prog 38 #[.pointer (some ⟨q, 0, none⟩), .int .i64 k, .string x] w fun e w' => e = .returned (.tuple #[]) ∧ FarQ q w w' ∧ RS ts aL n cap q (takeS ts s k x) d w' := by
  have HP := Lib.hid hp
  have hl := hp.len
  have hsm := hp.sm
  clear hp
  go_enter Try.func38, Try.ntmps38
  go_wp2_with (fail)
  refine (mis_any k x _ HP.out).mono ?_
  rintro _ w1 ⟨rfl, hb⟩
  have HB1 := Lib.hid hb
  have HP1 := krP HP hb
  clear hb
  cases hi : isS ts s k x with
  | false =>
    go_wp2_with (fail)
    refine (mfail_any _ HP1.out).mono ?_
    rintro _ w2 ⟨rfl, hf, hp⟩
    have HF2 := Lib.hid hf
    have HP2 := Lib.hid hp
    clear hf hp
    go_wp2_with (fail)
    refine bodyPost_ret (results_none rfl _ _ _) rfl ?_
    exact ⟨rfl, (FarQ.of HB1.out).trans HF2.out, by unfold takeS; rw [hi]; exact HP2.out⟩
  | true =>
    have hlt := isT_lt (isS_parts hi).2 hk1
    have hov : (s.i : Int) + 1 ≤ 9223372036854775807 := by omega
    have qc := kcR HP1
    go_wp2_with (fail)
    go_end0
    exact ⟨rfl, (FarQ.of HB1.out).trans (FarQ.set _ _ _), by unfold takeS; rw [hi]; exact HP1.out.setI (by show _ = ((s.i + 1 : Nat) : Int); omega)⟩
set_option maxRecDepth 100000 in
set_option maxHeartbeats 20000000 in
theorem mname_any (k : Int) (w : World) (hp : RS ts aL n cap q s d w) (hk1 : k ≠ -1) :
    Calls Try.prog 74 #[.pointer (some ⟨q, 0, none⟩), .int .i64 k] w fun e w' => e = .returned (.string (nameS ts s k).1) ∧ FarQ q w w' ∧ RS ts aL n cap q (nameS ts s k).2 d w' := by
  have HP := Lib.hid hp
  have hl := hp.len
  have hsm := hp.sm
  clear hp
  go_enter Try.func74, Try.ntmps74
  go_wp2_with (fail)
  refine (mnow_any _ HP.out.bo HP.out.mem).mono ?_
  rintro _ w1 ⟨rfl, hb⟩
  have HB1 := Lib.hid hb
  have HP1 := krP HP hb
  have HF : Hid (FarQ q w (w1.alloc (.cells #[.int .i64 (nowT ts s.i).k, .string (nowT ts s.i).s, .int .i64 (nowT ts s.i).n, .int .i64 (nowT ts s.i).l, .int .i64 (nowT ts s.i).c] 71))) := Lib.hid (FarQ.of (HB1.out.trans ((below_new w1 _).mono HB1.out.size)))
  have HP2 := Lib.hid (HP1.out.alloc (.cells #[.int .i64 (nowT ts s.i).k, .string (nowT ts s.i).s, .int .i64 (nowT ts s.i).n, .int .i64 (nowT ts s.i).l, .int .i64 (nowT ts s.i).c] 71))
  have hq1 := HP1.out.lt
  have hqn : q ≠ w1.heap.size := Nat.ne_of_lt hq1
  have hqn' : w1.heap.size ≠ q := fun e => hqn e.symm
  clear hb
  simp only [tkV]
  by_cases hk : (nowT ts s.i).k = k
  · subst hk
    have e1 : ((nowT ts s.i).k != (nowT ts s.i).k) = false := by simp
    have hlt : s.i < ts.length := now_lt hk1
    have hov : (s.i : Int) + 1 ≤ 9223372036854775807 := by omega
    have qc := kcR HP1
    go_wp2_with (fail)
    refine bodyPost_ret (results_tmp rfl _ _ _) rfl ?_
    unfold nameS
    rw [if_pos rfl]
    exact ⟨rfl, (FarQ.of HB1.out).trans ((FarQ.set _ _ _).trans (FarQ.of (below_new _ _))), (HP1.out.setI (k := s.i + 1) (v := (s.i : Int) + 1) (by omega)).alloc _⟩
  · have e1 : ((nowT ts s.i).k != k) = true := by simp [hk]
    go_wp2_with (fail)
    refine (mfail_any _ HP2.out).mono ?_
    rintro _ w2 ⟨rfl, hf, hp⟩
    have HF2 := Lib.hid hf
    have HP3 := Lib.hid hp
    clear hf hp
    go_wp2_with (fail)
    refine bodyPost_ret (results_tmp rfl _ _ _) rfl ?_
    unfold nameS
    rw [if_neg hk]
    exact ⟨rfl, HF.out.trans HF2.out, HP3.out⟩
set_option maxRecDepth 100000 in
set_option maxHeartbeats 20000000 in
theorem mstarts_any (w : World) (hp : RS ts aL n cap q s d w) :
    Calls Try.prog 99 #[.pointer (some ⟨q, 0, none⟩)] w fun e w' => e = .returned (.bool (startsS ts s)) ∧ Below w.heap.size w w' := by
  have HP := Lib.hid hp
  clear hp
  go_enter Try.func99, Try.ntmps99
  go_wp2_with (fail)
  refine (mnow_any _ HP.out.bo HP.out.mem).mono ?_
  rintro _ w1 ⟨rfl, hb⟩
  have HB1 := Lib.hid hb
  have HP1 := Lib.hid ((krP HP hb).out.alloc (.cells #[.int .i64 (nowT ts s.i).k, .string (nowT ts s.i).s, .int .i64 (nowT ts s.i).n, .int .i64 (nowT ts s.i).l, .int .i64 (nowT ts s.i).c] 71))
  clear hb
  simp only [tkV]
  go_wp2_with (fail)
  refine (mok_any _ HP1.out).mono ?_
  rintro _ _ ⟨rfl, rfl⟩
  have HE : Hid (Below w.heap.size w (w1.alloc (.cells #[.int .i64 (nowT ts s.i).k, .string (nowT ts s.i).s, .int .i64 (nowT ts s.i).n, .int .i64 (nowT ts s.i).l, .int .i64 (nowT ts s.i).c] 71))) := Lib.hid (HB1.out.trans ((below_new w1 _).mono HB1.out.size))
  cases hok : s.ok with
  | false =>
    go_wp2_with (fail)
    refine bodyPost_ret (results_tmp rfl _ _ _) rfl ?_
    exact ⟨congrArg (fun b => Ending.returned (.bool b)) (by unfold startsS; rw [hok]; rfl), HE.out⟩
  | true =>
    by_cases h2 : (nowT ts s.i).k = 2
    · have e1 : ((nowT ts s.i).k == 2) = true := by simp [h2]
      go_wp2_with (fail)
      refine bodyPost_ret (results_tmp rfl _ _ _) rfl ?_
      exact ⟨congrArg (fun b => Ending.returned (.bool b)) (by unfold startsS; simp [hok, h2]), HB1.out.trans ((below_new w1 _).mono HB1.out.size)⟩
    · have e1 : ((nowT ts s.i).k == 2) = false := by simp [h2]
      by_cases h3 : (nowT ts s.i).k = 3
      · have e2 : ((nowT ts s.i).k == 3) = true := by simp [h3]
        go_wp2_with (fail)
        refine bodyPost_ret (results_tmp rfl _ _ _) rfl ?_
        exact ⟨congrArg (fun b => Ending.returned (.bool b)) (by unfold startsS; simp [hok, h3]), HB1.out.trans ((below_new w1 _).mono HB1.out.size)⟩
      · have e2 : ((nowT ts s.i).k == 3) = false := by simp [h3]
        go_wp2_with (fail)
        refine (mis_any 6 wOpen _ HP1.out).mono ?_
        rintro _ w3 ⟨rfl, hb⟩
        have HB3 := Lib.hid (HE.out.trans (hb.mono HE.out.size))
        clear hb
        go_wp2_with (fail)
        refine bodyPost_ret (results_tmp rfl _ _ _) rfl ?_
        exact ⟨congrArg (fun b => Ending.returned (.bool b)) (by unfold startsS; simp [hok, h2, h3]), HB3.out⟩
end
end Go.Proofs.Ytcoiagfeoonpbaa

/-
  The document's reader, its small steps, as functions of where it is. No condition but how the tokens lie.
-/
namespace Go.Proofs.Ytcoiagfeoonpbaa
open Go.RowKit
section
variable {ts : List Tk} {aL : Option Addr} {n cap : Nat}
end
end Go.Proofs.Ytcoiagfeoonpbaa

/-
 The parser's pat: a Pat. Under what the other reading functions do with less fuel.
-/
namespace Go.Proofs.Ytcoiagfeoonpbaa
open Go.RowKit
theorem tk_kind (k n l c : Int) (s : ByteArray) (w : World) : Sem.run Try.prog (Instr.field 71 (.agg #[.int .i64 k, .string s, .int .i64 n, .int .i64 l, .int .i64 c]) 0) w = .ok (.int .i64 k) w := by kernel_rfl
attribute [local go_sem] tk_pos tk_kind
theorem Far.setS {g : Nat} {a w : World} (h : Far (fun b => b = g) a w) (j : Nat) (v : Value) : Far (fun b => b = g) a (w.setCell ⟨g, j, none⟩ v) := h.setCell (p := ⟨g, j, none⟩) rfl v
theorem Far.drewC {Z : Nat → Prop} {a w : World} (h : Far Z a w) : Far Z a w.drew := Far.trans h (Far.of (below_drew _))
section
variable {ts : List Tk} {aL : Option Addr} {n cap q : Nat}
set_option maxRecDepth 100000 in
set_option maxHeartbeats 20000000 in
theorem pat_succ {f i deep : Nat} {r : Rd1} (hr : readE ts (f + 1) .pat i deep = some r) (w : World) (hd : deep ≤ 40) (H : ∀ g, g < f + 1 → Reads ts aL n cap q 101 .pat g) (hp : PS ts aL n cap q i (deep : Int) w) :
  Calls Try.prog 101 #[.pointer (some ⟨q, 0, none⟩)] w (Ans ts aL n cap q r deep w) := by
 have HP := Lib.hid hp
 have hq0 := hp.lt
 have HF := Lib.hid (FarB.refl q w.heap.size w)
 clear hp
 rw [readE] at hr
 go_enter_defers Try.func101, Try.ntmps101
 refine Code.wp_mono (doorQ_mono _ r deep w) ?_
 go_wp2_with (fail)
 generalize ee : (w.alloc (.cells #[.int .i64 0, .string ⟨#[]⟩, .int .i64 0, .slice none 0 0, .int .i64 0, .int .i64 0] 27)) = w1 at *
 have hsa1 := sizeA ee
 replace HP := pA HP ee
 replace HF := fA HF ee
 have HBr := nB ee (w.heap.size)
 clear ee
 have qc := kcP HP
 have rc := kc6 HBr
 have hI := iq_0_0 q w w1
 have hZ := iq_01 q w
 clear qc rc
 refine (now_any _ HP.out.bo HP.out.mem).mono ?_
 rintro _ w2 ⟨rfl, hb⟩
 have hf := FarQ.of (q := q) hb
 replace HBr := qB HBr hf
 replace HF := qF HF hf
 have hs2 := hf.size
 replace HP := kP HP hb
 clear hf hb
 simp only [tkV]
 clear hI hZ
 have qc := kcP HP
 have rc := kc6 HBr
 have hI := iq_0_0 q w w2
 go_wp2_with (fail)
 clear qc rc
 generalize ee : (w2.alloc (.cells #[.int .i64 (nowT ts i).l, .int .i64 (nowT ts i).c] 25)) = w3 at *
 have hsa3 := sizeA ee
 replace HP := pA HP ee
 replace HF := fA HF ee
 replace HBr := bA HBr ee
 have HBp := nB ee (w2.heap.size)
 clear ee
 clear hI
 have qc := kcP HP
 have rc := kc6 HBr; have pc := kc2 HBp
 have hI := iq_0_0_0 q w w2 w3
 have hZ := iq_0_01 q w w2
 rcases hwi : isT ts i 6 wWild
 rotate_left
 ·
  simp only [hwi, if_true] at hr
  cases hr
  clear qc rc pc
  refine (is_any 6 wWild _ HP.out).mono ?_
  rintro _ w4 ⟨rfl, hb⟩
  have hf := FarQ.of (q := q) hb
  replace HBr := qB HBr hf
  replace HBp := qB HBp hf
  replace HF := qF HF hf
  have hs4 := hf.size
  replace HP := kP HP hb
  clear hf hb
  rw [hwi]
  have hil : i < ts.length := isT_lt hwi (by decide)
  have hoi : (i : Int) + 1 ≤ 9223372036854775807 := by have := HP.out.len; omega
  clear hI hZ
  have qc := kcP HP
  have rc := kc6 HBr; have pc := kc2 HBp
  have hI := iq_0_0_0 q w w2 w4
  go_wp2_with (fail)
  clear qc rc pc
  generalize ee : (w4.setCell ⟨q, 1, none⟩ (.int .i64 ((i : Int) + 1))) = w5_1 at *
  have hq1 := sizeS1 ee
  replace HP := Lib.hid (HP.out.setIE (k := (i + 1)) ee (by omega))
  replace HF := Lib.hid (HF.out.setQE ee)
  replace HBr := bF1 HBr ee
  replace HBp := bF1 HBp ee
  clear ee
  generalize ee : ((((((w5_1.setCell ⟨w.heap.size, 0, none⟩ (.int .i64 9)).setCell ⟨w.heap.size, 1, none⟩ (.string ⟨#[]⟩)).setCell ⟨w.heap.size, 2, none⟩ (.int .i64 0)).setCell ⟨w.heap.size, 3, none⟩ (.slice none 0 0)).setCell ⟨w.heap.size, 4, none⟩ (.int .i64 (nowT ts i).l)).setCell ⟨w.heap.size, 5, none⟩ (.int .i64 (nowT ts i).c)) = w5 at *
  have hq2 := sizeS6 ee
  replace HP := pO6 HP ee
  replace HF := fN6 HF ee
  replace HBr := bS6 HBr ee
  replace HBp := bF6 HBp ee
  clear ee
  have hsz5 : w5.heap.size = w4.heap.size := by omega
  clear hq1 hq2
  clear hI
  refine door_plain ?_
  have fc := kc6 HBr
  refine ⟨.agg #[.int .i64 9, .string ⟨#[]⟩, .int .i64 0, .slice none 0 0, .int .i64 (nowT ts i).l, .int .i64 (nowT ts i).c], (by clear HP HF HBr HBp; simp [results, Try.results101, go_sem, fc]), ?_⟩
  exact ⟨_, _, _, rfl, HF.out.out, HP.out, (memNone (x := .mk 9 .empty 0 [] (nowT ts i).l (nowT ts i).c) rfl)⟩
 simp only [hwi, Bool.false_eq_true, if_false] at hr
 clear qc rc pc
 refine (is_any 6 wWild _ HP.out).mono ?_
 rintro _ w4 ⟨rfl, hb⟩
 have hf := FarQ.of (q := q) hb
 replace HBr := qB HBr hf
 replace HBp := qB HBp hf
 replace HF := qF HF hf
 have hs4 := hf.size
 replace HP := kP HP hb
 clear hf hb
 rw [hwi]
 clear hI hZ
 have qc := kcP HP
 have rc := kc6 HBr; have pc := kc2 HBp
 have hI := iq_0_0_0 q w w2 w4
 go_wp2_with (fail)
 cases hpl : plainE (nowT ts i) with
 | some x =>
  simp only [hpl] at hr
  cases hr
  clear qc rc pc
  refine (plain_ok _ HP.out hpl).mono ?_
  rintro _ w5 ⟨rfl, hf, hp⟩
  replace HBr := qB HBr hf
  replace HBp := qB HBp hf
  replace HF := qF HF hf
  have hs5 := hf.size
  replace HP := Lib.hid hp
  clear hf hp
  simp only [exV]
  clear hI
  have qc := kcP HP
  have rc := kc6 HBr; have pc := kc2 HBp
  have hI := iq_0_0_0 q w w2 w5
  go_wp2_with (fail)
  clear qc rc pc
  generalize ee : ((((((w5.setCell ⟨w.heap.size, 0, none⟩ (.int .i64 x.kind)).setCell ⟨w.heap.size, 1, none⟩ (.string x.name)).setCell ⟨w.heap.size, 2, none⟩ (.int .i64 x.n)).setCell ⟨w.heap.size, 3, none⟩ (.slice none 0 0)).setCell ⟨w.heap.size, 4, none⟩ (.int .i64 x.line)).setCell ⟨w.heap.size, 5, none⟩ (.int .i64 x.col)) = w6_1 at *
  have hq1 := sizeS6 ee
  replace HP := pO6 HP ee
  replace HF := fN6 HF ee
  replace HBr := bS6 HBr ee
  replace HBp := bF6 HBp ee
  clear ee
  generalize ee : (w6_1.alloc (.cells #[.int .i64 x.kind, .string x.name, .int .i64 x.n, .slice none 0 0, .int .i64 x.line, .int .i64 x.col] 27)) = w6 at *
  have hq2 := sizeA ee
  replace HP := pA HP ee
  replace HF := fA HF ee
  replace HBr := bA HBr ee
  replace HBp := bA HBp ee
  have HBg := nB ee (w5.heap.size)
  clear ee
  have hsa6 : w6.heap.size = w5.heap.size + 1 := by omega
  clear hq1 hq2
  clear hI
  refine door_plain ?_
  have fc := kc6 HBr
  refine ⟨.agg #[.int .i64 x.kind, .string x.name, .int .i64 x.n, .slice none 0 0, .int .i64 x.line, .int .i64 x.col], (by clear HP HF HBr HBp HBg; simp [results, Try.results101, go_sem, fc]), ?_⟩
  exact ⟨_, _, _, rfl, HF.out.out, HP.out, memNone (plain_args hpl)⟩
 | none =>
  simp only [hpl] at hr
  clear qc rc pc
  refine (plain_bad _ HP.out hpl).mono ?_
  rintro _ w5 ⟨⟨s_, l_, c_, rfl⟩, hf, hp⟩
  replace HBr := qB HBr hf
  replace HBp := qB HBp hf
  replace HF := qF HF hf
  have hs5 := hf.size
  replace HP := Lib.hid hp
  clear hf hp
  clear hI
  have qc := kcP HP
  have rc := kc6 HBr; have pc := kc2 HBp
  have hI := iq_0_0_0 q w w2 w5
  go_wp2_with (fail)
  clear qc rc pc
  generalize ee : (w5.alloc (.cells #[.int .i64 0, .string s_, .int .i64 0, .slice none 0 0, .int .i64 l_, .int .i64 c_] 27)) = w6 at *
  have hsa6 := sizeA ee
  replace HP := pA HP ee
  replace HF := fA HF ee
  replace HBr := bA HBr ee
  replace HBp := bA HBp ee
  have HBg := nB ee (w5.heap.size)
  clear ee
  clear hI
  have qc := kcP HP
  have rc := kc6 HBr; have pc := kc2 HBp; have gc := kc6 HBg
  have hI := iq_0_0_0_0 q w w2 w5 w6
  have hZ := iq_0_0_01 q w w2 w5
  rcases hop : isT ts i 6 wOpen
  ·
   simp only [hop, Bool.false_eq_true, if_false] at hr
   cases hr
   clear qc rc pc gc
   refine (is_any 6 wOpen _ HP.out).mono ?_
   rintro _ w7 ⟨rfl, hb⟩
   have hf := FarQ.of (q := q) hb
   replace HBr := qB HBr hf
   replace HBp := qB HBp hf
   replace HBg := qB HBg hf
   replace HF := qF HF hf
   have hs7 := hf.size
   replace HP := kP HP hb
   clear hf hb
   rw [hop]
   clear hI hZ
   have qc := kcP HP
   have rc := kc6 HBr; have pc := kc2 HBp; have gc := kc6 HBg
   have hI := iq_0_0_0_0 q w w2 w5 w7
   go_wp2_with (fail)
   clear qc rc pc gc
   refine (fail_any _ HP.out.bo HP.out.mem).mono ?_
   rintro _ w8 ⟨rfl, hb⟩
   have hf := FarQ.of (q := q) hb
   have hbo := (HP.out.keep hb).any
   go_wp2_with (fail)
   exact ⟨_, _, rfl, rfl, .inl rfl, FarB.out (HF.out.farq hf), hbo⟩
  simp only [hop, if_true] at hr
  clear qc rc pc gc
  refine (is_any 6 wOpen _ HP.out).mono ?_
  rintro _ w7 ⟨rfl, hb⟩
  have hf := FarQ.of (q := q) hb
  replace HBr := qB HBr hf
  replace HBp := qB HBp hf
  replace HBg := qB HBg hf
  replace HF := qF HF hf
  have hs7 := hf.size
  replace HP := kP HP hb
  clear hf hb
  rw [hop]
  clear hI hZ
  have qc := kcP HP
  have rc := kc6 HBr; have pc := kc2 HBp; have gc := kc6 HBg
  have hI := iq_0_0_0_0 q w w2 w5 w7
  go_wp2_with (fail)
  by_cases h40 : deep = 40
  ·
   rw [if_pos h40] at hr
   cases hr
   subst h40
   clear qc rc pc gc
   refine (down_bad _ (by exact HP.out)).mono ?_
   rintro _ w8 ⟨rfl, hb⟩
   have hf := FarQ.of (q := q) hb
   have hbo := (HP.out.keep hb).any
   go_wp2_with (fail)
   exact ⟨_, _, rfl, rfl, .inl rfl, FarB.out (HF.out.farq hf), hbo⟩
  rw [if_neg h40] at hr
  have hil : i < ts.length := isT_lt hop (by decide)
  have hd1 : deep + 1 ≤ 40 := by omega
  clear qc rc pc gc
  refine (down_ok _ HP.out (by omega) (by omega) (by omega) hil).mono ?_
  rintro _ w8 ⟨rfl, hf, hp⟩
  replace HBr := qB HBr hf
  replace HBp := qB HBp hf
  replace HBg := qB HBg hf
  replace HF := qF HF hf
  have hs8 := hf.size
  replace HP := Lib.hid hp
  clear hf hp
  replace HP := Lib.hid (by have h := HP.out; rw [show ((deep : Int) + 1) = ((deep + 1 : Nat) : Int) by omega] at h; exact h)
  clear hI
  have qc := kcP HP
  have rc := kc6 HBr; have pc := kc2 HBp; have gc := kc6 HBg
  have hI := iq_0_0_0_0 q w w2 w5 w8
  go_wp2_with (fail)
  clear qc rc pc gc
  refine (now_any _ HP.out.bo HP.out.mem).mono ?_
  rintro _ w9 ⟨rfl, hb⟩
  have hf := FarQ.of (q := q) hb
  replace HBr := qB HBr hf
  replace HBp := qB HBp hf
  replace HBg := qB HBg hf
  replace HF := qF HF hf
  have hs9 := hf.size
  replace HP := kP HP hb
  clear hf hb
  simp only [tkV]
  by_cases hu : (nowT ts (i + 1)).k = 3
  rotate_left
  ·
   have eu : ((nowT ts (i + 1)).k == 3) = false := by simp [hu]
   rw [if_neg hu] at hr
   clear hu
   clear hI
   have qc := kcP HP
   have rc := kc6 HBr; have pc := kc2 HBp; have gc := kc6 HBg
   have hI := iq_0_0_0_0 q w w2 w5 w9
   go_wp2_with (fail)
   rcases hx : readE ts f .pat (i + 1) (deep + 1) with _ | ⟨x, j⟩ | ⟨l_, c_⟩
   · (rw [hx] at hr; cases hr)
   rotate_left
   ·
    rw [hx] at hr
    first | simp only at hr | simp only [andT] at hr
    cases hr
    clear qc rc pc gc
    refine ((H f (Nat.lt_succ_self f)) (i + 1) (deep + 1) _ _ hd1 hx HP.out).mono ?_
    rintro _ w10 ⟨rfl, hf, hbo⟩
    go_wp2_with (fail)
    exact ⟨_, _, rfl, rfl, .inr rfl, FarB.out (HF.out.farq hf), hbo⟩
   rw [hx] at hr
   first | simp only at hr | simp only [andT] at hr
   clear qc rc pc gc
   refine ((H f (Nat.lt_succ_self f)) (i + 1) (deep + 1) _ _ hd1 hx HP.out).mono ?_
   rintro _ w10 ⟨ax, mx, cx, rfl, hf, hp, hm⟩
   replace HBr := qB HBr hf
   replace HBp := qB HBp hf
   replace HBg := qB HBg hf
   replace HF := qF HF hf
   have hs10 := hf.size
   replace HP := Lib.hid hp
   have HMx := Lib.hid hm
   clear hf hp hm
   simp only [exV]
   have hfw : i + 1 < j ∧ j ≤ ts.length := readE_fwd f .pat (i + 1) (deep + 1) x j hx
   clear hI
   have qc := kcP HP
   have rc := kc6 HBr; have pc := kc2 HBp; have gc := kc6 HBg
   have hI := iq_0_0_0_0 q w w2 w5 w10
   go_wp2_with (fail)
   clear qc rc pc gc
   generalize ee : (w10.alloc (.cells #[.int .i64 x.kind, .string x.name, .int .i64 x.n, .slice ax mx cx, .int .i64 x.line, .int .i64 x.col] 27)) = w11 at *
   have hsa11 := sizeA ee
   have HNEW := Lib.hid (builtE1E (base := w9.heap.size) (memNw HMx.out (by omega)) ee (b := w10.heap.size) (by omega) (by omega))
   replace HP := pA HP ee
   replace HF := fA HF ee
   replace HBr := bA HBr ee
   replace HBp := bA HBp ee
   replace HBg := bA HBg ee
   replace HMx := mA HMx ee
   have HOl := HNEW
   clear HNEW
   clear ee
   clear hI
   clear HMx
   go_loopw [7] (fun v wr => ∃ (l : List Ex) (jj : Nat), (takeT ts jj 6 wClose (some (.ok (appE l) (jj + 1))) = some r) ∧ Hid (PS ts aL n cap q jj ((deep + 1 : Nat) : Int) wr) ∧ Hid (FarB q w.heap.size w wr) ∧ Hid (Bo wr w.heap.size 27 #[.int .i64 0, .string ⟨#[]⟩, .int .i64 0, .slice none 0 0, .int .i64 0, .int .i64 0]) ∧ Hid (OwnD 0 w9.heap.size 27 6 wr v (Ex.rows l)) ∧ l ≠ [] ∧ l.length ≤ jj ∧ jj ≤ ts.length ∧ w9.heap.size ≤ wr.heap.size) (fun v _ => ts.length + 1 - lenV v)
   case atStart => exact ⟨[x], j, hr, HP, HF, HBr, HOl, (by simp), (by simp only [List.length_cons, List.length_nil]; omega), hfw.2, by omega⟩
   case round =>
    clear HP HF HBr HOl hr
    obtain ⟨l, jj, hr, HP, HF, HBr, HOl, hl0, hl1, hl2, hws⟩ := hrel
    clear HBp HBg
    obtain ⟨a1, m1, c1, rfl, hm1, hm2, hm3⟩ := HOl.out.form2
    have hsm : m1 ≤ 1048576 := by have h1 := HP.out.len.1; have h2 := HP.out.sm; omega
    have HM1 := Lib.hid hm1
    clear hm1 hm3
    have qc := kcP HP
    have rc := kc6 HBr
    have hI := iq_0_0 q w wr
    go_wp2_with (fail)
    clear qc rc
    clear hI
    have qc := kcP HP
    have rc := kc6 HBr
    have hI := iq_0_0 q w wr
    go_wp2_with (fail)
    rcases hcl : isT ts jj 6 wClose
    ·
     first | simp only [hcl, Bool.false_eq_true, if_false] at hr | simp only [takeT, hcl, Bool.false_eq_true, if_false] at hr
     cases hr
     clear qc rc
     refine (take_bad 6 wClose _ HP.out hcl).mono ?_
     rintro _ w12 ⟨rfl, hb⟩
     have hf := FarQ.of (q := q) hb
     have hbo := (HP.out.keep hb).any
     go_wp2_with (fail)
     exact ⟨_, _, rfl, rfl, .inr rfl, FarB.out (HF.out.farq hf), hbo⟩
    first | simp only [hcl, if_true] at hr | simp only [takeT, hcl, if_true] at hr
    cases hr
    clear qc rc
    refine (take_ok 6 wClose _ HP.out hcl (by decide)).mono ?_
    rintro _ w12 ⟨rfl, hf, hp⟩
    replace HBr := qB HBr hf
    replace HOl := qO HOl hf
    replace HF := qF HF hf
    have hs12 := hf.size
    replace HP := Lib.hid hp
    clear hf hp
    have HML : Hid (Mem (Nw 0 w9.heap.size w12.heap.size) w12 (.s 6 (Ex.rows l)) (.slice a1 m1 c1)) := Lib.hid HOl.out.mem
    obtain ⟨b2, o2, z, a2, m2, c2, rfl, hz, z0, z1, z2, z3, z4, z5, HMz⟩ := ex_at HML.out 0 (List.length_pos_iff.2 hl0)
    rw [Nat.zero_mul, Nat.add_zero] at z0 z1 z2 z3 z4 z5
    have hbb : w9.heap.size ≤ b2 := (HOl.out.lt b2 rfl).1
    by_cases h1 : l.length = 1
    ·
     obtain rfl : m1 = 1 := by have := HM1.out; omega
     have hm9 : ((1 : Int) == 1) = true := rfl
     have HZ : Hid (appE l = z) := Lib.hid (by match l, h1, hz.out with | [e], _, h => simpa [appE] using h)
     clear hI
     have qc := kcP HP
     have rc := kc6 HBr
     have hI := iq_0_0 q w w12
     go_wp2_with (fail)
     clear HML
     clear qc rc
     generalize ee : ((((((w12.setCell ⟨w.heap.size, 0, none⟩ (.int .i64 z.kind)).setCell ⟨w.heap.size, 1, none⟩ (.string z.name)).setCell ⟨w.heap.size, 2, none⟩ (.int .i64 z.n)).setCell ⟨w.heap.size, 3, none⟩ (.slice a2 m2 c2)).setCell ⟨w.heap.size, 4, none⟩ (.int .i64 z.line)).setCell ⟨w.heap.size, 5, none⟩ (.int .i64 z.col)) = w13 at *
     have hsz13 := sizeS6 ee
     replace HP := pO6 HP ee
     replace HF := fN6 HF ee
     replace HBr := bS6 HBr ee
     replace HMz := mS6 HMz ee
     replace HOl := oS6 HOl ee
     clear ee
     clear hI
     rw [HZ.out]
     refine door_up HP.out.bo ?_
     generalize ee : (w13.setCell ⟨q, 2, none⟩ (.int .i64 (wrap64 (((deep + 1 : Nat) : Int) - 1)))) = w14 at *
     have hsz14 := sizeS1 ee
     replace HP := Lib.hid (HP.out.setDE (k := ((deep : Int))) ee (wrap_up hd))
     replace HF := Lib.hid (HF.out.setQE ee)
     replace HBr := bF1 HBr ee
     replace HMz := mS1 HMz ee
     replace HOl := oS1 HOl ee
     clear ee
     have fc := kc6 HBr
     refine ⟨.agg #[.int .i64 z.kind, .string z.name, .int .i64 z.n, .slice a2 m2 c2, .int .i64 z.line, .int .i64 z.col], (by clear HP HF HBr HMz HOl; simp [results, Try.results101, go_sem, fc]), ?_⟩
     exact ⟨_, _, _, rfl, HF.out.out, HP.out, memNw HMz.out (by omega)⟩
    have hm9 : ((m1 : Int) == 1) = false := by have := HM1.out; have h0 := List.length_pos_iff.2 hl0; simp; omega
    have hm8 : 1 < m1 := by have := HM1.out; have h0 := List.length_pos_iff.2 hl0; omega
    have hm7 : 0 < m1 := by omega
    clear hI
    have qc := kcP HP
    have rc := kc6 HBr
    have hI := iq_0_0 q w w12
    go_wp2_with (fail)
    clear HML HMz
    have HZ : Hid (appE l = .mk 4 .empty 0 l z.line z.col) := Lib.hid (by match l, h1, hl0, hz.out with | e :: e2 :: es, _, _, h => (have h2 : e = z := by simpa using h); rw [← h2]; rfl)
    refine wp_region_held_drew (S := fun w' => Far (fun b => b = w.heap.size) (w12) w') (by kernel_rfl) (Far.of (below_drew _)) (fun hS30 => ?_)
    refine takeA 0 (v := ?_) rfl ?_ ?_
    rotate_left
    · (intro w hSw; (try dsimp only at hSw); replace z0 := Far.cellZ z0 hSw (by intro e; have e : b2 = _ := e; omega); replace z1 := Far.cellZ z1 hSw (by intro e; have e : b2 = _ := e; omega); replace z2 := Far.cellZ z2 hSw (by intro e; have e : b2 = _ := e; omega); replace z3 := Far.cellZ z3 hSw (by intro e; have e : b2 = _ := e; omega); replace z4 := Far.cellZ z4 hSw (by intro e; have e : b2 = _ := e; omega); replace z5 := Far.cellZ z5 hSw (by intro e; have e : b2 = _ := e; omega); go_simp; try with_reducible rfl)
    try simp only [Act.put, pu1, pu2, pu3]
    refine takeA 1 (v := ?_) rfl ?_ ?_
    rotate_left
    · (intro w hSw; (try dsimp only at hSw); replace z0 := Far.cellZ z0 hSw (by intro e; have e : b2 = _ := e; omega); replace z1 := Far.cellZ z1 hSw (by intro e; have e : b2 = _ := e; omega); replace z2 := Far.cellZ z2 hSw (by intro e; have e : b2 = _ := e; omega); replace z3 := Far.cellZ z3 hSw (by intro e; have e : b2 = _ := e; omega); replace z4 := Far.cellZ z4 hSw (by intro e; have e : b2 = _ := e; omega); replace z5 := Far.cellZ z5 hSw (by intro e; have e : b2 = _ := e; omega); go_simp; try with_reducible rfl)
    try simp only [Act.put, pu1, pu2, pu3]
    refine takeA 2 (v := ?_) rfl ?_ ?_
    rotate_left
    · (intro w hSw; (try dsimp only at hSw); replace z0 := Far.cellZ z0 hSw (by intro e; have e : b2 = _ := e; omega); replace z1 := Far.cellZ z1 hSw (by intro e; have e : b2 = _ := e; omega); replace z2 := Far.cellZ z2 hSw (by intro e; have e : b2 = _ := e; omega); replace z3 := Far.cellZ z3 hSw (by intro e; have e : b2 = _ := e; omega); replace z4 := Far.cellZ z4 hSw (by intro e; have e : b2 = _ := e; omega); replace z5 := Far.cellZ z5 hSw (by intro e; have e : b2 = _ := e; omega); go_simp; try with_reducible rfl)
    try simp only [Act.put, pu1, pu2, pu3]
    refine takeA 3 (v := ?_) rfl ?_ ?_
    rotate_left
    · (intro w hSw; (try dsimp only at hSw); replace z0 := Far.cellZ z0 hSw (by intro e; have e : b2 = _ := e; omega); replace z1 := Far.cellZ z1 hSw (by intro e; have e : b2 = _ := e; omega); replace z2 := Far.cellZ z2 hSw (by intro e; have e : b2 = _ := e; omega); replace z3 := Far.cellZ z3 hSw (by intro e; have e : b2 = _ := e; omega); replace z4 := Far.cellZ z4 hSw (by intro e; have e : b2 = _ := e; omega); replace z5 := Far.cellZ z5 hSw (by intro e; have e : b2 = _ := e; omega); go_simp; try with_reducible rfl)
    try simp only [Act.put, pu1, pu2, pu3]
    refine takeA 4 (v := ?_) rfl ?_ ?_
    rotate_left
    · (intro w hSw; (try dsimp only at hSw); replace z0 := Far.cellZ z0 hSw (by intro e; have e : b2 = _ := e; omega); replace z1 := Far.cellZ z1 hSw (by intro e; have e : b2 = _ := e; omega); replace z2 := Far.cellZ z2 hSw (by intro e; have e : b2 = _ := e; omega); replace z3 := Far.cellZ z3 hSw (by intro e; have e : b2 = _ := e; omega); replace z4 := Far.cellZ z4 hSw (by intro e; have e : b2 = _ := e; omega); replace z5 := Far.cellZ z5 hSw (by intro e; have e : b2 = _ := e; omega); go_simp; try with_reducible rfl)
    try simp only [Act.put, pu1, pu2, pu3]
    refine callA 5 rfl fun K hK => ?_
    go_simp
    refine hK.out _ _ ?_ (fun hS31 => ?_)
    · exact (by refine Far.drewC ?_; (iterate 6 (with_reducible refine Far.setS ?_ _ _)); exact Far.refl _ _)
    clear hK K

    clear qc rc
    generalize ee : ((((((w12.setCell ⟨w.heap.size, 0, none⟩ (.int .i64 0)).setCell ⟨w.heap.size, 1, none⟩ (.string ⟨#[]⟩)).setCell ⟨w.heap.size, 2, none⟩ (.int .i64 0)).setCell ⟨w.heap.size, 3, none⟩ (.slice none 0 0)).setCell ⟨w.heap.size, 4, none⟩ (.int .i64 0)).setCell ⟨w.heap.size, 5, none⟩ (.int .i64 0)) = w13_1 at *
    have hq1 := sizeS6 ee
    replace HP := pO6 HP ee
    replace HF := fN6 HF ee
    replace HBr := bS6 HBr ee
    replace HOl := oS6 HOl ee
    clear ee
    generalize ee : (w13_1.drew) = w13 at *
    have hq2 := sizeD ee
    replace HP := pD HP ee
    replace HF := fD HF ee
    replace HBr := bD HBr ee
    replace HOl := oD HOl ee
    clear ee
    have hsa13 : w13.heap.size = w12.heap.size + 0 := by omega
    clear hq1 hq2
    clear hI
    have qc := kcP HP
    have rc := kc6 HBr
    have hI := iq_0_0 q w w13
    have hZ := iq_0_0 q w w12
    refine takeA 6 (v := ?_) rfl ?_ ?_
    rotate_left
    · (intro w hSw; (try dsimp only at hSw); go_simp; try with_reducible rfl)
    try simp only [Act.put, pu1, pu2, pu3]
    refine callA 7 rfl fun K hK => ?_
    go_simp
    refine hK.out _ _ ?_ (fun hS32 => ?_)
    · exact Far.setS hS31 _ _
    clear hK K

    clear qc rc
    generalize ee : (w13.setCell ⟨w.heap.size, 0, none⟩ (.int .i64 4)) = w14 at *
    have hsz14 := sizeS1 ee
    replace HP := pO1 HP ee
    replace HF := fN1 HF ee
    replace HBr : Hid (Bo w14 w.heap.size 27 #[.int .i64 4, .string ⟨#[]⟩, .int .i64 0, .slice none 0 0, .int .i64 0, .int .i64 0]) := Lib.hid (by rw [← ee]; exact HBr.out.set 0 (.int .i64 4))
    replace HOl := oS1 HOl ee
    clear ee
    clear hI hZ
    have qc := kcP HP
    have rc := kc6 HBr
    have hI := iq_0_0 q w w14
    have hZ := iq_0_0 q w w12
    refine takeA 8 (v := ?_) rfl ?_ ?_
    rotate_left
    · (intro w hSw; (try dsimp only at hSw); go_simp; try with_reducible rfl)
    try simp only [Act.put, pu1, pu2, pu3]
    refine callA 9 rfl fun K hK => ?_
    go_simp
    refine hK.out _ _ ?_ (fun hS33 => ?_)
    · exact Far.setS hS32 _ _
    clear hK K

    clear qc rc
    generalize ee : (w14.setCell ⟨w.heap.size, 3, none⟩ (.slice (some ⟨b2, o2, none⟩) m1 c1)) = w15 at *
    have hsz15 := sizeS1 ee
    replace HP := pO1 HP ee
    replace HF := fN1 HF ee
    replace HBr : Hid (Bo w15 w.heap.size 27 #[.int .i64 4, .string ⟨#[]⟩, .int .i64 0, .slice (some ⟨b2, o2, none⟩) m1 c1, .int .i64 0, .int .i64 0]) := Lib.hid (by rw [← ee]; exact HBr.out.set 3 (.slice (some ⟨b2, o2, none⟩) m1 c1))
    replace HOl := oS1 HOl ee
    clear ee
    clear hI hZ
    have qc := kcP HP
    have rc := kc6 HBr
    have hI := iq_0_0 q w w15
    have hZ := iq_0_0 q w w12
    refine takeA 10 (v := ?_) rfl ?_ ?_
    rotate_left
    · (intro w hSw; (try dsimp only at hSw); go_simp; try with_reducible rfl)
    try simp only [Act.put, pu1, pu2, pu3]
    refine callA 11 rfl fun K hK => ?_
    go_simp
    refine hK.out _ _ ?_ (fun hS34 => ?_)
    · exact Far.setS (Far.setS hS33 _ _) _ _
    clear hK K
    refine wpAnyH_done (by kernel_rfl) ?_ _

    clear qc rc
    generalize ee : (w15.setCell ⟨w.heap.size, 4, none⟩ (.int .i64 z.line)) = w16_1 at *
    have hq1 := sizeS1 ee
    replace HP := pO1 HP ee
    replace HF := fN1 HF ee
    replace HBr : Hid (Bo w16_1 w.heap.size 27 #[.int .i64 4, .string ⟨#[]⟩, .int .i64 0, .slice (some ⟨b2, o2, none⟩) m1 c1, .int .i64 z.line, .int .i64 0]) := Lib.hid (by rw [← ee]; exact HBr.out.set 4 (.int .i64 z.line))
    replace HOl := oS1 HOl ee
    clear ee
    generalize ee : (w16_1.setCell ⟨w.heap.size, 5, none⟩ (.int .i64 z.col)) = w16 at *
    have hq2 := sizeS1 ee
    replace HP := pO1 HP ee
    replace HF := fN1 HF ee
    replace HBr : Hid (Bo w16 w.heap.size 27 #[.int .i64 4, .string ⟨#[]⟩, .int .i64 0, .slice (some ⟨b2, o2, none⟩) m1 c1, .int .i64 z.line, .int .i64 z.col]) := Lib.hid (by rw [← ee]; exact HBr.out.set 5 (.int .i64 z.col))
    replace HOl := oS1 HOl ee
    clear ee
    have hsz16 : w16.heap.size = w15.heap.size := by omega
    clear hq1 hq2
    clear hI hZ
    go_wp2_with (fail)
    rw [HZ.out]
    refine door_up HP.out.bo ?_
    generalize ee : (w16.setCell ⟨q, 2, none⟩ (.int .i64 (wrap64 (((deep + 1 : Nat) : Int) - 1)))) = w17 at *
    have hsz17 := sizeS1 ee
    replace HP := Lib.hid (HP.out.setDE (k := ((deep : Int))) ee (wrap_up hd))
    replace HF := Lib.hid (HF.out.setQE ee)
    replace HBr := bF1 HBr ee
    replace HOl := oS1 HOl ee
    clear ee
    have fc := kc6 HBr
    refine ⟨.agg #[.int .i64 4, .string ⟨#[]⟩, .int .i64 0, .slice (some ⟨b2, o2, none⟩) m1 c1, .int .i64 z.line, .int .i64 z.col], (by clear HP HF HBr HOl; simp [results, Try.results101, go_sem, fc]), ?_⟩
    exact ⟨_, _, _, rfl, HF.out.out, HP.out, memNw HOl.out.mem (by omega)⟩
  have eu : ((nowT ts (i + 1)).k == 3) = true := by simp [hu]
  rw [if_pos hu] at hr
  clear hu
  clear hI
  have qc := kcP HP
  have rc := kc6 HBr; have pc := kc2 HBp; have gc := kc6 HBg
  have hI := iq_0_0_0_0 q w w2 w5 w9
  go_wp2_with (fail)
  rcases hx : readE ts f .pat (i + 1) (deep + 1) with _ | ⟨x, j⟩ | ⟨l_, c_⟩
  · (rw [hx] at hr; cases hr)
  rotate_left
  ·
   rw [hx] at hr
   first | simp only at hr | simp only [andT] at hr
   cases hr
   clear qc rc pc gc
   refine ((H f (Nat.lt_succ_self f)) (i + 1) (deep + 1) _ _ hd1 hx HP.out).mono ?_
   rintro _ w10 ⟨rfl, hf, hbo⟩
   go_wp2_with (fail)
   exact ⟨_, _, rfl, rfl, .inr rfl, FarB.out (HF.out.farq hf), hbo⟩
  rw [hx] at hr
  first | simp only at hr | simp only [andT] at hr
  clear qc rc pc gc
  refine ((H f (Nat.lt_succ_self f)) (i + 1) (deep + 1) _ _ hd1 hx HP.out).mono ?_
  rintro _ w10 ⟨ax, mx, cx, rfl, hf, hp, hm⟩
  replace HBr := qB HBr hf
  replace HBp := qB HBp hf
  replace HBg := qB HBg hf
  replace HF := qF HF hf
  have hs10 := hf.size
  replace HP := Lib.hid hp
  have HMx := Lib.hid hm
  clear hf hp hm
  simp only [exV]
  have hfw : i + 1 < j ∧ j ≤ ts.length := readE_fwd f .pat (i + 1) (deep + 1) x j hx
  clear hI
  have qc := kcP HP
  have rc := kc6 HBr; have pc := kc2 HBp; have gc := kc6 HBg
  have hI := iq_0_0_0_0 q w w2 w5 w10
  go_wp2_with (fail)
  clear qc rc pc gc
  generalize ee : (w10.alloc (.cells #[.int .i64 x.kind, .string x.name, .int .i64 x.n, .slice ax mx cx, .int .i64 x.line, .int .i64 x.col] 27)) = w11 at *
  have hsa11 := sizeA ee
  have HNEW := Lib.hid (builtE1E (base := w9.heap.size) (memNw HMx.out (by omega)) ee (b := w10.heap.size) (by omega) (by omega))
  replace HP := pA HP ee
  replace HF := fA HF ee
  replace HBr := bA HBr ee
  replace HBp := bA HBp ee
  replace HBg := bA HBg ee
  replace HMx := mA HMx ee
  have HOl := HNEW
  clear HNEW
  clear ee
  clear hI
  clear HMx
  go_loopw [7] (fun v wr => ∃ (l : List Ex) (jj : Nat), (∃ g, g ≤ f ∧ readE ts g (.pats l) jj (deep + 1) = some r) ∧ Hid (PS ts aL n cap q jj ((deep + 1 : Nat) : Int) wr) ∧ Hid (FarB q w.heap.size w wr) ∧ Hid (Bo wr w.heap.size 27 #[.int .i64 0, .string ⟨#[]⟩, .int .i64 0, .slice none 0 0, .int .i64 0, .int .i64 0]) ∧ Hid (OwnD 0 w9.heap.size 27 6 wr v (Ex.rows l)) ∧ l ≠ [] ∧ l.length ≤ jj ∧ jj ≤ ts.length ∧ w9.heap.size ≤ wr.heap.size) (fun v _ => ts.length + 1 - lenV v)
  case atStart => exact ⟨[x], j, ⟨f, Nat.le_refl _, hr⟩, HP, HF, HBr, HOl, (by simp), (by simp only [List.length_cons, List.length_nil]; omega), hfw.2, by omega⟩
  case round =>
   clear HP HF HBr HOl hr
   obtain ⟨l, jj, hr, HP, HF, HBr, HOl, hl0, hl1, hl2, hws⟩ := hrel
   clear HBp HBg
   obtain ⟨a1, m1, c1, rfl, hm1, hm2, hm3⟩ := HOl.out.form2
   have hsm : m1 ≤ 1048576 := by have h1 := HP.out.len.1; have h2 := HP.out.sm; omega
   have HM1 := Lib.hid hm1
   clear hm1 hm3
   have qc := kcP HP
   have rc := kc6 HBr
   have hI := iq_0_0 q w wr
   go_wp2_with (fail)
   obtain ⟨g, hg, hr⟩ := hr
   cases g with
   | zero => rw [readE] at hr; cases hr
   | succ g =>
    rw [readE] at hr
    cases hce : isT ts jj 6 wClose with
    | true =>
     simp only [hce, if_true] at hr
     clear qc rc
     refine (is_any 6 wClose _ HP.out).mono ?_
     rintro _ w12 ⟨rfl, hb⟩
     have hf := FarQ.of (q := q) hb
     replace HBr := qB HBr hf
     replace HOl := qO HOl hf
     replace HF := qF HF hf
     have hs12 := hf.size
     replace HP := kP HP hb
     clear hf hb
     rw [hce]
     have hr : takeT ts jj 6 wClose (some (.ok (appE l) (jj + 1))) = some r := by simp only [takeT, hce, if_true]; exact hr
     clear hI
     have qc := kcP HP
     have rc := kc6 HBr
     have hI := iq_0_0 q w w12
     go_wp2_with (fail)
     rcases hcl : isT ts jj 6 wClose
     ·
      first | simp only [hcl, Bool.false_eq_true, if_false] at hr | simp only [takeT, hcl, Bool.false_eq_true, if_false] at hr
      cases hr
      clear qc rc
      refine (take_bad 6 wClose _ HP.out hcl).mono ?_
      rintro _ w13 ⟨rfl, hb⟩
      have hf := FarQ.of (q := q) hb
      have hbo := (HP.out.keep hb).any
      go_wp2_with (fail)
      exact ⟨_, _, rfl, rfl, .inr rfl, FarB.out (HF.out.farq hf), hbo⟩
     first | simp only [hcl, if_true] at hr | simp only [takeT, hcl, if_true] at hr
     cases hr
     clear qc rc
     refine (take_ok 6 wClose _ HP.out hcl (by decide)).mono ?_
     rintro _ w13 ⟨rfl, hf, hp⟩
     replace HBr := qB HBr hf
     replace HOl := qO HOl hf
     replace HF := qF HF hf
     have hs13 := hf.size
     replace HP := Lib.hid hp
     clear hf hp
     have HML : Hid (Mem (Nw 0 w9.heap.size w13.heap.size) w13 (.s 6 (Ex.rows l)) (.slice a1 m1 c1)) := Lib.hid HOl.out.mem
     obtain ⟨b2, o2, z, a2, m2, c2, rfl, hz, z0, z1, z2, z3, z4, z5, HMz⟩ := ex_at HML.out 0 (List.length_pos_iff.2 hl0)
     rw [Nat.zero_mul, Nat.add_zero] at z0 z1 z2 z3 z4 z5
     have hbb : w9.heap.size ≤ b2 := (HOl.out.lt b2 rfl).1
     by_cases h1 : l.length = 1
     ·
      obtain rfl : m1 = 1 := by have := HM1.out; omega
      have hm9 : ((1 : Int) == 1) = true := rfl
      have HZ : Hid (appE l = z) := Lib.hid (by match l, h1, hz.out with | [e], _, h => simpa [appE] using h)
      clear hI
      have qc := kcP HP
      have rc := kc6 HBr
      have hI := iq_0_0 q w w13
      go_wp2_with (fail)
      clear HML
      clear qc rc
      generalize ee : ((((((w13.setCell ⟨w.heap.size, 0, none⟩ (.int .i64 z.kind)).setCell ⟨w.heap.size, 1, none⟩ (.string z.name)).setCell ⟨w.heap.size, 2, none⟩ (.int .i64 z.n)).setCell ⟨w.heap.size, 3, none⟩ (.slice a2 m2 c2)).setCell ⟨w.heap.size, 4, none⟩ (.int .i64 z.line)).setCell ⟨w.heap.size, 5, none⟩ (.int .i64 z.col)) = w14 at *
      have hsz14 := sizeS6 ee
      replace HP := pO6 HP ee
      replace HF := fN6 HF ee
      replace HBr := bS6 HBr ee
      replace HMz := mS6 HMz ee
      replace HOl := oS6 HOl ee
      clear ee
      clear hI
      rw [HZ.out]
      refine door_up HP.out.bo ?_
      generalize ee : (w14.setCell ⟨q, 2, none⟩ (.int .i64 (wrap64 (((deep + 1 : Nat) : Int) - 1)))) = w15 at *
      have hsz15 := sizeS1 ee
      replace HP := Lib.hid (HP.out.setDE (k := ((deep : Int))) ee (wrap_up hd))
      replace HF := Lib.hid (HF.out.setQE ee)
      replace HBr := bF1 HBr ee
      replace HMz := mS1 HMz ee
      replace HOl := oS1 HOl ee
      clear ee
      have fc := kc6 HBr
      refine ⟨.agg #[.int .i64 z.kind, .string z.name, .int .i64 z.n, .slice a2 m2 c2, .int .i64 z.line, .int .i64 z.col], (by clear HP HF HBr HMz HOl; simp [results, Try.results101, go_sem, fc]), ?_⟩
      exact ⟨_, _, _, rfl, HF.out.out, HP.out, memNw HMz.out (by omega)⟩
     have hm9 : ((m1 : Int) == 1) = false := by have := HM1.out; have h0 := List.length_pos_iff.2 hl0; simp; omega
     have hm8 : 1 < m1 := by have := HM1.out; have h0 := List.length_pos_iff.2 hl0; omega
     have hm7 : 0 < m1 := by omega
     clear hI
     have qc := kcP HP
     have rc := kc6 HBr
     have hI := iq_0_0 q w w13
     go_wp2_with (fail)
     clear HML HMz
     have HZ : Hid (appE l = .mk 4 .empty 0 l z.line z.col) := Lib.hid (by match l, h1, hl0, hz.out with | e :: e2 :: es, _, _, h => (have h2 : e = z := by simpa using h); rw [← h2]; rfl)
     refine wp_region_held_drew (S := fun w' => Far (fun b => b = w.heap.size) (w13) w') (by kernel_rfl) (Far.of (below_drew _)) (fun hS30 => ?_)
     refine takeA 0 (v := ?_) rfl ?_ ?_
     rotate_left
     · (intro w hSw; (try dsimp only at hSw); replace z0 := Far.cellZ z0 hSw (by intro e; have e : b2 = _ := e; omega); replace z1 := Far.cellZ z1 hSw (by intro e; have e : b2 = _ := e; omega); replace z2 := Far.cellZ z2 hSw (by intro e; have e : b2 = _ := e; omega); replace z3 := Far.cellZ z3 hSw (by intro e; have e : b2 = _ := e; omega); replace z4 := Far.cellZ z4 hSw (by intro e; have e : b2 = _ := e; omega); replace z5 := Far.cellZ z5 hSw (by intro e; have e : b2 = _ := e; omega); go_simp; try with_reducible rfl)
     try simp only [Act.put, pu1, pu2, pu3]
     refine takeA 1 (v := ?_) rfl ?_ ?_
     rotate_left
     · (intro w hSw; (try dsimp only at hSw); replace z0 := Far.cellZ z0 hSw (by intro e; have e : b2 = _ := e; omega); replace z1 := Far.cellZ z1 hSw (by intro e; have e : b2 = _ := e; omega); replace z2 := Far.cellZ z2 hSw (by intro e; have e : b2 = _ := e; omega); replace z3 := Far.cellZ z3 hSw (by intro e; have e : b2 = _ := e; omega); replace z4 := Far.cellZ z4 hSw (by intro e; have e : b2 = _ := e; omega); replace z5 := Far.cellZ z5 hSw (by intro e; have e : b2 = _ := e; omega); go_simp; try with_reducible rfl)
     try simp only [Act.put, pu1, pu2, pu3]
     refine takeA 2 (v := ?_) rfl ?_ ?_
     rotate_left
     · (intro w hSw; (try dsimp only at hSw); replace z0 := Far.cellZ z0 hSw (by intro e; have e : b2 = _ := e; omega); replace z1 := Far.cellZ z1 hSw (by intro e; have e : b2 = _ := e; omega); replace z2 := Far.cellZ z2 hSw (by intro e; have e : b2 = _ := e; omega); replace z3 := Far.cellZ z3 hSw (by intro e; have e : b2 = _ := e; omega); replace z4 := Far.cellZ z4 hSw (by intro e; have e : b2 = _ := e; omega); replace z5 := Far.cellZ z5 hSw (by intro e; have e : b2 = _ := e; omega); go_simp; try with_reducible rfl)
     try simp only [Act.put, pu1, pu2, pu3]
     refine takeA 3 (v := ?_) rfl ?_ ?_
     rotate_left
     · (intro w hSw; (try dsimp only at hSw); replace z0 := Far.cellZ z0 hSw (by intro e; have e : b2 = _ := e; omega); replace z1 := Far.cellZ z1 hSw (by intro e; have e : b2 = _ := e; omega); replace z2 := Far.cellZ z2 hSw (by intro e; have e : b2 = _ := e; omega); replace z3 := Far.cellZ z3 hSw (by intro e; have e : b2 = _ := e; omega); replace z4 := Far.cellZ z4 hSw (by intro e; have e : b2 = _ := e; omega); replace z5 := Far.cellZ z5 hSw (by intro e; have e : b2 = _ := e; omega); go_simp; try with_reducible rfl)
     try simp only [Act.put, pu1, pu2, pu3]
     refine takeA 4 (v := ?_) rfl ?_ ?_
     rotate_left
     · (intro w hSw; (try dsimp only at hSw); replace z0 := Far.cellZ z0 hSw (by intro e; have e : b2 = _ := e; omega); replace z1 := Far.cellZ z1 hSw (by intro e; have e : b2 = _ := e; omega); replace z2 := Far.cellZ z2 hSw (by intro e; have e : b2 = _ := e; omega); replace z3 := Far.cellZ z3 hSw (by intro e; have e : b2 = _ := e; omega); replace z4 := Far.cellZ z4 hSw (by intro e; have e : b2 = _ := e; omega); replace z5 := Far.cellZ z5 hSw (by intro e; have e : b2 = _ := e; omega); go_simp; try with_reducible rfl)
     try simp only [Act.put, pu1, pu2, pu3]
     refine callA 5 rfl fun K hK => ?_
     go_simp
     refine hK.out _ _ ?_ (fun hS31 => ?_)
     · exact (by refine Far.drewC ?_; (iterate 6 (with_reducible refine Far.setS ?_ _ _)); exact Far.refl _ _)
     clear hK K

     clear qc rc
     generalize ee : ((((((w13.setCell ⟨w.heap.size, 0, none⟩ (.int .i64 0)).setCell ⟨w.heap.size, 1, none⟩ (.string ⟨#[]⟩)).setCell ⟨w.heap.size, 2, none⟩ (.int .i64 0)).setCell ⟨w.heap.size, 3, none⟩ (.slice none 0 0)).setCell ⟨w.heap.size, 4, none⟩ (.int .i64 0)).setCell ⟨w.heap.size, 5, none⟩ (.int .i64 0)) = w14_1 at *
     have hq1 := sizeS6 ee
     replace HP := pO6 HP ee
     replace HF := fN6 HF ee
     replace HBr := bS6 HBr ee
     replace HOl := oS6 HOl ee
     clear ee
     generalize ee : (w14_1.drew) = w14 at *
     have hq2 := sizeD ee
     replace HP := pD HP ee
     replace HF := fD HF ee
     replace HBr := bD HBr ee
     replace HOl := oD HOl ee
     clear ee
     have hsa14 : w14.heap.size = w13.heap.size + 0 := by omega
     clear hq1 hq2
     clear hI
     have qc := kcP HP
     have rc := kc6 HBr
     have hI := iq_0_0 q w w14
     have hZ := iq_0_0 q w w13
     refine takeA 6 (v := ?_) rfl ?_ ?_
     rotate_left
     · (intro w hSw; (try dsimp only at hSw); go_simp; try with_reducible rfl)
     try simp only [Act.put, pu1, pu2, pu3]
     refine callA 7 rfl fun K hK => ?_
     go_simp
     refine hK.out _ _ ?_ (fun hS32 => ?_)
     · exact Far.setS hS31 _ _
     clear hK K

     clear qc rc
     generalize ee : (w14.setCell ⟨w.heap.size, 0, none⟩ (.int .i64 4)) = w15 at *
     have hsz15 := sizeS1 ee
     replace HP := pO1 HP ee
     replace HF := fN1 HF ee
     replace HBr : Hid (Bo w15 w.heap.size 27 #[.int .i64 4, .string ⟨#[]⟩, .int .i64 0, .slice none 0 0, .int .i64 0, .int .i64 0]) := Lib.hid (by rw [← ee]; exact HBr.out.set 0 (.int .i64 4))
     replace HOl := oS1 HOl ee
     clear ee
     clear hI hZ
     have qc := kcP HP
     have rc := kc6 HBr
     have hI := iq_0_0 q w w15
     have hZ := iq_0_0 q w w13
     refine takeA 8 (v := ?_) rfl ?_ ?_
     rotate_left
     · (intro w hSw; (try dsimp only at hSw); go_simp; try with_reducible rfl)
     try simp only [Act.put, pu1, pu2, pu3]
     refine callA 9 rfl fun K hK => ?_
     go_simp
     refine hK.out _ _ ?_ (fun hS33 => ?_)
     · exact Far.setS hS32 _ _
     clear hK K

     clear qc rc
     generalize ee : (w15.setCell ⟨w.heap.size, 3, none⟩ (.slice (some ⟨b2, o2, none⟩) m1 c1)) = w16 at *
     have hsz16 := sizeS1 ee
     replace HP := pO1 HP ee
     replace HF := fN1 HF ee
     replace HBr : Hid (Bo w16 w.heap.size 27 #[.int .i64 4, .string ⟨#[]⟩, .int .i64 0, .slice (some ⟨b2, o2, none⟩) m1 c1, .int .i64 0, .int .i64 0]) := Lib.hid (by rw [← ee]; exact HBr.out.set 3 (.slice (some ⟨b2, o2, none⟩) m1 c1))
     replace HOl := oS1 HOl ee
     clear ee
     clear hI hZ
     have qc := kcP HP
     have rc := kc6 HBr
     have hI := iq_0_0 q w w16
     have hZ := iq_0_0 q w w13
     refine takeA 10 (v := ?_) rfl ?_ ?_
     rotate_left
     · (intro w hSw; (try dsimp only at hSw); go_simp; try with_reducible rfl)
     try simp only [Act.put, pu1, pu2, pu3]
     refine callA 11 rfl fun K hK => ?_
     go_simp
     refine hK.out _ _ ?_ (fun hS34 => ?_)
     · exact Far.setS (Far.setS hS33 _ _) _ _
     clear hK K
     refine wpAnyH_done (by kernel_rfl) ?_ _

     clear qc rc
     generalize ee : (w16.setCell ⟨w.heap.size, 4, none⟩ (.int .i64 z.line)) = w17_1 at *
     have hq1 := sizeS1 ee
     replace HP := pO1 HP ee
     replace HF := fN1 HF ee
     replace HBr : Hid (Bo w17_1 w.heap.size 27 #[.int .i64 4, .string ⟨#[]⟩, .int .i64 0, .slice (some ⟨b2, o2, none⟩) m1 c1, .int .i64 z.line, .int .i64 0]) := Lib.hid (by rw [← ee]; exact HBr.out.set 4 (.int .i64 z.line))
     replace HOl := oS1 HOl ee
     clear ee
     generalize ee : (w17_1.setCell ⟨w.heap.size, 5, none⟩ (.int .i64 z.col)) = w17 at *
     have hq2 := sizeS1 ee
     replace HP := pO1 HP ee
     replace HF := fN1 HF ee
     replace HBr : Hid (Bo w17 w.heap.size 27 #[.int .i64 4, .string ⟨#[]⟩, .int .i64 0, .slice (some ⟨b2, o2, none⟩) m1 c1, .int .i64 z.line, .int .i64 z.col]) := Lib.hid (by rw [← ee]; exact HBr.out.set 5 (.int .i64 z.col))
     replace HOl := oS1 HOl ee
     clear ee
     have hsz17 : w17.heap.size = w16.heap.size := by omega
     clear hq1 hq2
     clear hI hZ
     go_wp2_with (fail)
     rw [HZ.out]
     refine door_up HP.out.bo ?_
     generalize ee : (w17.setCell ⟨q, 2, none⟩ (.int .i64 (wrap64 (((deep + 1 : Nat) : Int) - 1)))) = w18 at *
     have hsz18 := sizeS1 ee
     replace HP := Lib.hid (HP.out.setDE (k := ((deep : Int))) ee (wrap_up hd))
     replace HF := Lib.hid (HF.out.setQE ee)
     replace HBr := bF1 HBr ee
     replace HOl := oS1 HOl ee
     clear ee
     have fc := kc6 HBr
     refine ⟨.agg #[.int .i64 4, .string ⟨#[]⟩, .int .i64 0, .slice (some ⟨b2, o2, none⟩) m1 c1, .int .i64 z.line, .int .i64 z.col], (by clear HP HF HBr HOl; simp [results, Try.results101, go_sem, fc]), ?_⟩
     exact ⟨_, _, _, rfl, HF.out.out, HP.out, memNw HOl.out.mem (by omega)⟩
    | false =>
     simp only [hce, Bool.false_eq_true, if_false] at hr
     clear qc rc
     refine (is_any 6 wClose _ HP.out).mono ?_
     rintro _ w12 ⟨rfl, hb⟩
     have hf := FarQ.of (q := q) hb
     replace HBr := qB HBr hf
     replace HOl := qO HOl hf
     replace HF := qF HF hf
     have hs12 := hf.size
     replace HP := kP HP hb
     clear hf hb
     rw [hce]
     clear hI
     have qc := kcP HP
     have rc := kc6 HBr
     have hI := iq_0_0 q w w12
     go_wp2_with (fail)
     have hg1 : g < f + 1 := by omega
     rcases hy : readE ts g .pat jj (deep + 1) with _ | ⟨y, k⟩ | ⟨l_, c_⟩
     · (rw [hy] at hr; cases hr)
     rotate_left
     ·
      rw [hy] at hr
      first | simp only at hr | simp only [andT] at hr
      cases hr
      clear qc rc
      refine ((H g hg1) jj (deep + 1) _ _ hd1 hy HP.out).mono ?_
      rintro _ w13 ⟨rfl, hf, hbo⟩
      go_wp2_with (fail)
      exact ⟨_, _, rfl, rfl, .inr rfl, FarB.out (HF.out.farq hf), hbo⟩
     rw [hy] at hr
     first | simp only at hr | simp only [andT] at hr
     have HOW := HOl
     clear qc rc
     refine ((H g hg1) jj (deep + 1) _ _ hd1 hy HP.out).mono ?_
     rintro _ w13 ⟨ay, my, cy, rfl, hf, hp, hm⟩
     replace HBr := qB HBr hf
     replace HOl := qO HOl hf
     replace HF := qF HF hf
     have hs13 := hf.size
     replace HP := Lib.hid hp
     have HMy := Lib.hid hm
     clear hf hp hm
     simp only [exV]
     have hfk : jj < k ∧ k ≤ ts.length := readE_fwd g .pat jj (deep + 1) y k hy
     clear hI
     have qc := kcP HP
     have rc := kc6 HBr
     have hI := iq_0_0 q w w13
     go_wp2_with (first | (at_builtin; refine wpList_append_D rfl _ _ rfl Try.underlying23 info_ex rfl (by decide) rfl rfl (HOl.out.alloc _) (newRow HOW.out (by omega) (by omega) HMy.out) (by have := HM1.out; simp only [Ex.rows_len, List.length_cons, List.length_nil]; omega) (by have := HM1.out; simp only [Ex.rows_len, List.length_cons, List.length_nil]; omega) (by rw [World.size_alloc]; omega) ?_; intro vA wA ho hgr; have HO9 := Lib.hid ho; clear ho; have HG9 := Lib.hid hgr; clear hgr))
     have hob : ∀ k, (Value.slice a1 m1 c1).ownBlock = some k → w9.heap.size ≤ k := fun k hk => (HOl.out.lt k hk).1
     clear qc rc
     have HO8 : Hid (OwnD 0 w9.heap.size 27 6 wA vA (Ex.rows (l ++ [y]))) := Lib.hid (by rw [Ex.rows_app]; exact HO9.out)
     obtain ⟨a2, m2, c2, rfl, hm4, _, _⟩ := HO8.out.form2
     rw [List.length_append, List.length_cons, List.length_nil] at hm4
     have hsA : w13.heap.size + 1 ≤ wA.heap.size := by have h := HG9.out.size; rw [World.size_alloc] at h; exact h
     go_roundw
     case rel => exact ⟨l ++ [y], k, ⟨g, by omega, hr⟩, Lib.hid ((HP.out.alloc (.cells #[.int .i64 y.kind, .string y.name, .int .i64 y.n, .slice ay my cy, .int .i64 y.line, .int .i64 y.col] 27)).grown HG9.out fun k hk => by have := hob k hk; omega), Lib.hid ((HF.out.alloc (.cells #[.int .i64 y.kind, .string y.name, .int .i64 y.n, .slice ay my cy, .int .i64 y.line, .int .i64 y.col] 27)).grown HG9.out fun k hk => by have := hob k hk; omega), Lib.hid ((HBr.out.alloc (.cells #[.int .i64 y.kind, .string y.name, .int .i64 y.n, .slice ay my cy, .int .i64 y.line, .int .i64 y.col] 27)).grown HG9.out fun k hk => by have := hob k hk; omega), HO8, by simp, by rw [List.length_append, List.length_cons, List.length_nil]; omega, hfk.2, by omega⟩
     case measure => have := HM1.out; simp only [lenV]; omega
theorem pat_reads (F : Nat) : ∀ g, g ≤ F → Reads ts aL n cap q 101 .pat g := by
  induction F with
  | zero =>
    intro g hg i deep r w hd hr hp
    obtain rfl : g = 0 := by omega
    rw [readE] at hr
    cases hr
  | succ F ih =>
    intro g hg i deep r w hd hr hp
    cases g with
    | zero => rw [readE] at hr; cases hr
    | succ f => exact pat_succ hr w hd (fun g2 h2 => ih g2 (by omega)) hp
end
end Go.Proofs.Ytcoiagfeoonpbaa
