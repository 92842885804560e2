/-
  'append' of a row that may be empty onto a slice of the call's own. No condition but sizes.
-/
import Derived.Test.YtcoiagfeoonpbaaMj25
import Derived.Test.YtcoiagfeoonpbaaMj28
import Derived.Deep.RegionLawGrows
import Derived.Deep.AppendSrc
import Derived.Test.YtcoiagfeoonpbaaMj17
namespace Go.Proofs.Ytcoiagfeoonpbaa
open Go.RowKit
section
variable {P : Program} {w : World} {t e : TypeId} {z : Value} {sz bytes : Nat}
theorem run_append_no {i : TypeInfo} (ty : TypeId) (ht : P.underlying t = some (.slice e)) (hi : P.info? e = some i) {n cap c : Nat} {ao ax : Option Addr} (hn : n ≤ cap) :
    (Builtin.append_ #[t, t] ty #[.slice ao n cap, .slice ax 0 c]).run P w = .ok (.slice ao n cap) w := by
  have hs : Src P i.size t (.slice ax 0 c) 0 [] w := by
    cases ax with
    | none => exact Src.ofNil w ht c
    | some a => exact Src.ofSlice w ht a 0 c [] (by simp) (by simp) (by simp)
  cases ao <;> simp [Builtin.append_, run_underlying ht, sizeOf, typeInfo, hi, hs.len, hn, hs.cells, storeCells]
theorem run_append_Z (ty : TypeId) {A : Nat → Prop} {base : Nat} (ht : P.underlying t = some (.slice e)) (hinfo : (P.info? e).map (fun i => (i.zero, i.size, i.bytes)) = some (some z, sz, bytes)) (hz : z.cells.size = sz) (hsz : 0 < sz)
    {y : Value} {rs new : List (List At)} {a : Option Addr} {m c : Nat} (h : OwnS A base e sz w y rs) (hM : Mem (fun b => NwS A w.heap.size b ∧ y.ownBlock ≠ some b) w (.s sz new) (.slice a m c)) (hby : (rs.length + new.length) * bytes ≤ 140737488355328) (hbl : rs.length + new.length ≤ 4611686018427387904) (hbase : base ≤ w.heap.size) :
    ∃ v' w', (Builtin.append_ #[t, t] ty #[y, .slice a m c]).run P w = .ok v' w' ∧ OwnS A base e sz w' v' (rs ++ new) ∧ w.grownBy w' y.ownBlock ∧ (v'.ownBlock = y.ownBlock ∨ ∀ k, v'.ownBlock = some k → w.heap.size ≤ k) := by
  by_cases hnew : new = []
  · subst hnew
    obtain ⟨i, hi, hz0, hz1, hz2⟩ := info_parts hinfo
    have hm : m = 0 := hM.len.1.symm
    subst hm
    obtain ⟨a1, n1, c1, rfl⟩ := mem_slice h.mem
    refine ⟨_, w, run_append_no ty ht hi h.mem.len.2.1, ?_, World.grownBy.refl w _, .inl rfl⟩
    rw [List.append_nil]
    exact h
  · exact run_append_S ty ht hinfo hz hsz h hnew hM hby hbl hbase
end
end Go.Proofs.Ytcoiagfeoonpbaa

/-
  module.Parse's answer in one shape: what it holds, and its fault (0: none). No condition but sizes.
-/
namespace Go.Proofs.Ytcoiagfeoonpbaa
open Go.RowKit
def Md1.ds : Md1 → List Da | .ok ds _ => ds | .bad .. => []
def Md1.rs : Md1 → List Ru | .ok _ rs => rs | .bad .. => []
def Md1.k : Md1 → Int | .ok .. => 0 | .bad k _ _ => k
def Md1.l : Md1 → Int | .ok .. => 0 | .bad _ l _ => l
def Md1.c : Md1 → Int | .ok .. => 0 | .bad _ _ c => c
def MdOne (r : Md1) (W : World) (e : Ending) (w' : World) : Prop :=
  ∃ a m c a' m' c', e = .returned (.tuple #[.agg #[.slice a m c, .slice a' m' c'], .agg #[.int .i64 r.k, .int .i64 r.l, .int .i64 r.c]]) ∧ Below W.heap.size W w' ∧ Mem (Nw 0 W.heap.size w'.heap.size) w' (.s 5 (r.ds.map Da.row)) (.slice a m c) ∧ Mem (Nw 0 W.heap.size w'.heap.size) w' (.s 11 (r.rs.map Ru.row)) (.slice a' m' c')
theorem mparse_one (s : ByteArray) (w : World) (hs : s.size ≤ 1000000) : Calls Try.prog 17 #[.string s] w (MdOne (modE s) w) := by
  refine (mparse_any s w hs).mono ?_
  intro e w' h
  cases hr : modE s with
  | ok ds rs => rw [hr] at h; exact h
  | bad k l c =>
    rw [hr] at h
    exact ⟨none, 0, 0, none, 0, 0, h.1, h.2, .e none 0 5 (by decide), .e none 0 11 (by decide)⟩
theorem mod_zero {s : ByteArray} (h : (modE s).k = 0) : modE s = .ok (modE s).ds (modE s).rs := by
  cases hr : modE s with
  | ok ds rs => rfl
  | bad k l c =>
    rw [hr] at h
    replace h : k = 0 := h
    subst h
    exfalso
    unfold modE at hr
    split at hr
    · obtain ⟨r, e⟩ := itemsA_some (toksA s)
      rw [e] at hr
      unfold endM at hr
      simp only at hr
      split at hr
      · cases hr
      · cases hr
    · rename_i h0
      injection hr with e1
      exact h0 e1
end Go.Proofs.Ytcoiagfeoonpbaa

/-
  Two rows that one region builds out of two modules' rows, in any order, and a box beside. Plain lemmas. No condition.
-/
namespace Go.Proofs.Ytcoiagfeoonpbaa
open Go.RowKit
section
variable {P : Program} {w : World} {t e : TypeId} {z : Value} {sz bytes : Nat} {o : Oper} {act : Act} {K : Act → World → Prop} {Q : Exit → Act → World → Prop}
theorem wp_append_Z (s x : Operand) {A : Nat → Prop} {base : Nat} (ho : o.op = .call { callee := .builtin .append, args := #[s, x], argTypes := #[t, t] }) (ht : P.underlying t = some (.slice e)) (hinfo : (P.info? e).map (fun i => (i.zero, i.size, i.bytes)) = some (some z, sz, bytes)) (hz : z.cells.size = sz) (hsz : 0 < sz)
    {y : Value} {rs new : List (List At)} {a : Option Addr} {m c : Nat} (hs : act.eval s = y) (hx : act.eval x = .slice a m c) (h : OwnS A base e sz w y rs) (hM : Mem (fun b => NwS A w.heap.size b ∧ y.ownBlock ≠ some b) w (.s sz new) (.slice a m c)) (hby : (rs.length + new.length) * bytes ≤ 140737488355328) (hbl : rs.length + new.length ≤ 4611686018427387904) (hbase : base ≤ w.heap.size)
    (hK : ∀ v' w', OwnS A base e sz w' v' (rs ++ new) → w.grownBy w' y.ownBlock → (v'.ownBlock = y.ownBlock ∨ ∀ k, v'.ownBlock = some k → w.heap.size ≤ k) → K (act.put o.dst v') w') : Oper.wp P o act w K Q := by
  obtain ⟨v', w', hr, h2, h3, h4⟩ := run_append_Z o.type ht hinfo hz hsz h hM hby hbl hbase
  unfold Oper.wp execOp
  simp only [ho, resolve, invoke, builtin, Sem.run_bind, Sem.run_pure, Result.andThen_ok, List.map_toArray, List.map_cons, List.map_nil, hs, hx, hr]
  exact hK _ _ h2 h3 h4
end
section
variable {ts : List Tk}
theorem itemsM_cnt {F g : Nat} : ∀ (f : Nat) (ds : List Da) (rs : List Ru) (s : MS) (r : List Da × List Ru × MS), itemsM ts F g f ds rs s = some r → r.2.2.ok = true → r.1.length + r.2.1.length + s.i ≤ ds.length + rs.length + r.2.2.i
  | 0, _, _, _, _, h, _ => by rw [itemsM] at h; cases h
  | f + 1, ds, rs, s, r, h, hok => by
    rw [itemsM] at h
    split at h
    · split at h
      · obtain ⟨p, h1, h2⟩ := Option.bind_eq_some_iff.1 h
        have g1 := itemsM_cnt f _ _ _ _ h2 hok
        have k1 := (itemsM_step _ _ _ _ _ h2).fwd hok
        have k2 := (dataM_step h1).fwd k1.1
        have k3 := ((step_take (ts := ts) (k := 1) (x := ⟨#[]⟩) s).fwd k2.1).2
        rw [List.length_append, List.length_cons, List.length_nil] at g1
        have := k2.2
        omega
      · obtain ⟨p, h1, h2⟩ := Option.bind_eq_some_iff.1 h
        have g1 := itemsM_cnt f _ _ _ _ h2 hok
        have k1 := (itemsM_step _ _ _ _ _ h2).fwd hok
        have k2 := (ruleM_step h1).fwd k1.1
        have k3 := ((step_take (ts := ts) (k := 1) (x := ⟨#[]⟩) s).fwd k2.1).2
        rw [List.length_append, List.length_cons, List.length_nil] at g1
        have := k2.2
        omega
    · cases h
      exact Nat.le_refl _
end
theorem mod_cnt {s : ByteArray} {ds : List Da} {rs : List Ru} (h : modE s = .ok ds rs) : ds.length + rs.length ≤ 2 * s.size + 1 := by
  obtain ⟨_, st, h1, h2⟩ := mod_ok h
  have g1 := itemsM_cnt _ _ _ _ _ h1 h2
  have g2 : st.i < (toksA s).length := itemsM_end _ _ _ _ _ h1 h2
  have g3 := lexes_len s
  have g4 : (toksA s).length = (lexes s).2.2.2.length := by unfold toksA; rw [List.length_map]
  simp only [List.length_nil] at g1
  omega
section
variable {w w' : World} {T base sz : Nat} {e : TypeId} {y : Value} {rs : List (List At)}
theorem OwnS.otherT {r : Option Nat} (h : OwnS (· < T) T e sz w y rs) (hg : w.grownBy w' r) (hr : ∀ k, r = some k → T ≤ k ∧ y.ownBlock ≠ some k) : OwnS (· < T) T e sz w' y rs := by
  obtain ⟨css, h1, h2⟩ := h
  refine ⟨css, ⟨h1.1, ?_⟩, h2.imp fun r' cs ⟨hc, hm⟩ => ⟨hc, hm.imp fun x y' hx => hx.mono (fun b hb => ⟨⟨hb.1.1, Nat.lt_of_lt_of_le hb.1.2 hg.size⟩, hb.2⟩) fun b hb => hg.block b hb.1.2 fun e => by have h3 := (hr b e.symm).1; have h4 : b < T := hb.1.1; omega⟩⟩
  rcases h1.2 with hn | ⟨g, cap, cur, rfl, hb, hgg, rest⟩
  · exact .inl hn
  · have hg0 := (Array.getElem?_eq_some_iff.1 hgg).1
    exact .inr ⟨g, cap, cur, rfl, hb, (hg.block g hg0 (fun e => (hr g e.symm).2 rfl)).trans hgg, rest⟩
structure JS (W wc : World) (ed : TypeId) (sd : Nat) (yd : Value) (ds : List (List At)) (er : TypeId) (sr : Nat) (yr : Value) (rs : List (List At)) (g : Option Nat) (t : TypeId) (cs : Array Value) : Prop where
  be : Below W.heap.size W wc
  d : OwnS (· < W.heap.size) W.heap.size ed sd wc yd ds
  r : OwnS (· < W.heap.size) W.heap.size er sr wc yr rs
  ne : ∀ k, yd.ownBlock = some k → yr.ownBlock ≠ some k
  m : ∀ k, g = some k → Bo wc k t cs ∧ W.heap.size ≤ k ∧ yd.ownBlock ≠ some k ∧ yr.ownBlock ≠ some k
end
section
variable {W wc w' : World} {ed er t : TypeId} {sd sr : Nat} {yd yr : Value} {ds rs : List (List At)} {g : Option Nat} {cs : Array Value}
theorem OwnS.none0 (A : Nat → Prop) (base : Nat) (e : TypeId) (sz : Nat) (w : World) : OwnS A base e sz w (.slice none 0 0) [] := ⟨[], World.ownsRow_nil w base e sz, .nil⟩
theorem JS.start (hb : Below W.heap.size W wc) (ed er t : TypeId) (sd sr : Nat) (cs : Array Value) : JS W wc ed sd (.slice none 0 0) [] er sr (.slice none 0 0) [] none t cs :=
  ⟨hb, OwnS.none0 _ _ _ _ _, OwnS.none0 _ _ _ _ _, (fun k hk => by cases hk), (fun k hk => by cases hk)⟩
theorem JS.alloc (h : JS W wc ed sd yd ds er sr yr rs none t cs) : JS W (wc.alloc (.cells cs t)) ed sd yd ds er sr yr rs (some wc.heap.size) t cs :=
  ⟨h.be.alloc h.be.size _, h.d.alloc _, h.r.alloc _, h.ne, fun k hk => by
    cases hk
    exact ⟨Bo.new _ _ _, h.be.size, fun e => by have := (h.d.lt _ e).2; omega, fun e => by have := (h.r.lt _ e).2; omega⟩⟩
theorem below_grown {r : Option Nat} (hb : Below W.heap.size W wc) (hg : wc.grownBy w' r) (hr : ∀ k, r = some k → W.heap.size ≤ k) : Below W.heap.size W w' :=
  hb.trans ⟨hg.os, hg.tape, hg.output, hg.size, fun b h1 => hg.block b (Nat.lt_of_lt_of_le h1 hb.size) fun e => by have := hr b e.symm; omega⟩
theorem JS.apartD (h : JS W wc ed sd yd ds er sr yr rs g t cs) {x : At} {v : Value} (hm : Mem (· < W.heap.size) W x v) : Mem (fun b => NwS (· < W.heap.size) wc.heap.size b ∧ yd.ownBlock ≠ some b) wc x v :=
  hm.mono (fun b hb => ⟨⟨hb, Nat.lt_of_lt_of_le hb h.be.size⟩, fun e => by have h1 := (h.d.lt b e).1; have h2 : b < W.heap.size := hb; omega⟩) fun b hb => h.be.block b hb
theorem JS.apartR (h : JS W wc ed sd yd ds er sr yr rs g t cs) {x : At} {v : Value} (hm : Mem (· < W.heap.size) W x v) : Mem (fun b => NwS (· < W.heap.size) wc.heap.size b ∧ yr.ownBlock ≠ some b) wc x v :=
  hm.mono (fun b hb => ⟨⟨hb, Nat.lt_of_lt_of_le hb h.be.size⟩, fun e => by have h1 := (h.r.lt b e).1; have h2 : b < W.heap.size := hb; omega⟩) fun b hb => h.be.block b hb
theorem JS.growD (h : JS W wc ed sd yd ds er sr yr rs g t cs) {yd' : Value} {ds' : List (List At)} (h1 : OwnS (· < W.heap.size) W.heap.size ed sd w' yd' ds') (hg : wc.grownBy w' yd.ownBlock) (hy : yd'.ownBlock = yd.ownBlock ∨ ∀ k, yd'.ownBlock = some k → wc.heap.size ≤ k) : JS W w' ed sd yd' ds' er sr yr rs g t cs := by
  have key : ∀ k, k < wc.heap.size → yd.ownBlock ≠ some k → yd'.ownBlock ≠ some k := fun k hk hn e => by
    rcases hy with hy | hy
    · rw [hy] at e; exact hn e
    · have := hy k e; omega
  refine ⟨below_grown h.be hg fun k hk => (h.d.lt k hk).1, h1, h.r.otherT hg fun k hk => ⟨(h.d.lt k hk).1, h.ne k hk⟩, fun k hk e => ?_, fun k hk => ?_⟩
  · exact key k (h.r.lt k e).2 (fun e2 => h.ne k e2 e) hk
  · obtain ⟨m1, m2, m3, m4⟩ := h.m k hk
    exact ⟨m1.grown hg fun k' hk' e => m3 (by rw [hk', e]), m2, key k m1.lt m3, m4⟩
theorem JS.growR (h : JS W wc ed sd yd ds er sr yr rs g t cs) {yr' : Value} {rs' : List (List At)} (h1 : OwnS (· < W.heap.size) W.heap.size er sr w' yr' rs') (hg : wc.grownBy w' yr.ownBlock) (hy : yr'.ownBlock = yr.ownBlock ∨ ∀ k, yr'.ownBlock = some k → wc.heap.size ≤ k) : JS W w' ed sd yd ds er sr yr' rs' g t cs := by
  have key : ∀ k, k < wc.heap.size → yr.ownBlock ≠ some k → yr'.ownBlock ≠ some k := fun k hk hn e => by
    rcases hy with hy | hy
    · rw [hy] at e; exact hn e
    · have := hy k e; omega
  refine ⟨below_grown h.be hg fun k hk => (h.r.lt k hk).1, h.d.otherT hg fun k hk => ⟨(h.r.lt k hk).1, fun e => h.ne k e hk⟩, h1, fun k hk e => ?_, fun k hk => ?_⟩
  · exact key k (h.d.lt k hk).2 (h.ne k hk) e
  · obtain ⟨m1, m2, m3, m4⟩ := h.m k hk
    exact ⟨m1.grown hg fun k' hk' e => m4 (by rw [hk', e]), m2, m3, key k m1.lt m4⟩
theorem grown_set (w : World) (g j : Nat) (v : Value) : w.grownBy (w.setCell ⟨g, j, none⟩ v) (some g) :=
  ⟨rfl, rfl, rfl, by simp [World.setCell], fun k _ hn => heap_setCell_other w ⟨g, j, none⟩ k v (fun e => hn (congrArg some e))⟩
theorem memO {T base sz : Nat} {e : TypeId} {w : World} {y : Value} {rs : List (List At)} (h : OwnS (· < T) base e sz w y rs) : MemW w (.s sz rs) y := h.mem.mono (fun _ hb => hb.2) fun _ _ => rfl
theorem JS.fin {g : Nat} {c0 c1 : Value} (h : JS W wc ed sd yd ds er sr yr rs (some g) t #[c0, c1]) (v0 v1 : Value) :
    Below W.heap.size W ((wc.setCell ⟨g, 0, none⟩ v0).setCell ⟨g, 1, none⟩ v1) ∧ Bo ((wc.setCell ⟨g, 0, none⟩ v0).setCell ⟨g, 1, none⟩ v1) g t #[v0, v1] ∧ MemW ((wc.setCell ⟨g, 0, none⟩ v0).setCell ⟨g, 1, none⟩ v1) (.s sd ds) yd ∧ MemW ((wc.setCell ⟨g, 0, none⟩ v0).setCell ⟨g, 1, none⟩ v1) (.s sr rs) yr := by
  obtain ⟨m1, m2, m3, m4⟩ := h.m g rfl
  have g1 := grown_set wc g 0 v0
  have g2 := grown_set (wc.setCell ⟨g, 0, none⟩ v0) g 1 v1
  have hr : ∀ k, some g = some k → W.heap.size ≤ k := fun k e => by cases e; exact m2
  refine ⟨below_grown (below_grown h.be g1 hr) g2 hr, m1.set2 rfl, memO ((h.d.otherT g1 fun k e => ?_).otherT g2 fun k e => ?_), memO ((h.r.otherT g1 fun k e => ?_).otherT g2 fun k e => ?_)⟩ <;> (cases e; first | exact ⟨m2, m3⟩ | exact ⟨m2, m4⟩)
theorem memT {T : Nat} {w : World} {x : At} {v : Value} {k : Nat} (h : Mem (Nw 0 k w.heap.size) w x v) (hT : T = w.heap.size) : Mem (· < T) w x v := h.mono (fun b hb => by subst hT; unfold Nw at hb; omega) fun _ _ => rfl
end
theorem SamE.symm {p : Bool} {x y : Ex} (h : SamE p x y) : SamE p y x := by
  induction h with
  | mk k s n xs ys l c l' c' hl ha hp ih => exact .mk k s n ys xs l' c' l c hl.symm (fun i h1 h2 => ih i h2 h1) fun e => ⟨(hp e).1.symm, (hp e).2.symm⟩
theorem All2.flip {α β : Type} {R : α → β → Prop} {l : List α} {m : List β} (h : All2 R l m) : All2 (fun b a => R a b) m l := by
  induction h with
  | nil => exact .nil
  | cons h _ ih => exact .cons h ih
theorem DaS.symm {x y : Da} (h : DaS x y) : DaS y x := ⟨h.1.symm, h.2.1.symm, h.2.2.flip.imp fun _ _ h => ⟨h.1.symm, h.2.symm⟩⟩
theorem RuS.symm {x y : Ru} (h : RuS x y) : RuS y x := ⟨h.1.symm, h.2.1.flip.imp fun _ _ h => h.symm, h.2.2.1.flip.imp fun _ _ h => h.symm, h.2.2.2.symm⟩
end Go.Proofs.Ytcoiagfeoonpbaa

/-
 ModuleJoins: it answers true. No condition but sizes.
-/
namespace Go.Proofs.Ytcoiagfeoonpbaa
open Go.RowKit
theorem join_dataM (a b : ByteArray) : ((a ++ ⟨#[10]⟩) ++ b).data.toList = a.data.toList ++ 10 :: b.data.toList := by
 simp [ByteArray.data_append]
set_option maxRecDepth 100000 in
set_option maxHeartbeats 20000000 in
theorem moduleJoins_any (a b : ByteArray) (w : World) (_ha : a.size ≤ maxLen) (_hb : b.size ≤ maxLen) : Calls Try.prog 5 #[.string a, .string b] w fun e w' => e = .returned (.bool true) ∧ Below w.heap.size w w' := by
 have H := Lib.hid True.intro
 clear _ha _hb
 have HF : Hid (FarB w.heap.size w.heap.size w w) := Lib.hid (FarB.refl _ _ _)
 go_enter Try.func5, Try.ntmps5
 go_wp2_with (fail)
 refine (awake07_any _).mono ?_
 rintro _ w1 ⟨rfl, hb⟩
 replace HF := kF HF hb
 have hs1 := hb.size
 clear hb
 by_cases hl1 : 1500 < a.size
 ·
  have hb3 : ((1500 : Int) < (a.size : Int)) = True := by simp; omega
  go_wp2_with (fail)
  go_ret
  exact ⟨rfl, belQ HF.out (Nat.le_refl _) (Nat.le_refl _)⟩
 have hb3 : ((1500 : Int) < (a.size : Int)) = False := by simp; omega
 by_cases hl2 : 1500 < b.size
 ·
  have hb4 : ((1500 : Int) < (b.size : Int)) = True := by simp; omega
  go_wp2_with (fail)
  go_ret
  exact ⟨rfl, belQ HF.out (Nat.le_refl _) (Nat.le_refl _)⟩
 have hb4 : ((1500 : Int) < (b.size : Int)) = False := by simp; omega
 go_wp2_with (fail)
 clear hb3 hb4
 have hS1 : (a ++ ⟨#[10]⟩ ++ b).size ≤ 1000000 := by have h1 : (⟨#[10]⟩ : ByteArray).size = 1 := rfl; rw [ByteArray.size_append, ByteArray.size_append, h1]; omega
 have hS2 : (a ++ ⟨#[10]⟩ ++ b).data.toList = a.data.toList ++ 10 :: b.data.toList := join_dataM a b
 obtain ⟨S, hS0⟩ : ∃ S, (a ++ ⟨#[10]⟩) ++ b = S := ⟨_, rfl⟩
 rw [hS0] at hS1 hS2
 have HS2 := Lib.hid hS2
 clear hS2
 refine (mparse_one a _ (by omega)).mono ?_
 rintro _ w2 ⟨p1, n1, k1, q1, m1, l1, rfl, hb, hm, hm2⟩
 replace HF := kF HF hb
 have hs2 := hb.size
 clear hb
 have HMd1 := Lib.hid hm
 have HMr1 := Lib.hid hm2
 clear hm hm2
 obtain ⟨r1, hr1⟩ : ∃ r, modE a = r := ⟨_, rfl⟩
 rw [hr1] at HMd1 HMr1 ⊢
 replace hr1 := Lib.hid hr1
 go_upto_region 6 with (fail)
 generalize ee : World.alloc w2 _ = w3_1
 have hq1 := sizeA ee
 replace HF := fA HF ee
 replace HMd1 := mA HMd1 ee
 replace HMr1 := mA HMr1 ee
 have HBA := nB ee (w2.heap.size)
 clear ee
 generalize ee : World.alloc w3_1 _ = w3
 have hq2 := sizeA ee
 replace HF := fA HF ee
 replace HBA := bA HBA ee
 replace HMd1 := mA HMd1 ee
 replace HMr1 := mA HMr1 ee
 have HBFA := nB ee (w2.heap.size + 1)
 clear ee
 have hsa3 : w3.heap.size = w2.heap.size + 2 := by omega
 clear hq1 hq2
 have Ac := kc2 HBA; have FAc := kc3 HBFA
 have hI := i01_0 w2 w3
 have hZ := i012 w2
 go_wp2_with (fail)
 clear Ac FAc
 refine (mparse_one b _ (by omega)).mono ?_
 rintro _ w4 ⟨p2, n2, k2, q2, m2, l2, rfl, hb, hm, hm2⟩
 replace HBA := kB HBA hb
 replace HBFA := kB HBFA hb
 replace HMd1 := kM HMd1 hb
 replace HMr1 := kM HMr1 hb
 replace HF := kF HF hb
 have hs4 := hb.size
 clear hb
 have HMd2 := Lib.hid hm
 have HMr2 := Lib.hid hm2
 clear hm hm2
 obtain ⟨r2, hr2⟩ : ∃ r, modE b = r := ⟨_, rfl⟩
 rw [hr2] at HMd2 HMr2 ⊢
 replace hr2 := Lib.hid hr2
 clear hI hZ
 have Ac := kc2 HBA; have FAc := kc3 HBFA
 have hI := i01_0 w2 w4
 go_upto_region 7 with (fail)
 clear Ac FAc
 generalize ee : World.alloc w4 _ = w5_1
 have hq1 := sizeA ee
 replace HF := fA HF ee
 replace HBA := bA HBA ee
 replace HBFA := bA HBFA ee
 replace HMd1 := mA HMd1 ee
 replace HMr1 := mA HMr1 ee
 replace HMd2 := mA HMd2 ee
 replace HMr2 := mA HMr2 ee
 have HBB := nB ee (w4.heap.size)
 clear ee
 generalize ee : World.alloc w5_1 _ = w5
 have hq2 := sizeA ee
 replace HF := fA HF ee
 replace HBA := bA HBA ee
 replace HBFA := bA HBFA ee
 replace HBB := bA HBB ee
 replace HMd1 := mA HMd1 ee
 replace HMr1 := mA HMr1 ee
 replace HMd2 := mA HMd2 ee
 replace HMr2 := mA HMr2 ee
 have HBFB := nB ee (w4.heap.size + 1)
 clear ee
 have hsa5 : w5.heap.size = w4.heap.size + 2 := by omega
 clear hq1 hq2
 clear hI
 have Ac := kc2 HBA; have FAc := kc3 HBFA; have Bc := kc2 HBB; have FBc := kc3 HBFB
 have hI := i01_01_0 w2 w4 w5
 have hZ := i01_012 w2 w4
 have iq1 : ¬ (9223372036854775807 < a.size + 1) := by omega
 have iq2 : ¬ (9223372036854775807 < a.size + 1 + b.size) := by omega
 go_wp2_with (fail)
 try rw [hS0]
 clear Ac FAc Bc FBc
 refine (mparse_one S _ (hS1)).mono ?_
 rintro _ w6 ⟨p3, n3, k3, q3, m3, l3, rfl, hb, hm, hm2⟩
 replace HBA := kB HBA hb
 replace HBFA := kB HBFA hb
 replace HBB := kB HBB hb
 replace HBFB := kB HBFB hb
 replace HMd1 := kM HMd1 hb
 replace HMr1 := kM HMr1 hb
 replace HMd2 := kM HMd2 hb
 replace HMr2 := kM HMr2 hb
 replace HF := kF HF hb
 have hs6 := hb.size
 clear hb
 have HMd3 := Lib.hid hm
 have HMr3 := Lib.hid hm2
 clear hm hm2
 obtain ⟨r3, hr3⟩ : ∃ r, modE S = r := ⟨_, rfl⟩
 rw [hr3] at HMd3 HMr3 ⊢
 replace hr3 := Lib.hid hr3
 clear hI hZ
 have Ac := kc2 HBA; have FAc := kc3 HBFA; have Bc := kc2 HBB; have FBc := kc3 HBFB
 have hI := i01_01_0 w2 w4 w6
 go_upto_region 8 with (fail)
 clear Ac FAc Bc FBc
 generalize ee : World.alloc w6 _ = w7_1
 have hq1 := sizeA ee
 replace HF := fA HF ee
 replace HBA := bA HBA ee
 replace HBFA := bA HBFA ee
 replace HBB := bA HBB ee
 replace HBFB := bA HBFB ee
 replace HMd1 := mA HMd1 ee
 replace HMr1 := mA HMr1 ee
 replace HMd2 := mA HMd2 ee
 replace HMr2 := mA HMr2 ee
 replace HMd3 := mA HMd3 ee
 replace HMr3 := mA HMr3 ee
 have HBJ := nB ee (w6.heap.size)
 clear ee
 generalize ee : World.alloc w7_1 _ = w7
 have hq2 := sizeA ee
 replace HF := fA HF ee
 replace HBA := bA HBA ee
 replace HBFA := bA HBFA ee
 replace HBB := bA HBB ee
 replace HBFB := bA HBFB ee
 replace HBJ := bA HBJ ee
 replace HMd1 := mA HMd1 ee
 replace HMr1 := mA HMr1 ee
 replace HMd2 := mA HMd2 ee
 replace HMr2 := mA HMr2 ee
 replace HMd3 := mA HMd3 ee
 replace HMr3 := mA HMr3 ee
 have HBFJ := nB ee (w6.heap.size + 1)
 clear ee
 have hsa7 : w7.heap.size = w6.heap.size + 2 := by omega
 clear hq1 hq2
 clear hI
 have Ac := kc2 HBA; have FAc := kc3 HBFA; have Bc := kc2 HBB; have FBc := kc3 HBFB; have Jc := kc2 HBJ; have FJc := kc3 HBFJ
 have hI := chain7 w2.heap.size (w2.heap.size + 1) w4.heap.size (w4.heap.size + 1) w6.heap.size (w6.heap.size + 1) w7.heap.size
 have hZ := chain7 w2.heap.size (w2.heap.size + 1) w4.heap.size (w4.heap.size + 1) w6.heap.size (w6.heap.size + 1) (w6.heap.size + 2)
 by_cases hk1 : r1.k = 0
 rotate_left
 ·
  have hk : (r1.k != 0) = true := by simpa using hk1
  go_wp2_with (fail)
  go_ret
  exact ⟨rfl, belQ HF.out (Nat.le_refl _) (Nat.le_refl _)⟩
 have hk : (r1.k != 0) = false := by simpa using hk1
 by_cases hk2 : r2.k = 0
 rotate_left
 ·
  have hkb : (r2.k != 0) = true := by simpa using hk2
  go_wp2_with (fail)
  go_ret
  exact ⟨rfl, belQ HF.out (Nat.le_refl _) (Nat.le_refl _)⟩
 have hkb : (r2.k != 0) = false := by simpa using hk2
 have hA0 : (modE a).k = 0 := by rw [hr1.out]; exact hk1
 have hB0 : (modE b).k = 0 := by rw [hr2.out]; exact hk2
 have hA1 := mod_zero hA0
 have hB1 := mod_zero hB0
 have hA2 := mod_cnt hA1
 have hB2 := mod_cnt hB1
 have hA3 := mod_len hA1
 have hB3 := mod_len hB1
 obtain ⟨ds, rs, hJ1, HDD, HRR⟩ := mod_join a b S (by omega) (by omega) HS2.out hA1 hB1
 rw [hr1.out] at hA1 hA2 hA3 HDD HRR
 rw [hr2.out] at hB1 hB2 hB3 HDD HRR
 rw [hr3.out] at hJ1
 subst hJ1
 generalize r1.ds = d1 at HMd1 hA2 hA3 HDD
 generalize r1.rs = e1 at HMr1 hA2 hA3 HRR
 generalize r2.ds = d2 at HMd2 hB2 hB3 HDD
 generalize r2.rs = e2 at HMr2 hB2 hB3 HRR
 have hsz1 : d1.length + d2.length ≤ 10000 := by omega
 have hsz2 : e1.length + e2.length ≤ 10000 := by omega
 have hcA : e1.length + cntD d1 ≤ 10000 := by omega
 have hcB : e2.length + cntD d2 ≤ 10000 := by omega
 have hcJ : rs.length + cntD ds = e1.length + cntD d1 + (e2.length + cntD d2) := by rw [← cntD_alike HDD, cntD_cat, ← HRR.len, List.length_append]; omega
 have HCJ := Lib.hid hcJ
 replace HDD := Lib.hid (HDD.flip.imp fun _ _ h => h.symm)
 replace HRR := Lib.hid (HRR.flip.imp fun _ _ h => h.symm)
 clear hA0 hB0 hA1 hB1 hA2 hB2 hA3 hB3 hr1 hr2 hr3 HS2 hk1 hk2 hcJ
 replace HMd3 : Hid (Mem _ _ (.s 5 (ds.map Da.row)) _) := HMd3
 replace HMr3 : Hid (Mem _ _ (.s 11 (rs.map Ru.row)) _) := HMr3
 clear Ac FAc Bc FBc Jc FJc
 clear hI hZ
 have Ac := kc2 HBA; have FAc := kc3 HBFA; have Bc := kc2 HBB; have FBc := kc3 HBFB; have Jc := kc2 HBJ; have FJc := kc3 HBFJ
 have hI := chain7 w2.heap.size (w2.heap.size + 1) w4.heap.size (w4.heap.size + 1) w6.heap.size (w6.heap.size + 1) w7.heap.size
 have hZ := chain7 w2.heap.size (w2.heap.size + 1) w4.heap.size (w4.heap.size + 1) w6.heap.size (w6.heap.size + 1) (w6.heap.size + 2)
 go_upto_region 10 with (fail)
 refine wp_region_held_drew (S := fun w' => Far (fun _ => False) (w7) w') (by kernel_rfl) (Far.of (below_drew _)) (fun hS50 => ?_)
 refine takeA 0 (v := ?_) rfl ?_ ?_
 rotate_left
 · (intro w hSw; (try dsimp only at hSw); replace Ac := Far.c2z Ac hSw (fun e => e); replace Bc := Far.c2z Bc hSw (fun e => e); go_simp; try with_reducible rfl)
 try simp only [Act.put, pu1, pu2, pu3]
 refine takeA 1 (v := ?_) rfl ?_ ?_
 rotate_left
 · (intro w hSw; (try dsimp only at hSw); replace Ac := Far.c2z Ac hSw (fun e => e); replace Bc := Far.c2z Bc hSw (fun e => e); go_simp; try with_reducible rfl)
 try simp only [Act.put, pu1, pu2, pu3]
 refine takeA 3 (v := ?_) rfl ?_ ?_
 rotate_left
 · (intro w hSw; (try dsimp only at hSw); replace Ac := Far.c2z Ac hSw (fun e => e); replace Bc := Far.c2z Bc hSw (fun e => e); go_simp; try with_reducible rfl)
 try simp only [Act.put, pu1, pu2, pu3]
 refine takeA 4 (v := ?_) rfl ?_ ?_
 rotate_left
 · (intro w hSw; (try dsimp only at hSw); replace Ac := Far.c2z Ac hSw (fun e => e); replace Bc := Far.c2z Bc hSw (fun e => e); go_simp; try with_reducible rfl)
 try simp only [Act.put, pu1, pu2, pu3]
 refine takeA 6 (v := ?_) rfl ?_ ?_
 rotate_left
 · (intro w hSw; (try dsimp only at hSw); replace Ac := Far.c2z Ac hSw (fun e => e); replace Bc := Far.c2z Bc hSw (fun e => e); go_simp; try with_reducible rfl)
 try simp only [Act.put, pu1, pu2, pu3]
 refine takeA 7 (v := ?_) rfl ?_ ?_
 rotate_left
 · (intro w hSw; (try dsimp only at hSw); replace Ac := Far.c2z Ac hSw (fun e => e); replace Bc := Far.c2z Bc hSw (fun e => e); go_simp; try with_reducible rfl)
 try simp only [Act.put, pu1, pu2, pu3]
 refine takeA 9 (v := ?_) rfl ?_ ?_
 rotate_left
 · (intro w hSw; (try dsimp only at hSw); replace Ac := Far.c2z Ac hSw (fun e => e); replace Bc := Far.c2z Bc hSw (fun e => e); go_simp; try with_reducible rfl)
 try simp only [Act.put, pu1, pu2, pu3]
 refine takeA 10 (v := ?_) rfl ?_ ?_
 rotate_left
 · (intro w hSw; (try dsimp only at hSw); replace Ac := Far.c2z Ac hSw (fun e => e); replace Bc := Far.c2z Bc hSw (fun e => e); go_simp; try with_reducible rfl)
 try simp only [Act.put, pu1, pu2, pu3]

 have HJ := Lib.hid (JS.start (below_drew w7) 63 91 52 5 11 #[.slice none 0 0, .slice none 0 0])
 generalize World.drew w7 = v0 at HJ ⊢
 refine twoL 2 13 rfl rfl (by kernel_rfl) (by rfl) (by rfl) (fun K hK => ?_) (fun K hK => ?_)
 focus
  refine wp_append_Z _ _ (by rfl) Try.underlying49 info_datM rfl (by decide) (by rfl) (by rfl) HJ.out.d (HJ.out.apartD (memT HMd1.out rfl)) (by simp only [List.length_map, List.length_nil]; omega) (by simp only [List.length_map, List.length_nil]; omega) HJ.out.be.size (fun yd1 v1 ho hg hv => ?_)
  replace HJ := Lib.hid (HJ.out.growD ho hg hv)
  clear ho hg hv
  obtain ⟨da1, dm1, dc1, rfl⟩ := mem_slice HJ.out.d.mem
  refine hK.out _ _ (Far.of HJ.out.be) (fun hS60 => ?_)
  clear hK K
  refine twoL 5 13 rfl rfl (by kernel_rfl) (by rfl) (by rfl) (fun K hK => ?_) (fun K hK => ?_)
  focus
   refine wp_append_Z _ _ (by rfl) Try.underlying49 info_datM rfl (by decide) (by rfl) (by rfl) HJ.out.d (HJ.out.apartD (memT HMd2.out rfl)) (by simp only [List.length_append, List.length_map, List.length_nil]; omega) (by simp only [List.length_append, List.length_map, List.length_nil]; omega) HJ.out.be.size (fun yd2 v2 ho hg hv => ?_)
   replace HJ := Lib.hid (HJ.out.growD ho hg hv)
   clear ho hg hv
   obtain ⟨da2, dm2, dc2, rfl⟩ := mem_slice HJ.out.d.mem
   refine hK.out _ _ (Far.of HJ.out.be) (fun hS61 => ?_)
   clear hK K
   refine twoL 8 13 rfl rfl (by kernel_rfl) (by rfl) (by rfl) (fun K hK => ?_) (fun K hK => ?_)
   focus
    refine wp_append_Z _ _ (by rfl) Try.underlying50 info_rulM rfl (by decide) (by rfl) (by rfl) HJ.out.r (HJ.out.apartR (memT HMr1.out rfl)) (by simp only [List.length_map, List.length_nil]; omega) (by simp only [List.length_map, List.length_nil]; omega) HJ.out.be.size (fun yr1 v3 ho hg hv => ?_)
    replace HJ := Lib.hid (HJ.out.growR ho hg hv)
    clear ho hg hv
    obtain ⟨ra1, rm1, rc1, rfl⟩ := mem_slice HJ.out.r.mem
    refine hK.out _ _ (Far.of HJ.out.be) (fun hS62 => ?_)
    clear hK K
    refine twoL 11 13 rfl rfl (by kernel_rfl) (by rfl) (by rfl) (fun K hK => ?_) (fun K hK => ?_)
    focus
     refine wp_append_Z _ _ (by rfl) Try.underlying50 info_rulM rfl (by decide) (by rfl) (by rfl) HJ.out.r (HJ.out.apartR (memT HMr2.out rfl)) (by simp only [List.length_append, List.length_map, List.length_nil]; omega) (by simp only [List.length_append, List.length_map, List.length_nil]; omega) HJ.out.be.size (fun yr2 v4 ho hg hv => ?_)
     replace HJ := Lib.hid (HJ.out.growR ho hg hv)
     clear ho hg hv
     obtain ⟨ra2, rm2, rc2, rfl⟩ := mem_slice HJ.out.r.mem
     refine hK.out _ _ (Far.of HJ.out.be) (fun hS63 => ?_)
     clear hK K
     refine takeA 12 (v := ?_) rfl ?_ ?_
     rotate_left
     · (intro w hSw; (try dsimp only at hSw); go_simp; try with_reducible rfl)
     try simp only [Act.put, pu1, pu2, pu3]
     refine callA 13 rfl fun K hK => ?_
     go_simp
     refine hK.out _ _ (Far.of HJ.out.alloc.be) (fun hS64 => ?_)
     clear hK K
     replace HJ := Lib.hid HJ.out.alloc
     obtain ⟨g, hg⟩ : ∃ g, v4.heap.size = g := ⟨_, rfl⟩
     rw [hg] at HJ ⊢
     clear hg
     generalize World.alloc v4 _ = v5 at HJ ⊢
    rotate_left 1
    focus
     go_simp
     refine hK.out _ _ (Far.of HJ.out.alloc.be) (fun hS63 => ?_)
     clear hK K
     replace HJ := Lib.hid HJ.out.alloc
     obtain ⟨g, hg⟩ : ∃ g, v3.heap.size = g := ⟨_, rfl⟩
     rw [hg] at HJ ⊢
     clear hg
     generalize World.alloc v3 _ = v4 at HJ ⊢
     refine callA 11 rfl fun K hK => ?_
     refine wp_append_Z _ _ (by rfl) Try.underlying50 info_rulM rfl (by decide) (by rfl) (by rfl) HJ.out.r (HJ.out.apartR (memT HMr2.out rfl)) (by simp only [List.length_append, List.length_map, List.length_nil]; omega) (by simp only [List.length_append, List.length_map, List.length_nil]; omega) HJ.out.be.size (fun yr2 v5 ho hg hv => ?_)
     replace HJ := Lib.hid (HJ.out.growR ho hg hv)
     clear ho hg hv
     obtain ⟨ra2, rm2, rc2, rfl⟩ := mem_slice HJ.out.r.mem
     refine hK.out _ _ (Far.of HJ.out.be) (fun hS64 => ?_)
     clear hK K
     refine takeA 12 (v := ?_) rfl ?_ ?_
     rotate_left
     · (intro w hSw; (try dsimp only at hSw); go_simp; try with_reducible rfl)
     try simp only [Act.put, pu1, pu2, pu3]
   rotate_left 2
   focus
    go_simp
    refine hK.out _ _ (Far.of HJ.out.alloc.be) (fun hS62 => ?_)
    clear hK K
    replace HJ := Lib.hid HJ.out.alloc
    obtain ⟨g, hg⟩ : ∃ g, v2.heap.size = g := ⟨_, rfl⟩
    rw [hg] at HJ ⊢
    clear hg
    generalize World.alloc v2 _ = v3 at HJ ⊢
    refine callA 8 rfl fun K hK => ?_
    refine wp_append_Z _ _ (by rfl) Try.underlying50 info_rulM rfl (by decide) (by rfl) (by rfl) HJ.out.r (HJ.out.apartR (memT HMr1.out rfl)) (by simp only [List.length_map, List.length_nil]; omega) (by simp only [List.length_map, List.length_nil]; omega) HJ.out.be.size (fun yr1 v4 ho hg hv => ?_)
    replace HJ := Lib.hid (HJ.out.growR ho hg hv)
    clear ho hg hv
    obtain ⟨ra1, rm1, rc1, rfl⟩ := mem_slice HJ.out.r.mem
    refine hK.out _ _ (Far.of HJ.out.be) (fun hS63 => ?_)
    clear hK K
    refine callA 11 rfl fun K hK => ?_
    refine wp_append_Z _ _ (by rfl) Try.underlying50 info_rulM rfl (by decide) (by rfl) (by rfl) HJ.out.r (HJ.out.apartR (memT HMr2.out rfl)) (by simp only [List.length_append, List.length_map, List.length_nil]; omega) (by simp only [List.length_append, List.length_map, List.length_nil]; omega) HJ.out.be.size (fun yr2 v5 ho hg hv => ?_)
    replace HJ := Lib.hid (HJ.out.growR ho hg hv)
    clear ho hg hv
    obtain ⟨ra2, rm2, rc2, rfl⟩ := mem_slice HJ.out.r.mem
    refine hK.out _ _ (Far.of HJ.out.be) (fun hS64 => ?_)
    clear hK K
    refine takeA 12 (v := ?_) rfl ?_ ?_
    rotate_left
    · (intro w hSw; (try dsimp only at hSw); go_simp; try with_reducible rfl)
    try simp only [Act.put, pu1, pu2, pu3]
  rotate_left 3
  focus
   go_simp
   refine hK.out _ _ (Far.of HJ.out.alloc.be) (fun hS61 => ?_)
   clear hK K
   replace HJ := Lib.hid HJ.out.alloc
   obtain ⟨g, hg⟩ : ∃ g, v1.heap.size = g := ⟨_, rfl⟩
   rw [hg] at HJ ⊢
   clear hg
   generalize World.alloc v1 _ = v2 at HJ ⊢
   refine callA 5 rfl fun K hK => ?_
   refine wp_append_Z _ _ (by rfl) Try.underlying49 info_datM rfl (by decide) (by rfl) (by rfl) HJ.out.d (HJ.out.apartD (memT HMd2.out rfl)) (by simp only [List.length_append, List.length_map, List.length_nil]; omega) (by simp only [List.length_append, List.length_map, List.length_nil]; omega) HJ.out.be.size (fun yd2 v3 ho hg hv => ?_)
   replace HJ := Lib.hid (HJ.out.growD ho hg hv)
   clear ho hg hv
   obtain ⟨da2, dm2, dc2, rfl⟩ := mem_slice HJ.out.d.mem
   refine hK.out _ _ (Far.of HJ.out.be) (fun hS62 => ?_)
   clear hK K
   refine callA 8 rfl fun K hK => ?_
   refine wp_append_Z _ _ (by rfl) Try.underlying50 info_rulM rfl (by decide) (by rfl) (by rfl) HJ.out.r (HJ.out.apartR (memT HMr1.out rfl)) (by simp only [List.length_map, List.length_nil]; omega) (by simp only [List.length_map, List.length_nil]; omega) HJ.out.be.size (fun yr1 v4 ho hg hv => ?_)
   replace HJ := Lib.hid (HJ.out.growR ho hg hv)
   clear ho hg hv
   obtain ⟨ra1, rm1, rc1, rfl⟩ := mem_slice HJ.out.r.mem
   refine hK.out _ _ (Far.of HJ.out.be) (fun hS63 => ?_)
   clear hK K
   refine callA 11 rfl fun K hK => ?_
   refine wp_append_Z _ _ (by rfl) Try.underlying50 info_rulM rfl (by decide) (by rfl) (by rfl) HJ.out.r (HJ.out.apartR (memT HMr2.out rfl)) (by simp only [List.length_append, List.length_map, List.length_nil]; omega) (by simp only [List.length_append, List.length_map, List.length_nil]; omega) HJ.out.be.size (fun yr2 v5 ho hg hv => ?_)
   replace HJ := Lib.hid (HJ.out.growR ho hg hv)
   clear ho hg hv
   obtain ⟨ra2, rm2, rc2, rfl⟩ := mem_slice HJ.out.r.mem
   refine hK.out _ _ (Far.of HJ.out.be) (fun hS64 => ?_)
   clear hK K
   refine takeA 12 (v := ?_) rfl ?_ ?_
   rotate_left
   · (intro w hSw; (try dsimp only at hSw); go_simp; try with_reducible rfl)
   try simp only [Act.put, pu1, pu2, pu3]
 rotate_left 4
 focus
  go_simp
  refine hK.out _ _ (Far.of HJ.out.alloc.be) (fun hS60 => ?_)
  clear hK K
  replace HJ := Lib.hid HJ.out.alloc
  obtain ⟨g, hg⟩ : ∃ g, v0.heap.size = g := ⟨_, rfl⟩
  rw [hg] at HJ ⊢
  clear hg
  generalize World.alloc v0 _ = v1 at HJ ⊢
  refine callA 2 rfl fun K hK => ?_
  refine wp_append_Z _ _ (by rfl) Try.underlying49 info_datM rfl (by decide) (by rfl) (by rfl) HJ.out.d (HJ.out.apartD (memT HMd1.out rfl)) (by simp only [List.length_map, List.length_nil]; omega) (by simp only [List.length_map, List.length_nil]; omega) HJ.out.be.size (fun yd1 v2 ho hg hv => ?_)
  replace HJ := Lib.hid (HJ.out.growD ho hg hv)
  clear ho hg hv
  obtain ⟨da1, dm1, dc1, rfl⟩ := mem_slice HJ.out.d.mem
  refine hK.out _ _ (Far.of HJ.out.be) (fun hS61 => ?_)
  clear hK K
  refine callA 5 rfl fun K hK => ?_
  refine wp_append_Z _ _ (by rfl) Try.underlying49 info_datM rfl (by decide) (by rfl) (by rfl) HJ.out.d (HJ.out.apartD (memT HMd2.out rfl)) (by simp only [List.length_append, List.length_map, List.length_nil]; omega) (by simp only [List.length_append, List.length_map, List.length_nil]; omega) HJ.out.be.size (fun yd2 v3 ho hg hv => ?_)
  replace HJ := Lib.hid (HJ.out.growD ho hg hv)
  clear ho hg hv
  obtain ⟨da2, dm2, dc2, rfl⟩ := mem_slice HJ.out.d.mem
  refine hK.out _ _ (Far.of HJ.out.be) (fun hS62 => ?_)
  clear hK K
  refine callA 8 rfl fun K hK => ?_
  refine wp_append_Z _ _ (by rfl) Try.underlying50 info_rulM rfl (by decide) (by rfl) (by rfl) HJ.out.r (HJ.out.apartR (memT HMr1.out rfl)) (by simp only [List.length_map, List.length_nil]; omega) (by simp only [List.length_map, List.length_nil]; omega) HJ.out.be.size (fun yr1 v4 ho hg hv => ?_)
  replace HJ := Lib.hid (HJ.out.growR ho hg hv)
  clear ho hg hv
  obtain ⟨ra1, rm1, rc1, rfl⟩ := mem_slice HJ.out.r.mem
  refine hK.out _ _ (Far.of HJ.out.be) (fun hS63 => ?_)
  clear hK K
  refine callA 11 rfl fun K hK => ?_
  refine wp_append_Z _ _ (by rfl) Try.underlying50 info_rulM rfl (by decide) (by rfl) (by rfl) HJ.out.r (HJ.out.apartR (memT HMr2.out rfl)) (by simp only [List.length_append, List.length_map, List.length_nil]; omega) (by simp only [List.length_append, List.length_map, List.length_nil]; omega) HJ.out.be.size (fun yr2 v5 ho hg hv => ?_)
  replace HJ := Lib.hid (HJ.out.growR ho hg hv)
  clear ho hg hv
  obtain ⟨ra2, rm2, rc2, rfl⟩ := mem_slice HJ.out.r.mem
  refine hK.out _ _ (Far.of HJ.out.be) (fun hS64 => ?_)
  clear hK K
  refine takeA 12 (v := ?_) rfl ?_ ?_
  rotate_left
  · (intro w hSw; (try dsimp only at hSw); go_simp; try with_reducible rfl)
  try simp only [Act.put, pu1, pu2, pu3]

 all_goals (
  clear Ac FAc Bc FBc Jc FJc
  clear hI hZ
  have mc := (HJ.out.m g rfl).1.c2z
  refine callA 14 rfl fun K hK => ?_
  obtain ⟨be, hbg, hmd, hmr⟩ := HJ.out.fin (.slice da2 dm2 dc2) (.slice ra2 rm2 rc2)
  go_simp
  refine hK.out _ _ (Far.of be) (fun hS70 => ?_)
  clear hK K mc
  have hg0 := (HJ.out.m g rfl).2.1
  have HBM := Lib.hid hbg
  have HMM := Lib.hid hmd
  have HNN := Lib.hid hmr
  clear hbg hmd hmr HJ
  generalize ee : World.setCell _ ⟨g, 1, none⟩ _ = v6 at be HBM HMM HNN hS70 ⊢
  clear ee
  refine wpAnyH_done (by kernel_rfl) ?_ _
  have hb := be
  clear be
  replace HBA := kB HBA hb
  replace HBFA := kB HBFA hb
  replace HBB := kB HBB hb
  replace HBFB := kB HBFB hb
  replace HBJ := kB HBJ hb
  replace HBFJ := kB HBFJ hb
  replace HMd1 := kM HMd1 hb
  replace HMr1 := kM HMr1 hb
  replace HMd2 := kM HMd2 hb
  replace HMr2 := kM HMr2 hb
  replace HMd3 := kM HMd3 hb
  replace HMr3 := kM HMr3 hb
  replace HF := kF HF hb
  have hs8 := hb.size
  clear hb
  have hgl := HBM.out.lt
  have Ac := kc2 HBA; have FAc := kc3 HBFA; have Bc := kc2 HBB; have FBc := kc3 HBFB; have Jc := kc2 HBJ; have FJc := kc3 HBFJ; have Mc := kc2 HBM
  have hI := chain8 w2.heap.size (w2.heap.size + 1) w4.heap.size (w4.heap.size + 1) w6.heap.size (w6.heap.size + 1) g v6.heap.size
  go_upto_region 11 with (fail)
  have q1 : MemW v6.drew (.s 5 (ds.map Da.row)) (.slice p3 n3 k3) := HMd3.out.mono (fun _ hb => hb.2) fun _ _ => rfl
  have q2 : MemW v6.drew (.s 11 (rs.map Ru.row)) (.slice q3 m3 l3) := HMr3.out.mono (fun _ hb => hb.2) fun _ _ => rfl
  have q3 : MemW v6.drew (.s 5 ((d1 ++ d2).map Da.row)) (.slice da2 dm2 dc2) := by have h := HMM.out.mono (w' := v6.drew) (fun _ hb => hb) fun _ _ => rfl; rw [List.map_append]; exact h
  have q4 : MemW v6.drew (.s 11 ((e1 ++ e2).map Ru.row)) (.slice ra2 rm2 rc2) := by have h := HNN.out.mono (w' := v6.drew) (fun _ hb => hb) fun _ _ => rfl; rw [List.map_append]; exact h
  have HSM := Lib.hid (same_mod HDD.out HRR.out _ _ _ _ _ _ _ _ _ _ _ _ _ q1 q2 q3 q4)
  clear q1 q2 q3 q4 HMM HNN
  have hln1 := HMd3.out.len.1
  have hln2 := HMr3.out.len.1
  have hln3 := HMr1.out.len.1
  have hln4 := HMr2.out.len.1
  rw [List.length_map] at hln1 hln2 hln3 hln4
  refine wp_region_held_drew (S := fun w' => Far (fun _ => False) (v6) w') (by kernel_rfl) (Far.of (below_drew _)) (fun hS80 => ?_)
  refine takeA 0 (v := ?_) rfl ?_ ?_
  rotate_left
  · (intro w hSw; (try dsimp only at hSw); replace Jc := Far.c2z Jc hSw (fun e => e); replace FJc := Far.c3z FJc hSw (fun e => e); replace Mc := Far.c2z Mc hSw (fun e => e); replace Ac := Far.c2z Ac hSw (fun e => e); replace Bc := Far.c2z Bc hSw (fun e => e); go_simp; try with_reducible rfl)
  try simp only [Act.put, pu1, pu2, pu3]
  refine takeA 1 (v := ?_) rfl ?_ ?_
  rotate_left
  · (intro w hSw; (try dsimp only at hSw); replace Jc := Far.c2z Jc hSw (fun e => e); replace FJc := Far.c3z FJc hSw (fun e => e); replace Mc := Far.c2z Mc hSw (fun e => e); replace Ac := Far.c2z Ac hSw (fun e => e); replace Bc := Far.c2z Bc hSw (fun e => e); go_simp; try with_reducible rfl)
  try simp only [Act.put, pu1, pu2, pu3]
  refine takeA 2 (v := ?_) rfl ?_ ?_
  rotate_left
  · (intro w hSw; (try dsimp only at hSw); replace Jc := Far.c2z Jc hSw (fun e => e); replace FJc := Far.c3z FJc hSw (fun e => e); replace Mc := Far.c2z Mc hSw (fun e => e); replace Ac := Far.c2z Ac hSw (fun e => e); replace Bc := Far.c2z Bc hSw (fun e => e); go_simp; try with_reducible rfl)
  try simp only [Act.put, pu1, pu2, pu3]
  refine takeA 3 (v := ?_) rfl ?_ ?_
  rotate_left
  · (intro w hSw; (try dsimp only at hSw); replace Jc := Far.c2z Jc hSw (fun e => e); replace FJc := Far.c3z FJc hSw (fun e => e); replace Mc := Far.c2z Mc hSw (fun e => e); replace Ac := Far.c2z Ac hSw (fun e => e); replace Bc := Far.c2z Bc hSw (fun e => e); go_simp; try with_reducible rfl)
  try simp only [Act.put, pu1, pu2, pu3]
  refine takeA 4 (v := ?_) rfl ?_ ?_
  rotate_left
  · (intro w hSw; (try dsimp only at hSw); replace Jc := Far.c2z Jc hSw (fun e => e); replace FJc := Far.c3z FJc hSw (fun e => e); replace Mc := Far.c2z Mc hSw (fun e => e); replace Ac := Far.c2z Ac hSw (fun e => e); replace Bc := Far.c2z Bc hSw (fun e => e); go_simp; try with_reducible rfl)
  try simp only [Act.put, pu1, pu2, pu3]
  refine takeA 5 (v := ?_) rfl ?_ ?_
  rotate_left
  · (intro w hSw; (try dsimp only at hSw); replace Jc := Far.c2z Jc hSw (fun e => e); replace FJc := Far.c3z FJc hSw (fun e => e); replace Mc := Far.c2z Mc hSw (fun e => e); replace Ac := Far.c2z Ac hSw (fun e => e); replace Bc := Far.c2z Bc hSw (fun e => e); go_simp; try with_reducible rfl)
  try simp only [Act.put, pu1, pu2, pu3]

  refine callA 6 rfl fun K hK => ?_
  go_simp
  refine (HSM.out).mono ?_
  rintro e wx81 ⟨rfl, hb⟩
  have hbk := hb
  replace hb := Below.one hb
  replace HBA := kB HBA hb
  replace HBFA := kB HBFA hb
  replace HBB := kB HBB hb
  replace HBFB := kB HBFB hb
  replace HBJ := kB HBJ hb
  replace HBFJ := kB HBFJ hb
  replace HBM := kB HBM hb
  replace HMd1 := kM HMd1 hb
  replace HMr1 := kM HMr1 hb
  replace HMd2 := kM HMd2 hb
  replace HMr2 := kM HMr2 hb
  replace HMd3 := kM HMd3 hb
  replace HMr3 := kM HMr3 hb
  replace HF := kF HF hb
  have hs81 := hb.size
  clear hb
  go_simp
  refine hK.out _ _ ?_ (fun hS81 => ?_)
  · exact Far.trans hS80 (Far.of hbk)
  clear hK K

  refine takeA 7 (v := ?_) rfl ?_ ?_
  rotate_left
  · (intro w hSw; (try dsimp only at hSw); replace Jc := Far.c2z Jc hSw (fun e => e); replace FJc := Far.c3z FJc hSw (fun e => e); replace Mc := Far.c2z Mc hSw (fun e => e); replace Ac := Far.c2z Ac hSw (fun e => e); replace Bc := Far.c2z Bc hSw (fun e => e); go_simp; try with_reducible rfl)
  try simp only [Act.put, pu1, pu2, pu3]
  refine takeA 8 (v := ?_) rfl ?_ ?_
  rotate_left
  · (intro w hSw; (try dsimp only at hSw); replace Jc := Far.c2z Jc hSw (fun e => e); replace FJc := Far.c3z FJc hSw (fun e => e); replace Mc := Far.c2z Mc hSw (fun e => e); replace Ac := Far.c2z Ac hSw (fun e => e); replace Bc := Far.c2z Bc hSw (fun e => e); go_simp; try with_reducible rfl)
  try simp only [Act.put, pu1, pu2, pu3]
  refine takeA 9 (v := ?_) rfl ?_ ?_
  rotate_left
  · (intro w hSw; (try dsimp only at hSw); replace Jc := Far.c2z Jc hSw (fun e => e); replace FJc := Far.c3z FJc hSw (fun e => e); replace Mc := Far.c2z Mc hSw (fun e => e); replace Ac := Far.c2z Ac hSw (fun e => e); replace Bc := Far.c2z Bc hSw (fun e => e); go_simp; try with_reducible rfl)
  try simp only [Act.put, pu1, pu2, pu3]
  refine takeA 11 (v := ?_) rfl ?_ ?_
  rotate_left
  · (intro w hSw; (try dsimp only at hSw); replace Jc := Far.c2z Jc hSw (fun e => e); replace FJc := Far.c3z FJc hSw (fun e => e); replace Mc := Far.c2z Mc hSw (fun e => e); replace Ac := Far.c2z Ac hSw (fun e => e); replace Bc := Far.c2z Bc hSw (fun e => e); go_simp; try with_reducible rfl)
  try simp only [Act.put, pu1, pu2, pu3]
  refine takeA 13 (v := ?_) rfl ?_ ?_
  rotate_left
  · (intro w hSw; (try dsimp only at hSw); replace Jc := Far.c2z Jc hSw (fun e => e); replace FJc := Far.c3z FJc hSw (fun e => e); replace Mc := Far.c2z Mc hSw (fun e => e); replace Ac := Far.c2z Ac hSw (fun e => e); replace Bc := Far.c2z Bc hSw (fun e => e); go_simp; try with_reducible rfl)
  try simp only [Act.put, pu1, pu2, pu3]

  have HSZ := Lib.hid (msize_any ds p3 n3 k3 q3 m3 l3 wx81 (HMd3.out.mono (fun _ hb => hb.2) fun _ _ => rfl) (by have := HCJ.out; omega))
  refine callA 10 rfl fun K hK => ?_
  go_simp
  refine (HSZ.out).mono ?_
  rintro e wx82 ⟨rfl, hb⟩
  have hbk := hb
  replace HBA := kB HBA hb
  replace HBFA := kB HBFA hb
  replace HBB := kB HBB hb
  replace HBFB := kB HBFB hb
  replace HBJ := kB HBJ hb
  replace HBFJ := kB HBFJ hb
  replace HBM := kB HBM hb
  replace HMd1 := kM HMd1 hb
  replace HMr1 := kM HMr1 hb
  replace HMd2 := kM HMd2 hb
  replace HMr2 := kM HMr2 hb
  replace HMd3 := kM HMd3 hb
  replace HMr3 := kM HMr3 hb
  replace HF := kF HF hb
  have hs82 := hb.size
  clear hb
  clear HSZ
  go_simp
  refine hK.out _ _ ?_ (fun hS82 => ?_)
  · exact Far.trans hS81 (Far.of hbk)
  clear hK K

  have HSZ := Lib.hid (msize_any d1 p1 n1 k1 q1 m1 l1 wx82 (HMd1.out.mono (fun _ hb => hb.2) fun _ _ => rfl) (by omega))
  refine callA 12 rfl fun K hK => ?_
  go_simp
  refine (HSZ.out).mono ?_
  rintro e wx83 ⟨rfl, hb⟩
  have hbk := hb
  replace HBA := kB HBA hb
  replace HBFA := kB HBFA hb
  replace HBB := kB HBB hb
  replace HBFB := kB HBFB hb
  replace HBJ := kB HBJ hb
  replace HBFJ := kB HBFJ hb
  replace HBM := kB HBM hb
  replace HMd1 := kM HMd1 hb
  replace HMr1 := kM HMr1 hb
  replace HMd2 := kM HMd2 hb
  replace HMr2 := kM HMr2 hb
  replace HMd3 := kM HMd3 hb
  replace HMr3 := kM HMr3 hb
  replace HF := kF HF hb
  have hs83 := hb.size
  clear hb
  clear HSZ
  go_simp
  refine hK.out _ _ ?_ (fun hS83 => ?_)
  · exact Far.trans hS82 (Far.of hbk)
  clear hK K

  have HSZ := Lib.hid (msize_any d2 p2 n2 k2 q2 m2 l2 wx83 (HMd2.out.mono (fun _ hb => hb.2) fun _ _ => rfl) (by omega))
  refine callA 14 rfl fun K hK => ?_
  go_simp
  refine (HSZ.out).mono ?_
  rintro e wx84 ⟨rfl, hb⟩
  have hbk := hb
  replace HBA := kB HBA hb
  replace HBFA := kB HBFA hb
  replace HBB := kB HBB hb
  replace HBFB := kB HBFB hb
  replace HBJ := kB HBJ hb
  replace HBFJ := kB HBFJ hb
  replace HBM := kB HBM hb
  replace HMd1 := kM HMd1 hb
  replace HMr1 := kM HMr1 hb
  replace HMd2 := kM HMd2 hb
  replace HMr2 := kM HMr2 hb
  replace HMd3 := kM HMd3 hb
  replace HMr3 := kM HMr3 hb
  replace HF := kF HF hb
  have hs84 := hb.size
  clear hb
  clear HSZ
  go_simp
  refine hK.out _ _ ?_ (fun hS84 => ?_)
  · exact Far.trans hS83 (Far.of hbk)
  clear hK K

  have hc2 := HCJ.out
  rw [hln2, hln3, hln4] at hc2
  rw [hln3] at hcA
  rw [hln4] at hcB
  have hw9 : IntKind.i64.wrap ((m1 : Int) + (cntD d1 : Int) + ((m2 : Int) + (cntD d2 : Int))) = (m1 : Int) + (cntD d1 : Int) + ((m2 : Int) + (cntD d2 : Int)) := by rw [IntKind.wrap_i64]; omega
  have hfin : ((Md1.ok ds rs).k == 0 && ((m3 : Int) + (cntD ds : Int) == IntKind.i64.wrap ((m1 : Int) + (cntD d1 : Int) + ((m2 : Int) + (cntD d2 : Int))))) = true := by rw [hw9]; simp only [Md1.k, beq_self_eq_true, Bool.true_and, beq_iff_eq]; omega
  have HFIN := Lib.hid hfin
  clear hw9 hfin hc2
  refine takeA 15 (v := ?_) rfl ?_ ?_
  rotate_left
  · (intro w hSw; (try dsimp only at hSw); replace Jc := Far.c2z Jc hSw (fun e => e); replace FJc := Far.c3z FJc hSw (fun e => e); replace Mc := Far.c2z Mc hSw (fun e => e); replace Ac := Far.c2z Ac hSw (fun e => e); replace Bc := Far.c2z Bc hSw (fun e => e); go_simp; try with_reducible rfl)
  try simp only [Act.put, pu1, pu2, pu3]
  refine takeA 16 (v := ?_) rfl ?_ ?_
  rotate_left
  · (intro w hSw; (try dsimp only at hSw); replace Jc := Far.c2z Jc hSw (fun e => e); replace FJc := Far.c3z FJc hSw (fun e => e); replace Mc := Far.c2z Mc hSw (fun e => e); replace Ac := Far.c2z Ac hSw (fun e => e); replace Bc := Far.c2z Bc hSw (fun e => e); go_simp; try with_reducible rfl)
  try simp only [Act.put, pu1, pu2, pu3]
  refine takeA 17 (v := ?_) rfl ?_ ?_
  rotate_left
  · (intro w hSw; (try dsimp only at hSw); replace Jc := Far.c2z Jc hSw (fun e => e); replace FJc := Far.c3z FJc hSw (fun e => e); replace Mc := Far.c2z Mc hSw (fun e => e); replace Ac := Far.c2z Ac hSw (fun e => e); replace Bc := Far.c2z Bc hSw (fun e => e); go_simp; try with_reducible rfl)
  try simp only [Act.put, pu1, pu2, pu3]
  refine takeA 18 (v := ?_) rfl ?_ ?_
  rotate_left
  · (intro w hSw; (try dsimp only at hSw); replace Jc := Far.c2z Jc hSw (fun e => e); replace FJc := Far.c3z FJc hSw (fun e => e); replace Mc := Far.c2z Mc hSw (fun e => e); replace Ac := Far.c2z Ac hSw (fun e => e); replace Bc := Far.c2z Bc hSw (fun e => e); go_simp; try with_reducible rfl)
  try simp only [Act.put, pu1, pu2, pu3]
  refine wpAnyH_done (by kernel_rfl) ?_ _

  go_wp2_with (fail)
  go_ret
  exact ⟨congrArg (fun b => Ending.returned (.bool b)) HFIN.out, belQ HF.out (Nat.le_refl _) (Nat.le_refl _)⟩)
end Go.Proofs.Ytcoiagfeoonpbaa
