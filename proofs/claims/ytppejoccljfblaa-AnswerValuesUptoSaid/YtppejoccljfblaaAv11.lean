/-
  slices.Clone at terms; a slice that a call has built, as a row that it may rearrange. No condition but how they lie, and how many there are.
-/
import Derived.Test.YtppejoccljfblaaAv10
import Derived.Lib.LazyBuf
import Derived.Test.YtppejoccljfblaaAv1
import Derived.Test.YtppejoccljfblaaAv3
import Derived.Deep.RegionHeld3
import Derived.Test.YtppejoccljfblaaAv2
import Derived.Test.YtppejoccljfblaaAv7
namespace Go.Proofs.Ytppejoccljfblaa
open Go.RowKit

theorem els_of {S : Nat → Prop} {w : World} {ts : List Tm} : ∀ {css : List (List Value)}, All2 (fun r cs => cs.length = 4 ∧ All2 (Mem S w) r cs) (Tm.rows ts) css → ∃ els : List El, els.map (·.t) = ts ∧ css = els.map (·.cells.toList) ∧ ∀ e ∈ els, Mem S w (.s 4 (Tm.rows e.t.args)) (.slice e.a e.n e.cap) := by
  induction ts with
  | nil =>
    intro css h
    rw [Tm.rows] at h
    cases h
    exact ⟨[], rfl, rfl, fun e he => by cases he⟩
  | cons t ts ih =>
    intro css h
    rw [Tm.rows] at h
    cases h with
    | cons h0 h1 =>
      obtain ⟨a, n, cap, e0, hm⟩ := row_cells h0.2
      obtain ⟨els, e1, e2, hmem⟩ := ih h1
      refine ⟨⟨t, a, n, cap⟩ :: els, by rw [List.map_cons, e1], by rw [List.map_cons, ← e2, e0]; rfl, fun e he => ?_⟩
      rcases List.mem_cons.1 he with rfl | he
      · exact hm
      · exact hmem e he
theorem ownD_ss {w : World} {B base : Nat} {y : Value} {ts : List Tm} (h : OwnD B base 96 4 w y (Tm.rows ts)) (hn : 0 < ts.length) :
    ∃ q cap d, y = .slice (some ⟨q, 0, none⟩) ts.length cap ∧ ts.length ≤ cap ∧ cap ≤ 9223372036854775807 ∧ base ≤ q ∧ d.size = ts.length ∧ d.toList.map (·.t) = ts ∧ SS w q 0 d w := by
  obtain ⟨css, h1, h2⟩ := h
  obtain ⟨els, e1, e2, hm⟩ := els_of h2
  have hle : els.length = ts.length := by rw [← e1, List.length_map]
  rw [Tm.rows_len] at h1
  have h1c := h1
  rcases h1.2 with ⟨rfl, h0⟩ | ⟨g, cap, cur, rfl, hb, hgg, hncap, hcap, hcs, htake⟩
  · omega
  · have hlt : g < w.heap.size := (Array.getElem?_eq_some_iff.1 hgg).1
    refine ⟨g, cap, els.toArray, rfl, hncap, by simpa [maxLen] using hcap, hb, by simpa using hle, by simpa using e1, ⟨hlt, grownBy_refl _ _, fun i hi j hj => ?_, fun i hi => ?_⟩⟩
    · have hi' : i < els.length := by simpa using hi
      have hci : i < css.length := by rw [e2, List.length_map]; exact hi'
      have hall : ∀ cs ∈ css, cs.length = 4 := fun cs hc => by
        rw [e2] at hc
        obtain ⟨e, _, rfl⟩ := List.mem_map.1 hc
        rfl
      have hcj : j < (css[i]).length := by rw [hall _ (List.getElem_mem hci)]; exact hj
      have hf := flat_at 4 css hall i j hci hcj
      have hlen := flat_len 4 css hall
      refine ⟨?_, frozen_of_row w g _ cur _ hgg⟩
      rw [World.ownsRow.cellAt h1c (0 + i * 4 + j) (by omega), Nat.zero_add, hf]
      have e3 : els.toArray[i]! = els[i] := by simp [hi']
      simp only [e3, e2, List.getElem_map]
      rfl
    · have hi' : i < els.length := by simpa using hi
      have e3 : els.toArray[i]! = els[i] := by simp [hi']
      rw [e3]
      exact (hm _ (List.getElem_mem hi')).mono (fun b hb => ⟨hb.1.2, fun e => hb.2 (by rw [e]; rfl)⟩) fun _ _ => rfl

theorem info_term5 : (Try.prog.info? 96).map (fun i => (i.zero, i.size, i.bytes)) = some (some (.agg #[.int .i64 0, .string .empty, .int .i64 0, .slice none 0 0]), 4, 56) := by kernel_rfl
set_option maxRecDepth 100000 in
set_option maxHeartbeats 2000000 in
theorem cloneT_any {ts : List Tm} {a : Option Addr} {n cap : Nat} (w : World) (h : Tms w ts a n cap) (hn : n ≤ 100000) :
    Calls Try.prog 110 #[.slice a n cap] w fun e w' => ∃ y, e = .returned y ∧ OwnD w.heap.size w.heap.size 96 4 w' y (Tm.rows ts) ∧ Below w.heap.size w w' := by
  have hl := h.len
  cases a with
  | none =>
    have h0 : ts = [] := by
      have hp := h
      cases ts with
      | nil => rfl
      | cons t ts => rw [Tms, MemW, Tm.rows] at hp; cases hp
    subst h0
    have hn0 : n = 0 := by have := hl.1; simpa using this.symm
    subst hn0
    have hq := fun W : World => run_eql_slice_nil (P := Try.prog) W 89 96 none 0 cap Try.underlying89
    simp only [Option.isNone_none] at hq
    clear h hl hn
    go_enter Try.func110, Try.ntmps110
    go_wp2
    go_ret
    exact ⟨_, rfl, OwnD.nil _ _ _ _ _, Below.refl _ _⟩
  | some ad =>
    have HW0 : Hid (OwnD w.heap.size w.heap.size 96 4 (w.alloc (.cells #[] 96)) (.slice (some ⟨w.heap.size, 0, none⟩) 0 0) []) := Lib.hid (OwnD.built (css := []) .nil (Nat.le_refl _) 0 rfl (by decide) _ rfl)
    have HM : Hid (Mem (fun b => Nw w.heap.size w.heap.size (w.alloc (.cells #[] 96)).heap.size b ∧ (Value.slice (some ⟨w.heap.size, 0, none⟩) 0 0).ownBlock ≠ some b) (w.alloc (.cells #[] 96)) (.s 4 (Tm.rows ts)) (.slice (some ad) n cap)) :=
      Lib.hid (HW0.out.old (Nat.le_refl _) (by rw [World.size_alloc]; omega) (Mem.keep h (Nat.le_refl _) (below_new w _)))
    have HN : Hid ((Tm.rows ts).length = n) := Lib.hid (by rw [Tm.rows_len]; exact hl.1)
    have hq := fun W : World => run_eql_slice_nil (P := Try.prog) W 89 96 (some ad) n cap Try.underlying89
    simp only [Option.isNone_some] at hq
    clear h hl
    go_enter Try.func110, Try.ntmps110
    go_wp2_with (first
      | (at_builtin
         refine wpList_append_D2 rfl _ _ rfl Try.underlying89 info_term5 rfl (by decide) rfl rfl HW0.out HM.out (by rw [HN.out, List.length_nil]; omega) (by rw [HN.out, List.length_nil]; omega) (by rw [World.size_alloc]; omega) ?_
         intro v' w6 ho hg _
         have HO := Lib.hid ho
         have HG := Lib.hid hg
         clear ho hg))
    go_ret
    exact ⟨_, rfl, by simpa using HO.out, grown_below (below_new w _) HG.out (Nat.le_refl _) (fun k hk => by cases hk; exact Nat.le_refl _)⟩
end Go.Proofs.Ytppejoccljfblaa

/-
  The two appends of the reference's Sort: a term ahead of a row's end, and both behind the row's start. No condition but how they lie, and how many they are.
-/
namespace Go.Proofs.Ytppejoccljfblaa
open Go.RowKit

theorem ownD_form3 {w : World} {B base : Nat} {e : TypeId} {sz n c : Nat} {a : Option Addr} {rs : List (List At)} (h : OwnD B base e sz w (.slice a n c) rs) : (a = none ∧ n = 0 ∧ c = 0 ∧ rs = []) ∨ ∃ g, a = some ⟨g, 0, none⟩ ∧ n = rs.length ∧ n ≤ c ∧ c ≤ 9223372036854775807 := by
  obtain ⟨css, h1, h2⟩ := h
  rcases h1.2 with ⟨e1, hn⟩ | ⟨g, cap, cur, e1, hb, hgg, hncap, hcap, hsz, htake⟩
  · injection e1 with e1 e2 e3
    exact .inl ⟨e1, e2, e3, List.eq_nil_of_length_eq_zero hn⟩
  · injection e1 with e1 e2 e3
    subst e1 e2 e3
    exact .inr ⟨g, rfl, rfl, hncap, by simpa [maxLen] using hcap⟩
theorem ownD_cases {w : World} {B base : Nat} {e : TypeId} {sz : Nat} {y : Value} {rs : List (List At)} (h : OwnD B base e sz w y rs) : (y = .slice none 0 0 ∧ rs = []) ∨ ∃ g cap, y = .slice (some ⟨g, 0, none⟩) rs.length cap ∧ rs.length ≤ cap ∧ cap ≤ 9223372036854775807 := by
  obtain ⟨css, h1, h2⟩ := h
  rcases h1.2 with ⟨rfl, hn⟩ | ⟨g, cap, cur, rfl, hb, hgg, hncap, hcap, hsz, htake⟩
  · exact .inl ⟨rfl, List.eq_nil_of_length_eq_zero hn⟩
  · exact .inr ⟨g, cap, rfl, hncap, by simpa [maxLen] using hcap⟩
theorem MemW.all {B : Nat} {w : World} {x : At} {y : Value} (h : MemW w x y) : Mem (Nw B B w.heap.size) w x y := h.mono (fun b hb => ⟨by omega, hb⟩) fun _ _ => rfl
theorem ins_app1 {W0 wx : World} {x : Tm} {ax : Option Addr} {nx capx : Nat} {rs : List (List At)} {a : Option Addr} {m c : Nat} (hD : Dr (W0.alloc (.cells #[.int .i64 x.kind, .string x.name, .int .i64 x.n, .slice ax nx capx] 96)) wx) {G : Nat} (hG : G = W0.heap.size)
    (hM : MemW W0 (.s 4 rs) (.slice a m c)) (hX : MemW W0 (.s 4 (Tm.rows x.args)) (.slice ax nx capx)) (hm : rs.length ≤ 1000) :
    ∃ v' w', (Builtin.append_ #[89, 89] 89 #[.slice (some ⟨G, 0, none⟩) 1 1, .slice a m c]).run Try.prog wx = .ok v' w' ∧ (∃ g1 c1, v' = .slice (some ⟨g1, 0, none⟩) (rs.length + 1) c1 ∧ MemW w' (.s 4 (x.row :: rs)) v' ∧ Below W0.heap.size W0 w') := by
  subst hG
  have hB0 : Below W0.heap.size W0 wx := hD.below (below_new W0 _)
  have hO : OwnD W0.heap.size W0.heap.size 96 4 wx (.slice (some ⟨W0.heap.size, 0, none⟩) 1 1) (Tm.rows [x]) := (tm_one x (MemW.all hX) (Nat.le_refl _)).grown (by rw [hD.1]; exact Nat.le_refl _) fun k _ => by rw [hD.1]
  have hsz : wx.heap.size = W0.heap.size + 1 := by rw [hD.1, World.size_alloc]
  obtain ⟨v', w', hr, h2, h3, _⟩ := run_append_D2 (P := Try.prog) 89 Try.underlying89 info_term5 rfl (by decide) hO (hM.mono (fun b hb => ⟨⟨by omega, by omega⟩, fun e => by injection e with e; simp only at e; omega⟩) fun b hb => hB0.block b hb) (by rw [Tm.rows_len]; simp only [List.length_cons, List.length_nil]; omega) (by rw [Tm.rows_len]; simp only [List.length_cons, List.length_nil]; omega) (by omega)
  refine ⟨v', w', hr, ?_⟩
  rcases ownD_cases h2 with ⟨rfl, e⟩ | ⟨g, cap, e, h4, h5⟩
  · rw [Tm.rows] at e; cases e
  · refine ⟨g, cap, by rw [e, List.length_append, Tm.rows_len]; simp [Nat.add_comm], by have := h2.memW; rwa [show Tm.rows [x] ++ rs = x.row :: rs by rw [Tm.rows, Tm.rows]; rfl] at this, grown_below hB0 h3 (Nat.le_refl _) fun k hk => by injection hk with hk; simp only at hk; omega⟩
theorem ins_app2 {W1 wx : World} {l1 l2 : List (List At)} {va : Option Addr} {i g1 m c1 base : Nat} (hD : Dr W1 wx) (hY : MemW W1 (.s 4 l1) (.slice va i i)) (hM : MemW W1 (.s 4 l2) (.slice (some ⟨g1, 0, none⟩) m c1)) (hm : 0 < m) (hn : i + m ≤ 1001) (hb : base ≤ W1.heap.size) :
    ∃ v' w', (Builtin.append_ #[89, 89] 89 #[.slice va i i, .slice (some ⟨g1, 0, none⟩) m c1]).run Try.prog wx = .ok v' w' ∧ (OwnD base base 96 4 w' v' (l1 ++ l2) ∧ Below W1.heap.size W1 w') := by
  have hB0 : Below W1.heap.size W1 wx := hD.below (Below.refl _ _)
  obtain ⟨v', w', hr, h2, h3, _⟩ := run_append_cut (P := Try.prog) 89 Try.underlying89 info_term5 rfl (by decide) (B := base) (base := base) (MemW.all (hY.keep hB0)) (MemW.all (hM.keep hB0)) hm (by omega) (by omega) (Nat.le_trans hb hB0.size)
  exact ⟨v', w', hr, h2, hB0.trans (h3.mono hB0.size)⟩
end Go.Proofs.Ytppejoccljfblaa

/-
  Answers in memory: binds, and a value. Plain lemmas. No condition.
-/
namespace Go.Proofs.Ytppejoccljfblaa
open Go.RowKit

structure Ans where
  binds : List Tm
  value : Tm
def Ans.row (x : Ans) : List At := .s 4 (Tm.rows x.binds) :: x.value.row
def Ans.all (x : Ans) : List Tm := x.binds ++ [x.value]
def ansRows (l : List Ans) : List (List At) := l.map Ans.row
theorem ansRows_len (l : List Ans) : (ansRows l).length = l.length := by simp [ansRows]
theorem ans_len {S : Nat → Prop} {w : World} {l : List Ans} {a : Option Addr} {n cap : Nat} (h : Mem S w (.s 5 (ansRows l)) (.slice a n cap)) : l.length = n ∧ n ≤ cap ∧ cap ≤ 9223372036854775807 := by
  have := Mem.len h; rw [ansRows_len] at this; exact this
theorem ans_at {S : Nat → Prop} {w : World} {l : List Ans} {a : Option Addr} {n cap : Nat} (h : Mem S w (.s 5 (ansRows l)) (.slice a n cap)) (i : Nat) (hi : i < n) :
    ∃ b o x ab nb cb a' n' cap', a = some ⟨b, o, none⟩ ∧ S b ∧ Hid (l[i]? = some x) ∧ w.cell? ⟨b, o + i * 5, none⟩ = some (.slice ab nb cb) ∧ w.cell? ⟨b, o + i * 5 + 1, none⟩ = some (.int .i64 x.value.kind) ∧ w.cell? ⟨b, o + i * 5 + 2, none⟩ = some (.string x.value.name) ∧ w.cell? ⟨b, o + i * 5 + 3, none⟩ = some (.int .i64 x.value.n) ∧ w.cell? ⟨b, o + i * 5 + 4, none⟩ = some (.slice a' n' cap') ∧ Hid (Mem S w (.s 4 (Tm.rows x.binds)) (.slice ab nb cb)) ∧ Hid (Mem S w (.s 4 (Tm.rows x.value.args)) (.slice a' n' cap')) := by
  have hl := h.len.1
  rw [ansRows_len] at hl
  have hi' : i < l.length := by omega
  obtain ⟨b, o, ha, hS, _, cs, h2, hc⟩ := Mem.at h i (by rw [ansRows_len]; exact hi')
  have e : (ansRows l)[i]'(by rw [ansRows_len]; exact hi') = (l[i]).row := by simp [ansRows]
  rw [e] at h2
  unfold Ans.row at h2
  cases h2 with
  | cons g0 h2 =>
    obtain ⟨ab, nb, cb, rfl, _⟩ := g0.parts
    obtain ⟨a', n', cap', rfl, h3⟩ := row_cells h2
    exact ⟨b, o, l[i], ab, nb, cb, a', n', cap', ha, hS, Lib.hid (List.getElem?_eq_getElem hi'), hc 0 (by simp), hc 1 (by simp), hc 2 (by simp), hc 3 (by simp), hc 4 (by simp), Lib.hid g0, Lib.hid h3⟩

/-- Whether answers are few, and small. -/
def fewA (l : List Ans) : Bool := l.all (fun x => fewB x.all) && decide (l.length ≤ 10)
theorem ans_app1 {W0 wx : World} {rs : List (List At)} {a : Option Addr} {m c : Nat} (hD : Dr W0 wx) (hM : MemW W0 (.s 4 rs) (.slice a m c)) (hm : rs.length ≤ 1048576) :
    ∃ v' w', (Builtin.append_ #[89, 89] 89 #[.slice none 0 0, .slice a m c]).run Try.prog wx = .ok v' w' ∧ (∃ a' c', v' = .slice a' rs.length c' ∧ OwnD W0.heap.size W0.heap.size 96 4 w' v' rs ∧ Below W0.heap.size W0 w') := by
  have hB0 : Below W0.heap.size W0 wx := hD.below (Below.refl _ _)
  have hs : wx.heap.size = W0.heap.size := by rw [hD.1]
  obtain ⟨v', w', hr, h2, h3, _⟩ := run_append_D2 (P := Try.prog) 89 Try.underlying89 info_term5 rfl (by decide) (OwnD.nil W0.heap.size W0.heap.size 96 4 wx) (hM.mono (fun b hb => ⟨⟨by omega, by rw [hs]; exact hb⟩, fun e => by cases e⟩) fun b hb => hB0.block b hb) (by simp only [List.length_nil]; omega) (by simp only [List.length_nil]; omega) (by omega)
  obtain ⟨a', c', rfl, _, _⟩ := h2.form
  refine ⟨_, w', hr, a', c', by simp, by simpa using h2, grown_below hB0 h3 (Nat.le_refl _) fun k hk => by cases hk⟩
theorem ans_app2 {W1 wx : World} {base : Nat} {x : Tm} {ax : Option Addr} {nx capx : Nat} {rs : List (List At)} {y : Value} (hD : Dr (W1.alloc (.cells #[.int .i64 x.kind, .string x.name, .int .i64 x.n, .slice ax nx capx] 96)) wx) {G : Nat} (hG : G = W1.heap.size)
    (hO : OwnD base base 96 4 W1 y rs) (hX : Mem (· < base) W1 (.s 4 (Tm.rows x.args)) (.slice ax nx capx)) (hb : base ≤ W1.heap.size) (hm : rs.length ≤ 1048576) :
    ∃ v' w', (Builtin.append_ #[89, 89] 89 #[y, .slice (some ⟨G, 0, none⟩) 1 1]).run Try.prog wx = .ok v' w' ∧ (∃ a' c', v' = .slice a' (rs.length + 1) c' ∧ MemW w' (.s 4 (rs ++ Tm.rows [x])) v' ∧ Below base W1 w') := by
  subst hG
  have hs : wx.heap.size = W1.heap.size + 1 := by rw [hD.1, World.size_alloc]
  have hB0 : Below W1.heap.size W1 wx := hD.below (below_new W1 _)
  have hO' : OwnD base base 96 4 wx y rs := hO.keep hB0
  have hO1 := own_one (e' := 96) x hO hb (hO.old (Nat.le_refl _) hb hX)
  have hM : Mem (fun b => Nw base base wx.heap.size b ∧ y.ownBlock ≠ some b) wx (.s 4 (Tm.rows [x])) (.slice (some ⟨W1.heap.size, 0, none⟩) 1 1) := hO1.mono (fun b hb => ⟨by rw [hs]; rw [World.size_alloc] at hb; exact hb.1, hb.2⟩) fun b _ => by rw [hD.1]
  obtain ⟨v', w', hr, h2, h3, _⟩ := run_append_D2 (P := Try.prog) 89 Try.underlying89 info_term5 rfl (by decide) hO' hM (by simp only [Tm.rows, List.length_cons, List.length_nil]; omega) (by simp only [Tm.rows, List.length_cons, List.length_nil]; omega) (by omega)
  obtain ⟨a', c', rfl, _, _⟩ := h2.form
  exact ⟨_, w', hr, a', c', by simp [Tm.rows], h2.memW, grown_below (hB0.mono hb) h3 hb fun k hk => (hO.lt k hk).1⟩
theorem ans_app3 {W1 wx : World} {base : Nat} {rs new : List (List At)} {y : Value} {a : Option Addr} {m c : Nat} (hD : Dr W1 wx) (hO : OwnD base base 96 4 W1 y rs) (hX : Mem (· < base) W1 (.s 4 new) (.slice a m c)) (hb : base ≤ W1.heap.size) (hm : rs.length + new.length ≤ 1048577) :
    ∃ v' w', (Builtin.append_ #[89, 89] 89 #[y, .slice a m c]).run Try.prog wx = .ok v' w' ∧ (∃ a' c', v' = .slice a' (rs.length + new.length) c' ∧ MemW w' (.s 4 (rs ++ new)) v' ∧ Below base W1 w') := by
  have hs : wx.heap.size = W1.heap.size := by rw [hD.1]
  have hB0 : Below W1.heap.size W1 wx := hD.below (Below.refl _ _)
  have hO' : OwnD base base 96 4 wx y rs := hO.keep hB0
  have hM : Mem (fun b => Nw base base wx.heap.size b ∧ y.ownBlock ≠ some b) wx (.s 4 new) (.slice a m c) := (hO.old (Nat.le_refl _) hb hX).mono (fun b hb => ⟨by rw [hs]; exact hb.1, hb.2⟩) fun b _ => by rw [hD.1]
  obtain ⟨v', w', hr, h2, h3, _⟩ := run_append_D2 (P := Try.prog) 89 Try.underlying89 info_term5 rfl (by decide) hO' hM (by omega) (by omega) (by omega)
  obtain ⟨a', c', rfl, _, _⟩ := h2.form
  exact ⟨_, w', hr, a', c', by rw [List.length_append], h2.memW, grown_below (hB0.mono hb) h3 hb fun k hk => (hO.lt k hk).1⟩
theorem one_mem {w : World} (x : Tm) {a : Option Addr} {n cap : Nat} (h : MemW w (.s 4 (Tm.rows x.args)) (.slice a n cap)) : MemW (w.alloc (.cells #[.int .i64 x.kind, .string x.name, .int .i64 x.n, .slice a n cap] 96)) (.s 4 (Tm.rows [x])) (.slice (some ⟨w.heap.size, 0, none⟩) 1 1) :=
  (tm_one x (MemW.all h) (Nat.le_refl _)).memW
end Go.Proofs.Ytppejoccljfblaa

/-
  The law's Few of answers. No condition but how they lie, and how great they are.
-/
namespace Go.Proofs.Ytppejoccljfblaa
open Go.RowKit

set_option maxRecDepth 100000 in
set_option maxHeartbeats 20000000 in
theorem few30_any {l : List Ans} {n cap : Nat} {a : Option Addr} (w : World) (h : MemW w (.s 5 (ansRows l)) (.slice a n cap)) (hs : ∀ x ∈ l, (Tm.alls x.all).length ≤ 1048576) :
    Calls Try.prog 68 #[.slice a n cap] w fun e w' => e = .returned (.bool (fewA l)) ∧ Below w.heap.size w w' := by
  have hl := ans_len h
  have HL := Lib.hid hl.1
  have hcap := hl.2.1
  have hmx := hl.2.2
  have H := Lib.hid h
  have HS := Lib.hid hs
  clear hl h hs
  go_enter Try.func68, Try.ntmps68
  go_wp2
  go_loopw [7] (fun i wr => ∃ k : Nat, k ≤ n ∧ i = .int .i64 k ∧ Hid ((l.take k).all (fun x => fewB x.all) = true) ∧ Hid (Below w.heap.size w wr)) (fun i _ => n - (intOf i).toNat)
  case atStart => exact ⟨0, Nat.zero_le _, rfl, Lib.hid (by rw [List.take_zero]; rfl), Lib.hid (Below.refl _ _)⟩
  case round =>
    obtain ⟨k, hk, rfl, HA, HB⟩ := hrel
    by_cases hlt : k < n
    · have hltz : (k : Int) < (n : Int) := by omega
      obtain ⟨b, o, x, ab, nb, cb, ax, nx, capx, rfl, hbB, Hx, x0, x1, x2, x3, x4, GB, GV⟩ := ans_at (MemW.keep H.out HB.out) k hlt
      have HSX := Lib.hid (HS.out x (mem_of_at Hx.out))
      have HBL : Hid ((Tm.rows x.binds).length ≤ 1048576) := Lib.hid (by
        have h1 := HSX.out
        have h2 := Tm.len_args x.all
        rw [Ans.all, List.length_append] at h2
        rw [Tm.rows_len]
        rw [Ans.all] at h1
        omega)
      have GB2 := Lib.hid (MemW.alloc GB.out (.cells #[.slice ab nb cb, .int .i64 x.value.kind, .string x.value.name, .int .i64 x.value.n, .slice ax nx capx] 103))
      have GV2 := Lib.hid (MemW.alloc GV.out (.cells #[.slice ab nb cb, .int .i64 x.value.kind, .string x.value.name, .int .i64 x.value.n, .slice ax nx capx] 103))
      have HBA := Lib.hid (HB.out.alloc HB.out.size (.cells #[.slice ab nb cb, .int .i64 x.value.kind, .string x.value.name, .int .i64 x.value.n, .slice ax nx capx] 103))
      have HLM : Hid (MemW ((wr.alloc (.cells #[.slice ab nb cb, .int .i64 x.value.kind, .string x.value.name, .int .i64 x.value.n, .slice ax nx capx] 103)).alloc (.cells #[.int .i64 x.value.kind, .string x.value.name, .int .i64 x.value.n, .slice ax nx capx] 96)) (.s 4 (Tm.rows [x.value])) (.slice (some ⟨wr.heap.size + 1, 0, none⟩) 1 1)) := Lib.hid (by have := one_mem x.value GV2.out; rw [World.size_alloc] at this; exact this)
      have HY := Lib.hid (Bo.new wr 103 #[.slice ab nb cb, .int .i64 x.value.kind, .string x.value.name, .int .i64 x.value.n, .slice ax nx capx])
      have z0 : (wr.alloc (.cells #[.slice ab nb cb, .int .i64 x.value.kind, .string x.value.name, .int .i64 x.value.n, .slice ax nx capx] 103)).cell? ⟨wr.heap.size, 0, none⟩ = some (.slice ab nb cb) := HY.out.cell (j := 0) rfl
      have z1 : (wr.alloc (.cells #[.slice ab nb cb, .int .i64 x.value.kind, .string x.value.name, .int .i64 x.value.n, .slice ax nx capx] 103)).cell? ⟨wr.heap.size, 1, none⟩ = some (.int .i64 x.value.kind) := HY.out.cell (j := 1) rfl
      have z2 : (wr.alloc (.cells #[.slice ab nb cb, .int .i64 x.value.kind, .string x.value.name, .int .i64 x.value.n, .slice ax nx capx] 103)).cell? ⟨wr.heap.size, 2, none⟩ = some (.string x.value.name) := HY.out.cell (j := 2) rfl
      have z3 : (wr.alloc (.cells #[.slice ab nb cb, .int .i64 x.value.kind, .string x.value.name, .int .i64 x.value.n, .slice ax nx capx] 103)).cell? ⟨wr.heap.size, 3, none⟩ = some (.int .i64 x.value.n) := HY.out.cell (j := 3) rfl
      have z4 : (wr.alloc (.cells #[.slice ab nb cb, .int .i64 x.value.kind, .string x.value.name, .int .i64 x.value.n, .slice ax nx capx] 103)).cell? ⟨wr.heap.size, 4, none⟩ = some (.slice ax nx capx) := HY.out.cell (j := 4) rfl
      have HT : Hid ((l.take (k + 1)).all (fun x => fewB x.all) = fewB x.all) := Lib.hid (by
        rw [take_at Hx.out, List.all_append, HA.out]
        simp)
      by_cases hf : fewB x.all = true
      · have HFX := Lib.hid hf
        clear hf
        go_wp2
        go_region_held3 (fun w' => w'.cell? ⟨wr.heap.size, 0, none⟩ = some (.slice ab nb cb) ∧ w'.cell? ⟨wr.heap.size, 1, none⟩ = some (.int .i64 x.value.kind) ∧ w'.cell? ⟨wr.heap.size, 2, none⟩ = some (.string x.value.name) ∧ w'.cell? ⟨wr.heap.size, 3, none⟩ = some (.int .i64 x.value.n) ∧ w'.cell? ⟨wr.heap.size, 4, none⟩ = some (.slice ax nx capx))
          ((repeat' apply And.intro) <;> (repeat (first | with_reducible assumption | with_reducible refine cell_drew ?_ | with_reducible refine cell_alloc _ ?_ | with_reducible refine cell_row_far _ ?_ (by omega) | with_reducible refine cell_below ?_ HB5.out | with_reducible refine cell_below ?_ HB7.out)))
          (first
            | (refine stepx_app (by rfl) (.const (.slice none 0 0)) (.tmp 12) (by rfl) (by rfl) (by rfl) (ans_app1 (W0 := wr.alloc (.cells #[.slice ab nb cb, .int .i64 x.value.kind, .string x.value.name, .int .i64 x.value.n, .slice ax nx capx] 103)) (by exact ⟨rfl, rfl, rfl, rfl⟩) GB2.out HBL.out) ?_; rintro v5 w5 ⟨a5, c5, rfl, ho5, hb5⟩; have HO5 := Lib.hid ho5; have HB5 := Lib.hid hb5; clear ho5 hb5)
            | (refine stepx_app (by rfl) (.const (.slice none 0 0)) (.tmp 12) (by rfl) (by rfl) (by rfl) (ans_app1 (W0 := (wr.alloc (.cells #[.slice ab nb cb, .int .i64 x.value.kind, .string x.value.name, .int .i64 x.value.n, .slice ax nx capx] 103)).alloc (.cells #[.int .i64 x.value.kind, .string x.value.name, .int .i64 x.value.n, .slice ax nx capx] 96)) (by exact ⟨rfl, rfl, rfl, rfl⟩) (MemW.alloc GB2.out _) HBL.out) ?_; rintro v5 w5 ⟨a5, c5, rfl, ho5, hb5⟩; have HO5b := Lib.hid ho5; have HB5 := Lib.hid hb5; clear ho5 hb5)
            | (refine stepx_app (by rfl) (.tmp 13) (.tmp 16) (by rfl) (by rfl) (by rfl) (ans_app2 (W1 := w5) (base := (wr.alloc (.cells #[.slice ab nb cb, .int .i64 x.value.kind, .string x.value.name, .int .i64 x.value.n, .slice ax nx capx] 103)).heap.size) (by exact ⟨rfl, rfl, rfl, rfl⟩) rfl HO5.out (Mem.keep GV2.out (Nat.le_refl _) HB5.out) HB5.out.size HBL.out) ?_; rintro v6 w6 ⟨a6, c6, rfl, hm6, hb6⟩; have HM6 := Lib.hid hm6; have HB56 := Lib.hid (HB5.out.trans hb6); clear hm6 hb6; have s0 := cell_below z0 HB56.out; have s1 := cell_below z1 HB56.out; have s2 := cell_below z2 HB56.out; have s3 := cell_below z3 HB56.out; have s4 := cell_below z4 HB56.out)
            | (refine stepx_app (by rfl) (.tmp 13) (.tmp 16) (by rfl) (by rfl) (by rfl) (ans_app3 (W1 := w5) (base := ((wr.alloc (.cells #[.slice ab nb cb, .int .i64 x.value.kind, .string x.value.name, .int .i64 x.value.n, .slice ax nx capx] 103)).alloc (.cells #[.int .i64 x.value.kind, .string x.value.name, .int .i64 x.value.n, .slice ax nx capx] 96)).heap.size) (by exact ⟨rfl, rfl, rfl, rfl⟩) HO5b.out (Mem.keep HLM.out (Nat.le_refl _) HB5.out) HB5.out.size (by have := HBL.out; simp only [Tm.rows, List.length_cons, List.length_nil]; omega)) ?_; rintro v6 w6 ⟨a6, c6, rfl, hm6, hb6⟩; have HM6 := Lib.hid hm6; have HB56 := Lib.hid ((below_new (wr.alloc (.cells #[.slice ab nb cb, .int .i64 x.value.kind, .string x.value.name, .int .i64 x.value.n, .slice ax nx capx] 103)) (.cells #[.int .i64 x.value.kind, .string x.value.name, .int .i64 x.value.n, .slice ax nx capx] 96)).trans ((HB5.out.trans hb6).mono (below_new (wr.alloc (.cells #[.slice ab nb cb, .int .i64 x.value.kind, .string x.value.name, .int .i64 x.value.n, .slice ax nx capx] 103)) (.cells #[.int .i64 x.value.kind, .string x.value.name, .int .i64 x.value.n, .slice ax nx capx] 96)).size)); clear hm6 hb6; have s0 := cell_below z0 HB56.out; have s1 := cell_below z1 HB56.out; have s2 := cell_below z2 HB56.out; have s3 := cell_below z3 HB56.out; have s4 := cell_below z4 HB56.out)
            | (go_at_call 55
               refine (few_any (l := x.all) w6 (by rw [Ans.all, Tm.rows_app]; exact HM6.out) HSX.out).mono ?_
               rintro e w7 ⟨rfl, hb⟩
               rw [HFX.out]
               have HB7 := Lib.hid hb
               clear hb))
        all_goals
          go_wp2
          go_roundw
          case rel => exact ⟨k + 1, by omega, by go_num, Lib.hid (by rw [HT.out]; exact HFX.out), Lib.hid (HBA.out.trans ((HB56.out.trans (HB7.out.mono HB56.out.size)).mono HBA.out.size))⟩
          case measure => simp [intOf]; omega
      · have hf' : fewB x.all = false := by simpa using hf
        have HFX := Lib.hid hf'
        have HFL : Hid (fewA l = false) := Lib.hid (by
          unfold fewA
          rw [Bool.and_eq_false_iff]
          refine .inl ?_
          rw [Bool.eq_false_iff]
          intro hall
          have := List.all_eq_true.1 hall x (mem_of_at Hx.out)
          exact hf this)
        clear hf hf'
        go_wp2
        go_region_held3 (fun w' => w'.cell? ⟨wr.heap.size, 0, none⟩ = some (.slice ab nb cb) ∧ w'.cell? ⟨wr.heap.size, 1, none⟩ = some (.int .i64 x.value.kind) ∧ w'.cell? ⟨wr.heap.size, 2, none⟩ = some (.string x.value.name) ∧ w'.cell? ⟨wr.heap.size, 3, none⟩ = some (.int .i64 x.value.n) ∧ w'.cell? ⟨wr.heap.size, 4, none⟩ = some (.slice ax nx capx))
          ((repeat' apply And.intro) <;> (repeat (first | with_reducible assumption | with_reducible refine cell_drew ?_ | with_reducible refine cell_alloc _ ?_ | with_reducible refine cell_row_far _ ?_ (by omega) | with_reducible refine cell_below ?_ HB5.out | with_reducible refine cell_below ?_ HB7.out)))
          (first
            | (refine stepx_app (by rfl) (.const (.slice none 0 0)) (.tmp 12) (by rfl) (by rfl) (by rfl) (ans_app1 (W0 := wr.alloc (.cells #[.slice ab nb cb, .int .i64 x.value.kind, .string x.value.name, .int .i64 x.value.n, .slice ax nx capx] 103)) (by exact ⟨rfl, rfl, rfl, rfl⟩) GB2.out HBL.out) ?_; rintro v5 w5 ⟨a5, c5, rfl, ho5, hb5⟩; have HO5 := Lib.hid ho5; have HB5 := Lib.hid hb5; clear ho5 hb5)
            | (refine stepx_app (by rfl) (.const (.slice none 0 0)) (.tmp 12) (by rfl) (by rfl) (by rfl) (ans_app1 (W0 := (wr.alloc (.cells #[.slice ab nb cb, .int .i64 x.value.kind, .string x.value.name, .int .i64 x.value.n, .slice ax nx capx] 103)).alloc (.cells #[.int .i64 x.value.kind, .string x.value.name, .int .i64 x.value.n, .slice ax nx capx] 96)) (by exact ⟨rfl, rfl, rfl, rfl⟩) (MemW.alloc GB2.out _) HBL.out) ?_; rintro v5 w5 ⟨a5, c5, rfl, ho5, hb5⟩; have HO5b := Lib.hid ho5; have HB5 := Lib.hid hb5; clear ho5 hb5)
            | (refine stepx_app (by rfl) (.tmp 13) (.tmp 16) (by rfl) (by rfl) (by rfl) (ans_app2 (W1 := w5) (base := (wr.alloc (.cells #[.slice ab nb cb, .int .i64 x.value.kind, .string x.value.name, .int .i64 x.value.n, .slice ax nx capx] 103)).heap.size) (by exact ⟨rfl, rfl, rfl, rfl⟩) rfl HO5.out (Mem.keep GV2.out (Nat.le_refl _) HB5.out) HB5.out.size HBL.out) ?_; rintro v6 w6 ⟨a6, c6, rfl, hm6, hb6⟩; have HM6 := Lib.hid hm6; have HB56 := Lib.hid (HB5.out.trans hb6); clear hm6 hb6; have s0 := cell_below z0 HB56.out; have s1 := cell_below z1 HB56.out; have s2 := cell_below z2 HB56.out; have s3 := cell_below z3 HB56.out; have s4 := cell_below z4 HB56.out)
            | (refine stepx_app (by rfl) (.tmp 13) (.tmp 16) (by rfl) (by rfl) (by rfl) (ans_app3 (W1 := w5) (base := ((wr.alloc (.cells #[.slice ab nb cb, .int .i64 x.value.kind, .string x.value.name, .int .i64 x.value.n, .slice ax nx capx] 103)).alloc (.cells #[.int .i64 x.value.kind, .string x.value.name, .int .i64 x.value.n, .slice ax nx capx] 96)).heap.size) (by exact ⟨rfl, rfl, rfl, rfl⟩) HO5b.out (Mem.keep HLM.out (Nat.le_refl _) HB5.out) HB5.out.size (by have := HBL.out; simp only [Tm.rows, List.length_cons, List.length_nil]; omega)) ?_; rintro v6 w6 ⟨a6, c6, rfl, hm6, hb6⟩; have HM6 := Lib.hid hm6; have HB56 := Lib.hid ((below_new (wr.alloc (.cells #[.slice ab nb cb, .int .i64 x.value.kind, .string x.value.name, .int .i64 x.value.n, .slice ax nx capx] 103)) (.cells #[.int .i64 x.value.kind, .string x.value.name, .int .i64 x.value.n, .slice ax nx capx] 96)).trans ((HB5.out.trans hb6).mono (below_new (wr.alloc (.cells #[.slice ab nb cb, .int .i64 x.value.kind, .string x.value.name, .int .i64 x.value.n, .slice ax nx capx] 103)) (.cells #[.int .i64 x.value.kind, .string x.value.name, .int .i64 x.value.n, .slice ax nx capx] 96)).size)); clear hm6 hb6; have s0 := cell_below z0 HB56.out; have s1 := cell_below z1 HB56.out; have s2 := cell_below z2 HB56.out; have s3 := cell_below z3 HB56.out; have s4 := cell_below z4 HB56.out)
            | (go_at_call 55
               refine (few_any (l := x.all) w6 (by rw [Ans.all, Tm.rows_app]; exact HM6.out) HSX.out).mono ?_
               rintro e w7 ⟨rfl, hb⟩
               rw [HFX.out]
               have HB7 := Lib.hid hb
               clear hb))
        all_goals go_wp2
        all_goals go_ret
        all_goals exact ⟨ret_bool HFL.out.symm, HBA.out.trans ((HB56.out.trans (HB7.out.mono HB56.out.size)).mono HBA.out.size)⟩
    · obtain rfl : k = n := by omega
      have hltz : ¬ (k : Int) < (k : Int) := by omega
      have HF : Hid (fewA l = decide ((k : Int) ≤ 10)) := Lib.hid (by
        have h1 := HA.out
        rw [List.take_of_length_le (by rw [HL.out]; exact Nat.le_refl _)] at h1
        unfold fewA
        rw [h1, Bool.true_and, HL.out]
        exact decide_eq_decide.2 (by omega))
      go_wp2
      all_goals
        go_ret
        refine ⟨ret_bool ?_, HB.out⟩
        first
          | exact HF.out.symm
          | (rw [HF.out]; simp; omega)
end Go.Proofs.Ytppejoccljfblaa

/-
  The reference's Apply with a place for each variable: a term, its variables numbered anew. No condition but how it lies, and how great it is.
-/
namespace Go.Proofs.Ytppejoccljfblaa
open Go.RowKit
theorem store_tmA {dst : Option Nat} {ty : TypeId} {pos : String} {after : Array Edge} {guard : Option (Nat × Bool)} {x y : Operand} {a : Act} {w : World} {K : Act → World → Prop} {Q : Exit → Act → World → Prop} (h : StOk 96 4 w (a.eval x) (a.eval y)) :
    Oper.wp Try.prog { dst := dst, op := .store 96 x y, type := ty, pos := pos, after := after, guard := guard } a w K Q = K (a.put dst undef) (w.setRow (stB (a.eval x)) (stC (a.eval y))) := wp_store_T rfl (by kernel_rfl) h
theorem stOk_tmA {w : World} {g m c : Nat} {k n : Int} {s : ByteArray} {a : Option Addr} : StOk 96 4 w (.pointer (some ⟨g, 0, none⟩)) (.agg #[.int .i64 k, .string s, .int .i64 n, .slice a m c]) = Wr w g 96 4 := stOk_eq rfl (by simp [Value.oneCell'])
attribute [local go_sem ↓] store_tmA
attribute [local go_sem] stOk_tmA
attribute [local go_sem] stB_eq stC_eq wr_drew wr_alloc wr_row

set_option maxRecDepth 100000 in
set_option maxHeartbeats 20000000 in
theorem apply_any {V : List Int} (m : Nat) : ∀ (t : Tm) (B n cap bn bc : Nat) (a ba : Option Addr) (w : World), t.size ≤ m → m ≤ 1048576 → VarsIn V t → Mem (· < B) w (.s 5 (bindRows V V.length)) (.slice ba bn bc) → Mem (· < B) w (.s 4 (Tm.rows t.args)) (.slice a n cap) → B ≤ w.heap.size →
    Calls Try.prog 119 #[.slice ba bn bc, .agg #[.int .i64 t.kind, .string t.name, .int .i64 t.n, .slice a n cap]] w (GivesT 0 (canT (idxI V) t) w) := by
  induction m with
  | zero => intro t _ _ _ _ _ _ _ w h; have := t.size_pos; omega
  | succ m ih =>
    intro t B n cap bn bc a ba w hm hmm hV hb ht hB
    have IH := Lib.hid ih
    clear ih
    have HW1 := Lib.hid (((below_new w (.cells #[.int .i64 t.kind, .string t.name, .int .i64 t.n, .slice a n cap] 96)).alloc (by simp) (.cells #[.int .i64 0, .string ⟨#[]⟩, .int .i64 0, .slice none 0 0] 96)))
    have HX := Lib.hid ((Bo.new w 96 #[.int .i64 t.kind, .string t.name, .int .i64 t.n, .slice a n cap]).alloc (.cells #[.int .i64 0, .string ⟨#[]⟩, .int .i64 0, .slice none 0 0] 96))
    have HY := Lib.hid (World.size_alloc w (.cells #[.int .i64 t.kind, .string t.name, .int .i64 t.n, .slice a n cap] 96) ▸ Bo.new (w.alloc (.cells #[.int .i64 t.kind, .string t.name, .int .i64 t.n, .slice a n cap] 96)) 96 #[.int .i64 0, .string ⟨#[]⟩, .int .i64 0, .slice none 0 0])
    have HBD := Lib.hid hb
    have HT := Lib.hid ht
    have H0 := Lib.hid hB
    have hbl := hb.len
    rw [bindRows_len] at hbl
    have hbc := hbl.2.1
    have hbm := hbl.2.2
    have HBL := Lib.hid hbl.1
    obtain ⟨x0, x1, x2, x3⟩ := HX.out.c4
    by_cases hk : t.kind = 3
    · obtain ⟨i0, hi1, hi2, hi3, hi4⟩ := idx_of (hV.head hk)
      have e1 : (t.kind == 3) = true := by rw [beq_iff_eq]; exact hk
      have HF := Lib.hid (canT_var (idxI V) hk)
      rw [hi4] at HF
      have hi : i0 < bn := by omega
      have HE := Lib.hid hi2
      have HNE := Lib.hid hi3
      clear hb ht hB hm hmm hk hV hbl hi1 hi2 hi3 hi4
      go_enter Try.func119, Try.ntmps119
      go_wp2
      clear x0 x1 x2 x3
      go_loopw [15] (fun i wr => ∃ k : Nat, k ≤ i0 ∧ i = .int .i64 k ∧ Hid (Below w.heap.size w wr) ∧ Hid (Bo wr w.heap.size 96 #[.int .i64 t.kind, .string t.name, .int .i64 t.n, .slice a n cap]) ∧ Hid (Bo wr (w.heap.size + 1) 96 #[.int .i64 0, .string ⟨#[]⟩, .int .i64 0, .slice none 0 0])) (fun i _ => bn - (intOf i).toNat)
      case atStart => exact ⟨0, Nat.zero_le _, rfl, HW1.out, HX.out, HY.out⟩
      case round =>
        obtain ⟨k, hk, rfl, HB, HX1, HY1⟩ := hrel
        have hlt : k < bn := by omega
        have hltz : (k : Int) < (bn : Int) := by omega
        obtain ⟨b, o, ax, nx, capx, rfl, hbB, y0, y1, y2, y3, y4, GX⟩ := bind_at (HBD.out.keep (Nat.le_refl _) (HB.out.mono H0.out)) k hlt
        have hz1 := HY1.out.lt
        obtain ⟨vk, hvk⟩ : ∃ v, V.getD k 0 = v := ⟨_, rfl⟩
        rw [hvk] at y0
        have HVK := Lib.hid hvk
        clear hvk
        obtain ⟨g0, g1, g2, g3⟩ := (HX1.out.alloc (.cells #[.int .i64 vk, .int .i64 3, .string ⟨#[]⟩, .int .i64 k, .slice ax nx capx] 168)).c4
        have hwr : Wr wr (w.heap.size + 1) 96 4 := HY1.out.wr
        by_cases hki : k = i0
        · have e2 : (vk == t.n) = true := by rw [beq_iff_eq, ← HVK.out, hki]; exact HE.out
          have HKI := Lib.hid hki
          clear hki
          go_wp2
          have HR := Lib.hid ((HY1.out.alloc (.cells #[.int .i64 vk, .int .i64 3, .string ⟨#[]⟩, .int .i64 k, .slice ax nx capx] 168)).row #[.int .i64 3, .string ⟨#[]⟩, .int .i64 k, .slice ax nx capx]).c4
          refine bodyPost_ret (v := .agg #[.int .i64 3, .string ⟨#[]⟩, .int .i64 k, .slice ax nx capx]) (by simp [results, Try.results119, go_sem, HR.out]) rfl ?_
          rw [HF.out, ← HKI.out]
          refine ⟨ax, nx, capx, rfl, below_setRow (HB.out.alloc HB.out.size _) (by omega) _, ?_⟩
          show Mem _ _ (.s 4 (Tm.rows [])) _
          rw [Tm.rows]
          exact GX.out.none_to
        · have e2 : (vk == t.n) = false := by rw [beq_eq_false_iff_ne, ← HVK.out]; exact HNE.out k (by omega)
          go_wp2
          go_roundw
          case rel => exact ⟨k + 1, by omega, by go_num, Lib.hid (HB.out.alloc HB.out.size _), Lib.hid (HX1.out.alloc _), Lib.hid (HY1.out.alloc _)⟩
          case measure => simp [intOf]; omega
    · have e1 : (t.kind == 3) = false := by rw [beq_eq_false_iff_ne]; exact hk
      have HF := Lib.hid (canT_not (idxI V) hk)
      have hl := ht.len
      rw [Tm.rows_len] at hl
      have hln := Lib.hid hl.1
      have hcap := hl.2.1
      have hmx := hl.2.2
      have HA := Lib.hid (show ∀ x ∈ t.args, x.size ≤ m from fun x hx => by have := Tm.size_arg hx; omega)
      have HVA := Lib.hid (show ∀ x ∈ t.args, VarsIn V x from fun x hx => hV.arg hx)
      have HM := Lib.hid (show t.size ≤ 1048576 by omega)
      have HMM := Lib.hid (show m ≤ 1048576 by omega)
      clear hb ht hB hm hmm hk hl hV hbl
      go_enter Try.func119, Try.ntmps119
      go_wp2
      clear x0 x1 x2 x3
      go_loopw [7, 30] (fun v i wr => ∃ k : Nat, k ≤ n ∧ i = .int .i64 k ∧ Hid (Below w.heap.size w wr) ∧ Hid (Bo wr w.heap.size 96 #[.int .i64 t.kind, .string t.name, .int .i64 t.n, .slice a n cap]) ∧ Hid (Bo wr (w.heap.size + 1) 96 #[.int .i64 0, .string ⟨#[]⟩, .int .i64 0, .slice none 0 0]) ∧ Hid (OwnD 0 (w.heap.size + 2) 96 4 wr v (Tm.rows (canTs (idxI V) (t.args.take k))))) (fun _ i _ => n - (intOf i).toNat)
      case atStart => exact ⟨0, Nat.zero_le _, rfl, HW1.out, HX.out, HY.out, by rw [List.take_zero, canTs, Tm.rows]; exact OwnD.nil _ _ _ _ _⟩
      case round =>
        obtain ⟨k, hk, rfl, HB, HX1, HY1, HO⟩ := hrel
        have hz1 := HY1.out.lt
        by_cases hlt : k < n
        · obtain ⟨b, o, x, ax, nx, capx, rfl, hbB, Hx, x0, x1, x2, x3, GX⟩ := tm_at (HT.out.keep (Nat.le_refl _) (HB.out.mono H0.out)) k hlt
          have GA := Lib.hid (HA.out x (mem_of_at Hx.out))
          have GV := Lib.hid (HVA.out x (mem_of_at Hx.out))
          have HW := Lib.hid (show B ≤ wr.heap.size from Nat.le_trans H0.out HB.out.size)
          have HN := Lib.hid (show canTs (idxI V) (t.args.take (k + 1)) = canTs (idxI V) (t.args.take k) ++ [canT (idxI V) x] by rw [take_at Hx.out, canTs_eq, canTs_eq, List.map_append]; rfl)
          have HL := Lib.hid (show ((Tm.rows (canTs (idxI V) (t.args.take k))).length + 1) * 56 ≤ 140737488355328 ∧ (Tm.rows (canTs (idxI V) (t.args.take k))).length + 1 ≤ 4611686018427387904 by
            have h1 := HM.out
            rw [Tm.size_eq] at h1
            have h2 := Tm.len_args t.args
            rw [Tm.rows_len, canTs_eq, List.length_map, List.length_take]; omega)
          go_wp2_with (first
            | (go_at_call 119
               refine (IH.out x B _ _ bn bc _ ba _ GA.out HMM.out GV.out (HBD.out.keep (Nat.le_refl _) ((Below.toA HB.out (Below.refl _ _)).mono H0.out)) (GX.out.keep (Nat.le_refl _) ((below_new wr _).mono HW.out)) (by have := HW.out; rw [World.size_alloc]; omega)).mono ?_
               rintro e w2 ⟨a2, n2, cap2, rfl, hb, hm⟩
               have HB2 := Lib.hid hb; clear hb
               have HM2 := Lib.hid hm; clear hm
               have HO2 := Lib.hid ((HO.out.alloc _).keep HB2.out))
            | (at_builtin
               refine wpList_append_D rfl _ _ rfl Try.underlying89 info_term5 rfl (by decide) rfl rfl (HO2.out.alloc _) (own_one (canT (idxI V) x) HO2.out (by have := HB2.out.size; rw [World.size_alloc] at this; omega) ((HO.out.alloc _).apart (Nat.zero_le _) (by rw [World.size_alloc]; omega) HM2.out)) HL.out.1 HL.out.2 (by have := HB2.out.size; rw [World.size_alloc] at this; rw [World.size_alloc]; omega) ?_
               intro v' w3 ho hg
               have HO3 := Lib.hid ho; clear ho
               have HG3 := Lib.hid hg; clear hg))
          go_roundw
          case rel =>
            have hbw := Below.toA HB.out HB2.out
            refine ⟨k + 1, by omega, by go_num, Lib.hid (grown_below (hbw.alloc hbw.size _) HG3.out (Nat.le_refl _) (fun b hb => by have := (HO2.out.lt b hb).1; omega)), Lib.hid (((HX1.out.alloc _).keep HB2.out |>.alloc _).grown HG3.out (fun b hb => by have := (HO2.out.lt b hb).1; omega)), Lib.hid (((HY1.out.alloc _).keep HB2.out |>.alloc _).grown HG3.out (fun b hb => by have := (HO2.out.lt b hb).1; omega)), Lib.hid ?_⟩
            rw [HN.out, Tm.rows_app]; exact HO3.out
          case measure => simp [intOf]; omega
        · have hk' : t.args.take k = t.args := List.take_of_length_le (by rw [hln.out]; omega)
          rw [hk'] at HO
          clear hk'
          obtain ⟨a', cap', hv, _, _⟩ := HO.out.form
          subst hv
          obtain ⟨g0, g1, g2, g3⟩ := HX1.out.c4
          have hwr : Wr wr (w.heap.size + 1) 96 4 := HY1.out.wr
          go_wp2
          have HR := Lib.hid (HY1.out.row #[.int .i64 t.kind, .string t.name, .int .i64 t.n, .slice a' (Tm.rows (canTs (idxI V) t.args)).length cap']).c4
          refine bodyPost_ret (v := .agg #[.int .i64 t.kind, .string t.name, .int .i64 t.n, .slice a' (Tm.rows (canTs (idxI V) t.args)).length cap']) (by simp [results, Try.results119, go_sem, HR.out]) rfl ?_
          rw [HF.out]
          refine ⟨a', _, cap', rfl, below_setRow HB.out (by omega) _, ?_⟩
          exact ((HO.out.row (w.heap.size + 1) #[.int .i64 t.kind, .string t.name, .int .i64 t.n, .slice a' (Tm.rows (canTs (idxI V) t.args)).length cap'] (by omega) (Nat.zero_le _)).mem).mono (fun b hb => ⟨hb.1.imp id fun h => by omega, hb.2⟩) fun _ _ => rfl
end Go.Proofs.Ytppejoccljfblaa

/-
  The reference's Canon: terms, their variables numbered anew. No condition but how they lie, and how great they are.
-/
namespace Go.Proofs.Ytppejoccljfblaa
open Go.RowKit

theorem info_bind : (Try.prog.info? 168).map (fun i => (i.zero, i.size, i.bytes)) = some (some (.agg #[.int .i64 0, .int .i64 0, .string .empty, .int .i64 0, .slice none 0 0]), 5, 64) := by kernel_rfl
/-- The variables of terms. -/
def vsT (ts : List Tm) : List Int := vrs 3 [] (Tm.alls ts)
theorem vsT_in {ts : List Tm} : ∀ x ∈ ts, VarsIn (vsT ts) x := by
  intro x hx y hy hk
  have h : ∀ (l : List Tm) (a : List Int), y ∈ l → y.n ∈ vrs 3 a l := by
    intro l
    induction l with
    | nil => intro a h; cases h
    | cons z l ih =>
      intro a h
      have e : vrs 3 a (z :: l) = vrs 3 (if z.kind = 3 then putI a z.n else a) l := rfl
      rw [e]
      rcases List.mem_cons.1 h with rfl | h
      · rw [if_pos hk]
        have hp : y.n ∈ putI a y.n := by unfold putI; split <;> simp_all
        have hg : ∀ (l : List Tm) (b : List Int), y.n ∈ b → y.n ∈ vrs 3 b l := by
          intro l
          induction l with
          | nil => intro b h; exact h
          | cons z l ih =>
            intro b h
            have e : vrs 3 b (z :: l) = vrs 3 (if z.kind = 3 then putI b z.n else b) l := rfl
            rw [e]
            refine ih _ ?_
            split
            · unfold putI; split <;> simp_all
            · exact h
        exact hg l _ hp
      · exact ih _ h
  refine h _ _ ?_
  rw [Tm.alls_eq]
  exact List.mem_flatMap.2 ⟨x, hx, hy⟩
theorem vsT_len {ts : List Tm} : (vsT ts).length ≤ (Tm.alls ts).length := by
  have := vrs_len 3 [] (Tm.alls ts)
  simpa [vsT] using this
theorem rvars_any {l : List Tm} {n cap : Nat} {a : Option Addr} (w : World) (h : MemW w (.s 4 (Tm.rows l)) (.slice a n cap)) (hs : (Tm.alls l).length ≤ 1048576) :
    Calls Try.prog 63 #[.slice a n cap] w (Gives 0 1 (intRows (vsT l)) w) := vars3_any w h hs

set_option maxRecDepth 100000 in
set_option maxHeartbeats 20000000 in
theorem canon3_any {ts : List Tm} {n cap : Nat} {a : Option Addr} (w : World) (h : MemW w (.s 4 (Tm.rows ts)) (.slice a n cap)) (hs : (Tm.alls ts).length ≤ 1048576) :
    Calls Try.prog 69 #[.slice a n cap] w (Gives 0 4 (Tm.rows (canTs (idxI (vsT ts)) ts)) w) := by
  have hl := Tms.len h
  have HL := Lib.hid hl.1
  have hcap := hl.2.1
  have hmx := hl.2.2
  have H := Lib.hid h
  have HS := Lib.hid hs
  have HVR := Lib.hid (rvars_any w h hs)
  have HVI := Lib.hid (vsT_in (ts := ts))
  have HVL := Lib.hid (vsT_len (ts := ts))
  clear hl h hs
  generalize vsT ts = V at *
  go_enter Try.func69, Try.ntmps69
  go_wp2_with fail
  refine HVR.out.mono ?_
  rintro e w2 ⟨av, nv, cv, rfl, hb2, hm2⟩
  have HB2 := Lib.hid hb2
  have hvl := hm2.len
  rw [intRows_len] at hvl
  have HNV := Lib.hid hvl.1
  have hcv := hvl.2.1
  have hmv := hvl.2.2
  have HM2 : Hid (MemW w2 (.s 1 (intRows V)) (.slice av nv cv)) := Lib.hid (hm2.mono (fun _ hb => hb.2) fun _ _ => rfl)
  have HNS : Hid (nv ≤ 1048576) := Lib.hid (by rw [← hvl.1]; exact Nat.le_trans HVL.out HS.out)
  clear hb2 hm2 hvl HVR
  go_wp2_with fail
  go_loopw [3, 4, 5, 12] (fun v _ _ i wr => ∃ k : Nat, k ≤ nv ∧ i = .int .i64 k ∧ Hid (Below w2.heap.size w2 wr) ∧ Hid (OwnD 0 w2.heap.size 168 5 wr v (bindRows V k))) (fun _ _ _ i _ => nv - (intOf i).toNat)
  case atStart => exact ⟨0, Nat.zero_le _, rfl, Lib.hid (Below.refl _ _), Lib.hid (OwnD.nil _ _ _ _ _)⟩
  case round =>
    obtain ⟨k, hk, rfl, HB, HO⟩ := hrel
    obtain ⟨wo, rfl⟩ : ∃ wo : World, wo = wr := ⟨_, rfl⟩
    by_cases hlt : k < nv
    · have hltz : (k : Int) < (nv : Int) := by omega
      obtain ⟨b, o, x, rfl, _, Hx, x0⟩ := int_at (MemW.keep HM2.out HB.out) k hlt
      have HWS := Lib.hid HB.out.size
      have HNK := HNS.out
      go_wp2_with (first
        | (at_builtin
           refine wpList_append_D rfl _ _ rfl Try.underlying166 info_bind rfl (by decide) rfl rfl (HO.out.alloc _) (own_row (row := bindRow x k) rfl HO.out HWS.out (.cons (.v _ rfl) (.cons (.v _ rfl) (.cons (.v _ rfl) (.cons (.v _ rfl) (.cons (.e _ _ _ (by decide)) .nil)))))) (by rw [bindRows_len]; simp only [List.length_cons, List.length_nil]; omega) (by rw [bindRows_len]; simp only [List.length_cons, List.length_nil]; omega) (by rw [World.size_alloc]; exact Nat.le_trans HWS.out (Nat.le_succ _)) ?_
           intro v' w3 ho hg
           have HO3 := Lib.hid ho
           have HG3 := Lib.hid hg
           clear ho hg))
      go_roundw
      case rel => exact ⟨k + 1, by omega, by go_num, Lib.hid (grown_below (HB.out.alloc HB.out.size _) HG3.out (Nat.le_refl _) (fun b hb => (HO.out.lt b hb).1)), Lib.hid (by rw [bindRows_succ Hx.out]; exact HO3.out)⟩
      case measure => simp [intOf]; omega
    · obtain rfl : k = nv := by omega
      have hltz : ¬ (k : Int) < (k : Int) := by omega
      obtain ⟨ba, bc, rfl, hbc, hbm⟩ := HO.out.form
      have HBM0 := Lib.hid HO.out.memW
      have HBW := Lib.hid (HB2.out.trans (HB.out.mono HB2.out.size))
      have HLV : Hid (V.length = k) := HNV
      rw [bindRows_len] at HBM0 hbc ⊢
      have HBM : Hid (MemW wo (.s 5 (bindRows V V.length)) (.slice ba k bc)) := Lib.hid (by rw [HLV.out]; exact HBM0.out)
      clear HO HB HM2 HNV HB2 HBM0
      go_wp2_with fail
      obtain ⟨ws, rfl⟩ : ∃ ws : World, ws = wo := ⟨_, rfl⟩
      go_loopw [6, 27] (fun v i wr => ∃ j : Nat, j ≤ n ∧ i = .int .i64 j ∧ Hid (Below ws.heap.size ws wr) ∧ Hid (OwnD 0 ws.heap.size 96 4 wr v (Tm.rows (canTs (idxI V) (ts.take j))))) (fun _ i _ => n - (intOf i).toNat)
      case atStart => exact ⟨0, Nat.zero_le _, rfl, Lib.hid (Below.refl _ _), Lib.hid (by rw [List.take_zero, canTs, Tm.rows]; exact OwnD.nil _ _ _ _ _)⟩
      case round =>
        obtain ⟨j, hj, rfl, HB, HO⟩ := hrel
        by_cases hlt : j < n
        · have hltz2 : (j : Int) < (n : Int) := by omega
          obtain ⟨b, o, x, ax, nx, capx, rfl, hbB, Hx, x0, x1, x2, x3, GX⟩ := tm_at (Mem.keep H.out (Nat.le_refl _) (HBW.out.trans (HB.out.mono HBW.out.size))) j hlt
          have GV := Lib.hid (HVI.out x (mem_of_at Hx.out))
          have SX := Lib.hid (show x.size ≤ 1048576 from Nat.le_trans (Tm.size_mem (mem_of_at Hx.out)) HS.out)
          have HW := Lib.hid HB.out.size
          have HBM5 := Lib.hid (Mem.keep (Mem.keep HBM.out HW.out HB.out) (Nat.le_refl _) (below_new wr (.cells #[.int .i64 x.kind, .string x.name, .int .i64 x.n, .slice ax nx capx] 96)))
          have GX5 := Lib.hid (Mem.keep GX.out (Nat.le_trans HBW.out.size HW.out) ((below_new wr (.cells #[.int .i64 x.kind, .string x.name, .int .i64 x.n, .slice ax nx capx] 96)).mono (Nat.le_trans HBW.out.size HW.out)))
          have HN := Lib.hid (show canTs (idxI V) (ts.take (j + 1)) = canTs (idxI V) (ts.take j) ++ [canT (idxI V) x] by rw [take_at Hx.out, canTs_eq, canTs_eq, List.map_append]; rfl)
          have HLL := Lib.hid (show ((Tm.rows (canTs (idxI V) (ts.take j))).length + 1) * 56 ≤ 140737488355328 ∧ (Tm.rows (canTs (idxI V) (ts.take j))).length + 1 ≤ 4611686018427387904 by
            have h1 := HS.out
            have h2 := Tm.len_args ts
            rw [Tm.rows_len, canTs_eq, List.length_map, List.length_take]; omega)
          go_wp2_with (first
            | (go_at_call 119
               refine (apply_any (V := V) 1048576 x wr.heap.size _ _ k _ _ ba _ SX.out (Nat.le_refl _) GV.out HBM5.out GX5.out (by rw [World.size_alloc]; exact Nat.le_succ _)).mono ?_
               rintro e w4 ⟨a2, n2, cap2, rfl, hb, hm⟩
               have HB4 := Lib.hid hb; clear hb
               have HM4 := Lib.hid hm; clear hm
               have HO4 := Lib.hid ((HO.out.alloc _).keep HB4.out)
               have HZ4 := Lib.hid HB4.out.size)
            | (at_builtin
               refine wpList_append_D rfl _ _ rfl Try.underlying89 info_term5 rfl (by decide) rfl rfl (HO4.out.alloc _) (own_one (canT (idxI V) x) HO4.out (by have := HZ4.out; rw [World.size_alloc] at this; have := HW.out; omega) ((HO.out.alloc _).apart (Nat.zero_le _) (by rw [World.size_alloc]; have := HW.out; omega) HM4.out)) HLL.out.1 HLL.out.2 (by have := HZ4.out; rw [World.size_alloc] at this; rw [World.size_alloc]; have := HW.out; omega) ?_
               intro v' w5 ho hg
               have HO5 := Lib.hid ho; clear ho
               have HG5 := Lib.hid hg; clear hg))
          go_roundw
          case rel => exact ⟨j + 1, by omega, by go_num, Lib.hid (grown_below (((HB.out.alloc HB.out.size _).trans (HB4.out.mono (by rw [World.size_alloc]; have := HW.out; omega))).alloc (by have := HZ4.out; rw [World.size_alloc] at this; have := HW.out; omega) _) HG5.out (Nat.le_refl _) (fun b hb => (HO4.out.lt b hb).1)), Lib.hid (by rw [HN.out, Tm.rows_app]; exact HO5.out)⟩
          case measure => simp [intOf]; omega
        · have hk' : ts.take j = ts := List.take_of_length_le (by have := HL.out; omega)
          have hltz2 : ¬ (j : Int) < (n : Int) := by omega
          rw [hk'] at HO
          clear hk'
          obtain ⟨a', cap', rfl, _, _⟩ := HO.out.form
          have HM := Lib.hid HO.out.mem
          have HBF := Lib.hid (HBW.out.trans (HB.out.mono HBW.out.size))
          go_wp2_with fail
          go_ret
          exact ⟨a', _, cap', rfl, HBF.out, HM.out.mono (fun b hb => ⟨hb.1.imp id fun h => Nat.le_trans HBW.out.size h, hb.2⟩) fun _ _ => rfl⟩
end Go.Proofs.Ytppejoccljfblaa
