/-
  'out = append(out, x)' in a loop's body over an iterator, out a list of numbers of the function's own. Plain lemmas. No condition.
-/
import Derived.Test.YtppejoccljfblaaAv19
import Derived.Test.YtppejoccljfblaaAv1
import Derived.Test.YtppejoccljfblaaAv20
import Derived.Test.YtppejoccljfblaaAv18
import Derived.Test.YtppejoccljfblaaAv2
import Derived.Shelf.Abstract
import Derived.RangeFuncWrites
namespace Go.Proofs.Ytppejoccljfblaa
open Go.RowKit

theorem app_int {P : Program} {t e : TypeId} {W : World} {g base : Nat} {T : TypeId} {v : Value} {V : List Int} (ty e' : TypeId) (x : Int) (ht : P.underlying t = some (.slice e)) (hinfo : (P.info? e).map (fun i => (i.zero, i.size, i.bytes)) = some (some (.int .i64 0), 1, 8))
    (hv : Boxed W g T v) (hO : OwnD 0 base e 1 W v (intRows V)) (hg : g < base) (hb : base ≤ W.heap.size) (hl : V.length + 1 ≤ 1048577) :
    ∃ v' w1, (Builtin.append_ #[t, t] ty #[v, .slice (some ⟨W.heap.size, 0, none⟩) 1 1]).run P (W.alloc (.cells #[.int .i64 x] e')) = .ok v' w1 ∧
      Boxed w1 g T v ∧ (∃ a c, v' = .slice a (V.length + 1) c) ∧ (∀ D, KeepsFrom D W (w1.setCell ⟨g, 0, none⟩ v')) ∧ KpT [g] [g] W (w1.setCell ⟨g, 0, none⟩ v') ∧
      Boxed (w1.setCell ⟨g, 0, none⟩ v') g T v' ∧ OwnD 0 base e 1 (w1.setCell ⟨g, 0, none⟩ v') v' (intRows (V ++ [x])) ∧ (∀ B w0, B ≤ g → B ≤ w0.heap.size → Below B w0 W → Below B w0 (w1.setCell ⟨g, 0, none⟩ v')) := by
  obtain ⟨v', w1, hr, h2, h3, h4⟩ := run_append_D2 (P := P) (t := t) (e := e) (z := .int .i64 0) (sz := 1) (bytes := 8) (B := 0) (base := base) (w := W.alloc (.cells #[.int .i64 x] e')) ty ht hinfo rfl (by decide) (hO.alloc _) (own_int x W.heap.size rfl hO hb) (by rw [intRows_len, intRows_len]; simp; omega) (by rw [intRows_len, intRows_len]; simp; omega) (by rw [World.size_alloc]; omega)
  rw [← intRows_app] at h2
  have hne : v.ownBlock ≠ some g := fun e => by have := (hO.lt g e).1; omega
  have hblk : ∀ k, k < W.heap.size → v.ownBlock ≠ some k → w1.heap[k]? = W.heap[k]? := fun k hk hyk => (h3.block k (by rw [World.size_alloc]; omega) (fun e => hyk e.symm)).trans ((below_new W _).block k hk)
  have hglt := hv.lt
  have hb1 : Boxed w1 g T v := (hblk g hglt hne).trans hv
  have hsz : W.heap.size ≤ w1.heap.size := by have := h3.size; rw [World.size_alloc] at this; omega
  have hszC : W.heap.size ≤ (w1.setCell ⟨g, 0, none⟩ v').heap.size := by simpa [World.setCell] using hsz
  have hsame : ∀ k, k < W.heap.size → k ≠ g → v.ownBlock ≠ some k → (w1.setCell ⟨g, 0, none⟩ v').heap[k]? = W.heap[k]? := fun k hk h1 hk2 => (heap_setCell_other _ _ _ _ h1).trans (hblk k hk hk2)
  obtain ⟨a, c, hform, _, _⟩ := h2.form
  rw [intRows_len, List.length_append, List.length_cons, List.length_nil] at hform
  refine ⟨v', w1, hr, hb1, ⟨a, c, hform⟩, fun D => keeps_of hv hO hszC hsame, kpt_of hv (hb1.set _) hszC hsame (fun k hk => ⟨?_, ?_⟩) hO.slice, hb1.set _, h2.cellFar g _ hg (Nat.zero_le _), fun B w0 hB hB0 hbw => ?_⟩
  · rcases h4 with h4 | h4
    · exact .inl (h4 ▸ hk)
    · have := h4 k hk; rw [World.size_alloc] at this; exact .inr (by omega)
  · simp only [World.setCell, Array.size_modify]; exact (h2.lt k hk).2
  · exact (grown_below (hbw.alloc (Nat.le_trans hB0 hbw.size) _) h3 hB0 (fun k hk => by have := (hO.lt k hk).1; omega)).setCell (p := ⟨g, 0, none⟩) hB _
end Go.Proofs.Ytppejoccljfblaa

/-
  term.Vars: the variables of terms, each once, as they come. No condition but how they lie, and how great they are.
-/
namespace Go.Proofs.Ytppejoccljfblaa
open Go.RowKit
attribute [local go_sem] Oper.semAt_some

/-- The marks that loops over iterators have left among a frame's deferred calls. -/
inductive Marks (B : Nat) (W : World) : List Deferred → Prop
  | nil : Marks B W []
  | cons (D : Nat) (ds : List Deferred) (h : W.heap[D]? = some (.deferred (some []))) (hB : B ≤ D) (hn : ∀ d ∈ ds, d ≠ ({ target := .collected D, args := #[] } : Deferred)) (t : Marks B W ds) : Marks B W ({ target := .collected D, args := #[] } :: ds)
section
variable {B : Nat} {W W' : World} {ds : List Deferred}
theorem Marks.keep (h : Marks B W ds) (hk : KeepsFrom B W W') : Marks B W' ds := by
  induction h with
  | nil => exact .nil
  | cons D ds h hB hn _ ih => exact .cons D ds (hk.same D _ hB h rfl) hB hn ih
theorem Marks.keepB (h : Marks B W ds) (hb : Below W.heap.size W W') : Marks B W' ds := by
  induction h with
  | nil => exact .nil
  | cons D ds h hB hn _ ih => exact .cons D ds ((hb.block D (Array.getElem?_eq_some_iff.1 h).1).trans h) hB hn ih
theorem Marks.lt (h : Marks B W ds) : ∀ D, ({ target := .collected D, args := #[] } : Deferred) ∈ ds → D < W.heap.size := by
  induction h with
  | nil => intro D hD; cases hD
  | cons D ds h hB hn _ ih =>
    intro D' hD
    rcases List.mem_cons.1 hD with e | hD
    · injection e with e1 _
      injection e1 with e2
      subst e2; exact (Array.getElem?_eq_some_iff.1 h).1
    · exact ih D' hD
theorem Marks.shape (h : Marks B W ds) : ∀ d ∈ ds, ∃ D, d = ({ target := .collected D, args := #[] } : Deferred) ∧ D < W.heap.size := by
  induction h with
  | nil => intro d hd; cases hd
  | cons D ds h hB hn _ ih =>
    intro d hd
    rcases List.mem_cons.1 hd with rfl | hd
    · exact ⟨D, rfl, (Array.getElem?_eq_some_iff.1 h).1⟩
    · exact ih d hd
theorem Marks.own {β : Type} (h3 : Marks B W ds) : OwnFrom W.heap.size (fun (_ : β) X => Marks B X ds) := by
  intro s X Y row hX hg hr
  have hs := h3.shape
  clear h3
  induction hX with
  | nil => exact .nil
  | cons D ds h hB hn _ ih =>
    refine .cons D ds ((hg.block D (Array.getElem?_eq_some_iff.1 h).1 (fun e => ?_)).trans h) hB hn (ih fun d hd => hs d (List.mem_cons_of_mem _ hd))
    obtain ⟨D', e', hlt⟩ := hs _ (List.mem_cons_self ..)
    injection e' with e1 _
    injection e1 with e2
    have := (hr D e.symm).1
    omega
theorem Marks.more (h : Marks B W ds) {w3 : World} (h3 : Marks B w3 ds) {D : Nat} (hD : w3.heap.size ≤ D) (hB : B ≤ D) (hk : W.heap[D]? = some (.deferred (some []))) : Marks B W ({ target := .collected D, args := #[] } :: ds) :=
  .cons D ds hk hB (fun d hd e => by
    obtain ⟨D', e', hlt⟩ := h3.shape d hd
    rw [e] at e'
    injection e' with e1 _
    injection e1 with e2
    omega) h
theorem Marks.put (h : Marks B W ds) {D : Nat} (o : Obj) (hn : ∀ d ∈ ds, d ≠ ({ target := .collected D, args := #[] } : Deferred)) : Marks B (W.putObj D o) ds := by
  induction h with
  | nil => exact .nil
  | cons D' ds h hB hn' _ ih =>
    refine .cons D' ds ((World.putObj_heap_other fun e => ?_).trans h) hB hn' (ih fun d hd => hn d (List.mem_cons_of_mem _ hd))
    exact hn _ (List.mem_cons_self ..) (by rw [e])
/-- All marks are taken up, one by one. -/
theorem leaves_mk {F : Fence} {m : Nat} {P : Program} {fn : Func} {tmps : Array Value} {R : Ending → World → Prop} {C : World → Prop} (hC : ∀ X D, C X → B ≤ D → X.heap[D]? = some (.deferred (some [])) → C (X.putObj D (.deferred none)))
    (hend : ∀ X, C X → LeavesIn F m P fn tmps R [] .returning X) : ∀ (ds : List Deferred) (X : World), Marks B X ds → C X → LeavesInM F m P fn tmps R ds .returning X := by
  intro ds
  induction ds with
  | nil => intro X _ hc; exact hend X hc
  | cons d ds ih =>
    intro X hm hc
    cases hm with
    | cons D ds h hB hn t => exact ⟨by simp, .inl ⟨_, _, rfl, run_takeDeferred h, ih _ (t.put _ hn) (hC X D hc hB h)⟩⟩
end
theorem vrs3_has {k : Int} {l : List Int} {ts : List Tm} {x : Tm} (hk : x.kind = k) (h : x.n ∈ vrs k l ts) : vrs k l (ts ++ [x]) = vrs k l ts := by rw [vrs_snoc, if_pos hk]; unfold putI; rw [if_pos h]
theorem vrs3_new {k : Int} {l : List Int} {ts : List Tm} {x : Tm} (hk : x.kind = k) (h : x.n ∉ vrs k l ts) : vrs k l (ts ++ [x]) = vrs k l ts ++ [x.n] := by rw [vrs_snoc, if_pos hk]; unfold putI; rw [if_neg h]
theorem vrs3_not {k : Int} {l : List Int} {ts : List Tm} {x : Tm} (hk : ¬ x.kind = k) : vrs k l (ts ++ [x]) = vrs k l ts := by rw [vrs_snoc, if_neg hk]

/-- What stands at the head of each round. -/
def VJ (w : World) (ts : List Tm) (a : Option Addr) (n cap : Nat) (k : Nat) (ds : List Deferred) (W : World) : Prop :=
  Below w.heap.size w W ∧ Marks w.heap.size W ds ∧ ∃ v, Boxed W w.heap.size 50 v ∧ OwnD 0 (w.heap.size + 1) 3 1 W v (intRows (vrs 3 [] (Tm.alls (ts.take k))))

set_option maxRecDepth 100000 in
set_option maxHeartbeats 20000000 in
theorem termVars_any {ts : List Tm} {a : Option Addr} {n cap : Nat} (w : World) (h : Tms w ts a n cap) (hs : (Tm.alls ts).length ≤ 1048576) :
    Calls Try.prog 62 #[.slice a n cap] w (Gives 0 1 (intRows (vrs 3 [] (Tm.alls ts))) w) := by
  have hl := h.len
  have HL := Lib.hid hl.1
  have hcap := hl.2.1
  have hmx := hl.2.2
  have H := Lib.hid h
  have HS := Lib.hid hs
  clear hl h hs
  refine (callsIn_wide (n := 9)).1 ?_
  refine callsIn_of_wp_marks Try.func62 rfl trivial ?_ rfl; simp only [Try.ntmps62, List.size_toArray, List.length_cons, List.length_nil, Nat.reduceAdd, Nat.reduceSub, Array.replicate_succ, Array.replicate_zero, List.push_toArray, List.append_toArray, List.nil_append, List.cons_append]
  refine wpIn_wide.2 ?_
  go_wp2_with fail
  refine wp_loop (fun act W => ∃ (k : Nat) (ds : List Deferred) (u1 u4 u5 u6 u10 u11 u12 u13 u14 u15 u16 u17 u18 u19 u20 u21 u22 u23 u24 u25 u26 u27 u28 u29 u30 u31 u32 : Value), k ≤ n ∧ act = { tmps := #[.slice a n cap, u1, .slice none 0 0, .pointer (some ⟨w.heap.size, 0, none⟩), u4, u5, u6, .slice a n cap, .int .i64 n, .int .i64 (k : Nat), u10, u11, u12, u13, u14, u15, u16, u17, u18, u19, u20, u21, u22, u23, u24, u25, u26, u27, u28, u29, u30, u31, u32], defers := ds } ∧ Hid (VJ w ts a n cap k ds W)) (fun act _ => n - (intOf (act.tmps.getD 9 undef)).toNat) ?_ ?_
  · exact ⟨0, [], _, _, _, _, _, _, _, _, _, _, _, _, _, _, _, _, _, _, _, _, _, _, _, _, _, _, _, Nat.zero_le _, rfl, Lib.hid ⟨below_new w _, .nil, _, Boxed.new w 50 (.slice none 0 0), by rw [List.take_zero, Tm.alls]; exact OwnD.nil _ _ _ _ _⟩⟩
  · rintro act wr ⟨k, ds, u1, u4, u5, u6, u10, u11, u12, u13, u14, u15, u16, u17, u18, u19, u20, u21, u22, u23, u24, u25, u26, u27, u28, u29, u30, u31, u32, hk, rfl, HV⟩
    by_cases hlt : k < n
    · have hltz : (k : Int) < (n : Int) := by omega
      obtain ⟨b, o, x, ax, nx, capx, rfl, hbB, Hx, x0, x1, x2, x3, GX⟩ := tm_at (Mem.keep H.out (Nat.le_refl _) HV.out.1) k hlt
      have HB3 : Hid (Below w.heap.size w ((wr.alloc (.cells #[.int .i64 x.kind, .string x.name, .int .i64 x.n, .slice ax nx capx] 96)).alloc (.cells #[.int .i64 x.kind, .string x.name, .int .i64 x.n, .slice ax nx capx] 96))) := Lib.hid ((HV.out.1.alloc HV.out.1.size _).alloc (by rw [World.size_alloc]; have := HV.out.1.size; omega) _)
      have H2 : Hid (Bo ((wr.alloc (.cells #[.int .i64 x.kind, .string x.name, .int .i64 x.n, .slice ax nx capx] 96)).alloc (.cells #[.int .i64 x.kind, .string x.name, .int .i64 x.n, .slice ax nx capx] 96)) (wr.heap.size + 1) 96 #[.int .i64 x.kind, .string x.name, .int .i64 x.n, .slice ax nx capx]) := Lib.hid (World.size_alloc wr (.cells #[.int .i64 x.kind, .string x.name, .int .i64 x.n, .slice ax nx capx] 96) ▸ Bo.new (wr.alloc (.cells #[.int .i64 x.kind, .string x.name, .int .i64 x.n, .slice ax nx capx] 96)) 96 #[.int .i64 x.kind, .string x.name, .int .i64 x.n, .slice ax nx capx])
      have HSZ : Hid (((wr.alloc (.cells #[.int .i64 x.kind, .string x.name, .int .i64 x.n, .slice ax nx capx] 96)).alloc (.cells #[.int .i64 x.kind, .string x.name, .int .i64 x.n, .slice ax nx capx] 96)).heap.size = wr.heap.size + 2) := Lib.hid (by simp)
      have HM3 : Hid (Marks w.heap.size ((wr.alloc (.cells #[.int .i64 x.kind, .string x.name, .int .i64 x.n, .slice ax nx capx] 96)).alloc (.cells #[.int .i64 x.kind, .string x.name, .int .i64 x.n, .slice ax nx capx] 96)) ds) := Lib.hid ((HV.out.2.1.keepB (below_new _ _)).keepB (below_new _ _))
      obtain ⟨v0, hv0, hO0⟩ := HV.out.2.2
      have HV3 : Hid (Boxed ((wr.alloc (.cells #[.int .i64 x.kind, .string x.name, .int .i64 x.n, .slice ax nx capx] 96)).alloc (.cells #[.int .i64 x.kind, .string x.name, .int .i64 x.n, .slice ax nx capx] 96)) w.heap.size 50 v0) := Lib.hid ((hv0.alloc _).alloc _)
      have HO3 : Hid (OwnD 0 (w.heap.size + 1) 3 1 ((wr.alloc (.cells #[.int .i64 x.kind, .string x.name, .int .i64 x.n, .slice ax nx capx] 96)).alloc (.cells #[.int .i64 x.kind, .string x.name, .int .i64 x.n, .slice ax nx capx] 96)) v0 (intRows (vrs 3 [] (Tm.alls (ts.take k))))) := Lib.hid ((hO0.alloc _).alloc _)
      clear hv0 hO0
      go_wp2_with (first | (go_at_call 115; refine (allT_any _ _ _ _ _).mono ?_; rintro e w' ⟨rfl, rfl⟩))
      have HWR := Lib.hid HV.out.1.size
      obtain ⟨V0, hV0⟩ : ∃ V0, vrs 3 [] (Tm.alls (ts.take k)) = V0 := ⟨_, rfl⟩
      have HVN : Hid (vrs 3 V0 x.all = vrs 3 [] (Tm.alls (ts.take (k + 1)))) := Lib.hid (by rw [Tm.alls_at Hx.out, vrs_app, hV0])
      have HVL : Hid (V0.length + x.size ≤ 1048576) := Lib.hid (by
        have h1 := vrs_len 3 [] (Tm.alls (ts.take k))
        have h2 := Tm.alls_le (ts := ts) (k + 1)
        rw [Tm.alls_at Hx.out, List.length_append] at h2
        have e : x.all.length = x.size := rfl
        have := HS.out
        rw [hV0] at h1
        simp only [List.length_nil] at h1
        omega)
      have HXM : Hid (MemW w (.s 4 (Tm.rows x.args)) (.slice ax nx capx)) := Lib.hid (by
        obtain ⟨b', o', x', ax', nx', capx', e, _, Hx', y0, y1, y2, y3, GX'⟩ := H.out.at k hlt
        cases e
        have ex : x = x' := Option.some.inj (Hx.out.symm.trans Hx'.out)
        have e3 := (cell_below y3 HV.out.1).symm.trans x3
        subst ex
        injection e3 with e3
        injection e3 with e4 e5 e6
        subst e4; subst e5; subst e6
        exact GX'.out)
      rw [hV0] at HO3
      clear hV0 x0 x1 x2 x3 HV GX
      refine (wpIn_wide (n := 9)).1 ?_
      generalize ((wr.alloc (.cells #[.int .i64 x.kind, .string x.name, .int .i64 x.n, .slice ax nx capx] 96)).alloc (.cells #[.int .i64 x.kind, .string x.name, .int .i64 x.n, .slice ax nx capx] 96)) = w3 at *
      have hbs : ∀ q, q ∈ [w.heap.size] → q < w3.heap.size := fun q hq => by simp at hq; have := HSZ.out; have := HWR.out; omega
      have hseq : IterT Try.prog 166 #[.pointer (some ⟨wr.heap.size + 1, 0, none⟩)] w x [w.heap.size] [w.heap.size] w3 := all1_term HXM.out H2.out (Sd.new HB3.out hbs (fun q hq => by
        rcases hq with h | ⟨b', hb', n', c', hc'⟩
        · simp at h; have := HSZ.out; have := HWR.out; omega
        · obtain rfl : b' = w.heap.size := by simpa using hb'
          rw [HV3.out.cell] at hc'
          cases hc'
          have := HO3.out.lt q rfl
          omega))
      refine wpIn_rangeFunc_ownH (w0 := w3) rfl (by decide) (gf := 166) (lb := #[.pointer (some ⟨wr.heap.size + 1, 0, none⟩)]) rfl trivial (enters_of Try.func166 (by kernel_rfl) rfl)
        (hseq 8) (fun h k => KpT.trans h k) (KpT_b hbs) (Below.refl _ _) (fun _ => rfl)
        (fun pre W => HoldsD w.heap.size 0 (w.heap.size + 1) 50 3 1 (fun pre : List (Fx w) => intRows (vrs 3 V0 (pre.map Fx.t))) (fun _ => True) pre W ∧ (Below w.heap.size w W ∧ Marks w.heap.size W ds))
        (fun _ _ _ => False)
        (OwnFrom.and (Own.from (holdsD_own _ _ _ _ _ _ _ _) _) (OwnFrom.and (ownFrom_below (Nat.le_refl _) HB3.out.size) (Marks.own HM3.out)))
        (fun _ _ _ _ _ hs _ _ => hs)
        ⟨⟨_, HV3.out, HO3.out, trivial⟩, HB3.out, HM3.out⟩
        (fun z A' W => ∃ Bx, w.heap.size < Bx ∧ Bo W Bx 96 #[.int .i64 z.t.kind, .string z.t.name, .int .i64 z.t.n, .slice z.a z.n z.cap] ∧ A' = { tmps := #[.slice (some ⟨b, o, none⟩) n cap, u1, .slice none 0 0, .pointer (some ⟨w.heap.size, 0, none⟩), u4, .pointer (some ⟨wr.heap.size, 0, none⟩), .pointer (some ⟨Bx, 0, none⟩), .slice (some ⟨b, o, none⟩) n cap, .int .i64 n, .int .i64 k, .bool true, .pointer (some ⟨b, o + k * 4, none⟩), .agg #[.int .i64 x.kind, .string x.name, .int .i64 x.n, .slice ax nx capx], .agg #[.int .i64 x.kind, .string x.name, .int .i64 x.n, .slice ax nx capx], .func (.func 166) #[] #[.pointer (some ⟨wr.heap.size + 1, 0, none⟩)], .agg #[.int .i64 z.t.kind, .string z.t.name, .int .i64 z.t.n, .slice z.a z.n z.cap], u16, u17, u18, u19, u20, u21, u22, u23, u24, u25, u26, u27, u28, u29, u30, u31, u32], defers := [] })
        (fun z _ _ X Y row hs hg hr => by obtain ⟨Bx, e1, e2, e3⟩ := hs; exact ⟨Bx, e1, e2.own hg (fun r e => (hr r e).2), e3⟩)
        ?assign ?body ?done ?stop
      case assign =>
        rintro l pre z W K ⟨⟨v, hv, hO, _⟩, hB, hM⟩ hK
        simp only [Fx.enc]
        gi_wp2
        exact hK _ _ ((KeepsOthers.alloc _ _).from _) (KpT.alloc _ (fun q hq => by simp at hq; subst hq; exact hv.lt)) ⟨⟨v, hv.alloc _, hO.alloc _, trivial⟩, hB.alloc hB.size _, hM.keepB (below_new _ _)⟩ ⟨W.heap.size, hv.lt, Bo.new W _ _, rfl⟩
      case body =>
        rintro l pre z A' W hl ⟨r, hr⟩ ⟨⟨v, hv, hO, _⟩, hB, hM⟩ ⟨Bx, hBx, bX, rfl⟩ hltN
        obtain ⟨c0, c1, c2, c3⟩ := bX.c4
        have hO : OwnD 0 (w.heap.size + 1) 3 1 W v (intRows (vrs 3 V0 (pre.map Fx.t))) := hO
        obtain ⟨va, vc, rfl, _, _⟩ := hO.form
        rw [intRows_len] at *
        have cR := hv.cell
        have fR := hv.frozen
        have hVL := vrs_len 3 V0 (pre.map Fx.t)
        rw [List.length_map] at hVL
        have hsn : (pre ++ [z]).map Fx.t = pre.map Fx.t ++ [z.t] := by rw [List.map_append]; rfl
        have HSN : Hid (∀ V, vrs 3 V0 (pre.map Fx.t ++ [z.t]) = V → vrs 3 V0 ((pre ++ [z]).map Fx.t) = V) := Lib.hid fun V h => by rw [hsn]; exact h
        have HM := Lib.hid hM
        clear hM
        by_cases hk3 : z.t.kind = 3
        · have e3 : (z.t.kind == 3) = true := by rw [beq_iff_eq]; exact hk3
          by_cases hin : z.t.n ∈ vrs 3 V0 (pre.map Fx.t)
          · have HV := Lib.hid (HSN.out _ (vrs3_has hk3 hin))
            have HC := Lib.hid (contains_int_any z.t.n W hO.memW)
            rw [decide_eq_true hin] at HC
            have HO := Lib.hid hO
            have HH := Lib.hid hv
            have HB := Lib.hid hB
            clear hk3 hin hVL hsn hO hv hB hltN
            generalize vrs 3 V0 (pre.map Fx.t) = V at *
            gi_wp2_with (first | (refine ⟨trivial, ?_⟩; gi_at_call 116 ; refine (CallsIn.inRound l (callsIn_wide.2 HC.out)).mono ?_; rintro e w' ⟨rfl, rfl⟩) | (gi_at_call 116 ; refine (CallsIn.inRound l (callsIn_wide.2 HC.out)).mono ?_; rintro e w' ⟨rfl, rfl⟩))
            exact ⟨KeepsFrom.refl _ _, KpT.refl _ _ _, ⟨_, HH.out, by show OwnD _ _ _ _ _ _ (intRows (vrs 3 V0 ((pre ++ [z]).map Fx.t))); rw [HV.out]; exact HO.out, trivial⟩, HB.out, HM.out⟩
          · have HV := Lib.hid (HSN.out _ (vrs3_new hk3 hin))
            have HC := Lib.hid (contains_int_any z.t.n W hO.memW)
            rw [decide_eq_false hin] at HC
            have hgW : w.heap.size + 1 ≤ W.heap.size := hv.lt
            obtain ⟨v', w1, hrun, hb1, ⟨va', vc', rfl⟩, hkp, hkt, hbx, hown, hbel⟩ := app_int (P := Try.prog) (t := 50) (e := 3) 50 3 z.t.n Try.underlying50 info_int3 hv hO (Nat.lt_succ_self _) hgW (by have := HVL.out; omega)
            have HRUN := Lib.hid hrun
            have c1B := hb1.cell
            have f1B := hb1.frozen
            have HE : Hid (KeepsFrom w3.heap.size W _ ∧ KpT [w.heap.size] [w.heap.size] W _ ∧ HoldsD w.heap.size 0 (w.heap.size + 1) 50 3 1 (fun pre : List (Fx w) => intRows (vrs 3 V0 (pre.map Fx.t))) (fun _ => True) (pre ++ [z]) _ ∧ Below w.heap.size w _ ∧ Marks w.heap.size _ ds) :=
              Lib.hid ⟨hkp w3.heap.size, hkt, ⟨_, hbx, by show OwnD _ _ _ _ _ _ (intRows (vrs 3 V0 ((pre ++ [z]).map Fx.t))); rw [HV.out]; exact hown, trivial⟩, hbel w.heap.size w (Nat.le_refl _) (Nat.le_refl _) hB, HM.out.keep (hkp w.heap.size)⟩
            clear hk3 hin hVL hsn hO hv hB hltN hrun hb1 hkp hkt hbx hown hbel hgW
            gi_wp2_with (first
              | (refine ⟨trivial, ?_⟩; gi_at_call 116 ; refine (CallsIn.inRound l (callsIn_wide.2 HC.out)).mono ?_; rintro e w' ⟨rfl, rfl⟩)
              | (gi_at_call 116 ; refine (CallsIn.inRound l (callsIn_wide.2 HC.out)).mono ?_; rintro e w' ⟨rfl, rfl⟩)
              | (gi_at_builtin; refine wpListIn_ran (by rfl) _ _ (by rfl) (by rfl) (by rfl) HRUN.out ?_))
            exact HE.out
        · have e3 : (z.t.kind == 3) = false := by rw [beq_eq_false_iff_ne]; exact hk3
          have HV := Lib.hid (HSN.out _ (vrs3_not hk3))
          have HO := Lib.hid hO
          have HH := Lib.hid hv
          have HB := Lib.hid hB
          clear hk3 hVL hsn hO hv hB hltN
          gi_wp2
          refine ⟨trivial, ?_⟩
          gi_wp2
          exact ⟨KeepsFrom.refl _ _, KpT.refl _ _ _, ⟨_, HH.out, by show OwnD _ _ _ _ _ _ (intRows (vrs 3 V0 ((pre ++ [z]).map Fx.t))); rw [HV.out]; exact HO.out, trivial⟩, HB.out, HM.out⟩
      case done =>
        rintro D zs W hD hzs ⟨⟨v, hv, hO, _⟩, hB, hM⟩ hK
        have hO : OwnD 0 (w.heap.size + 1) 3 1 W v (intRows (vrs 3 V0 x.all)) := by rw [← hzs]; exact hO
        rw [HVN.out] at hO
        have HJ : Hid (VJ w ts (some ⟨b, o, none⟩) n cap (k + 1) ({ target := .collected D, args := #[] } :: ds) W) := Lib.hid ⟨hB, hM.more HM3.out hD (Nat.le_trans HB3.out.size hD) hK, v, hv, hO⟩
        clear hzs hv hO hB hM hK
        go_wp2
        exact ⟨⟨k + 1, by omega, _, ⟨by omega, rfl⟩, HJ.out⟩, by simp [intOf]; omega⟩
      case stop =>
        rintro D c pre W _ _ h _
        exact h.elim
    · obtain rfl : k = n := by omega
      have hltz : ¬ (k : Int) < (k : Int) := by omega
      obtain ⟨hb, hm, v, hv, hO⟩ := HV.out
      rw [List.take_of_length_le (by rw [HL.out]; exact Nat.le_refl _)] at hO
      obtain ⟨va, vc, rfl, _, _⟩ := hO.form
      have cR := hv.cell
      have fR := hv.frozen
      have HB := Lib.hid hb
      have HM := Lib.hid hm
      have HO := Lib.hid hO
      clear hb hm hv hO
      go_wp2
      refine leaves_mk (B := w.heap.size) (C := fun X => Below w.heap.size w X ∧ OwnD 0 (w.heap.size + 1) 3 1 X _ (intRows (vrs 3 [] (Tm.alls ts)))) (fun X D hC hBD hD => ⟨hC.1.trans (belowK_b (w := w) (Nat.le_refl _) X D _ _ hBD hD rfl rfl), hC.2.own (grownBy_putObj' X D (.deferred none)) (fun r e => by cases e; exact ⟨_, hD, rfl⟩)⟩) (fun X hC => ?_) ds wr HM.out ⟨HB.out, HO.out⟩
      exact ⟨_, results_tmp rfl _ _ _, _, _, _, rfl, hC.1, hC.2.mem.mono (fun q hq => ⟨.inr (by rcases hq.1 with h | h <;> omega), hq.2⟩) fun _ _ => rfl⟩
end Go.Proofs.Ytppejoccljfblaa
