/-
  deps.Reach: whom a node comes to, in order. No condition but how the graph lies, and how great it is.
-/
import Derived.Test.YtlhkkkmjoobpcaaGraph
import Derived.Test.YtlhkkkmjoobpcaaOwnQ
import Derived.Test.YtlhkkkmjoobpcaaSortI
import Derived.Maps.OwnOps
import Derived.Maps.Views
namespace Go.Proofs.Ytlhkkkmjoobpcaa
open Go.RowKit Go.Maps

theorem zeroIR (w : World) : (zeroValue 3).run Try.prog w = .ok (.int .i64 0) w := by kernel_rfl
def lenV : Value → Nat | .slice _ n _ => n | _ => 0
/-- Which nodes were met: how often. -/
structure Seen (w : World) (b nn T : Nat) (out : List Int) (D : DataW Unit) : Prop where
  own : w.ownsMap Try.prog 3 (plainElem Try.prog 3) b nn D
  map : IsMap D
  yes : ∀ k ∈ out, ∃ c : Int, D.atKey (.int .i64 k) (.lit (.int .i64 0)) = .lit (.int .i64 c) ∧ 1 ≤ c ∧ c ≤ T
  no : ∀ k, k ∉ out → D.atKey (.int .i64 k) (.lit (.int .i64 0)) = .lit (.int .i64 0)
  cnt : nn ≤ T
theorem Seen.keepG {w w' : World} {b nn T : Nat} {out : List Int} {D : DataW Unit} {r : Option Nat} (h : Seen w b nn T out D) (hg : w.grownBy w' r) (hr : r ≠ some b) : Seen w' b nn T out D :=
  ⟨World.ownsMap.kept (row := r) h.own hg (fun e => hr e.symm), h.map, h.yes, h.no, h.cnt⟩
theorem Seen.keep {w w' : World} {b nn T : Nat} {out : List Int} {D : DataW Unit} (h : Seen w b nn T out D) (hb : Below w.heap.size w w') : Seen w' b nn T out D :=
  h.keepG (r := none) ⟨hb.os, hb.tape, hb.output, hb.size, fun i hi _ => hb.block i hi⟩ (by simp)
theorem Seen.put {w w' : World} {b nn T : Nat} {out : List Int} {D : DataW Unit} {k c : Int} (h : Seen w b nn T out D) (hc : 1 ≤ c) (hT : c ≤ (T + 1 : Nat)) (hown : w'.ownsMap Try.prog 3 (plainElem Try.prog 3) b (nn + 1) (D.put (.int .i64 k) (.lit (.int .i64 c)))) {out' : List Int} (ho : ∀ x, x ∈ out' ↔ x ∈ out ∨ x = k) : Seen w' b (nn + 1) (T + 1) out' (D.put (.int .i64 k) (.lit (.int .i64 c))) := by
  refine ⟨hown, h.map.put _ _, fun x hx => ?_, fun x hx => ?_, by have := h.cnt; omega⟩
  · by_cases e : x = k
    · subst e
      exact ⟨c, atKey_put_same h.map (by simp [WideAt.IsKeyLit]) _ _, hc, by omega⟩
    · obtain ⟨c', h1, h2, h3⟩ := h.yes x (((ho x).1 hx).resolve_right e)
      exact ⟨c', by rw [atKey_put_other (fun e2 => e (by injection e2))]; exact h1, h2, by omega⟩
  · have hx' := fun h => hx ((ho x).2 h)
    have e : x ≠ k := fun e => hx' (.inr e)
    rw [atKey_put_other (fun e2 => e (by injection e2))]
    exact h.no x fun h => hx' (.inl h)
theorem ints_css {S : Nat → Prop} {w : World} : ∀ {xs : List Int} {css : List (List Value)}, All2 (fun r cs => cs.length = 1 ∧ All2 (Mem S w) r cs) (intRows xs) css → css = xs.map fun x => [Value.int .i64 x]
  | [], _, h => by cases h; rfl
  | x :: xs, _, h => by
    rw [show intRows (x :: xs) = [.v (.int .i64 x)] :: intRows xs from rfl] at h
    cases h with
    | cons h0 h =>
      obtain ⟨_, h1⟩ := h0
      cases h1 with
      | cons h2 h3 =>
        cases h3
        rw [ints_css h, h2.val]; rfl
theorem OwnD.keepI {B base : Nat} {e : TypeId} {w w' : World} {y : Value} {xs : List Int} {r : Option Nat} (h : OwnD B base e 1 w y (intRows xs)) (hg : w.grownBy w' r) (hr : ∀ k, y.ownBlock = some k → r ≠ some k) : OwnD B base e 1 w' y (intRows xs) := by
  obtain ⟨css, ho, hm⟩ := h
  have hc := ints_css hm
  subst hc
  refine ⟨_, ⟨ho.1, ?_⟩, rows_of_ints xs⟩
  rcases ho.2 with h | ⟨g, cap, cur, h1, hb, hgg, rest⟩
  · exact .inl h
  · exact .inr ⟨g, cap, cur, h1, hb, (hg.block g (Array.getElem?_eq_some_iff.1 hgg).1 (fun e => hr g (by rw [h1]; rfl) e.symm)).trans hgg, rest⟩
theorem lit_inj {D : DataW Unit} {kl : Lit} {z : DataW Unit} {c c' : Int} (h : D.atKey kl z = .lit (.int .i64 c)) (h' : D.atKey kl z = .lit (.int .i64 c')) : c = c' := by
  rw [h] at h'
  injection h' with h'
  injection h' with _ h'

theorem steps_len {l : List (List Int)} (hd : ∀ r ∈ l, r.length ≤ 1000) (j : Int) : (stepsG l j).length ≤ 1000 := by
  unfold stepsG
  split
  · refine Nat.le_trans (List.length_filter_le ..) ?_
    unfold rowG
    cases h : l[j.toNat]? with
    | none => simp
    | some r => exact hd r (List.mem_of_getElem? h)
  · simp
set_option maxRecDepth 100000 in
set_option maxHeartbeats 20000000 in
theorem reach_any {l : List (List Int)} {n cap : Nat} {a : Option Addr} (i : Int) (w : World) (h : MemW w (.s 1 (grRows l)) (.slice a n cap)) (hd : ∀ r ∈ l, r.length ≤ 1000) (hn : n ≤ 1000) :
    Calls Try.prog 12 #[.slice a n cap, .int .i64 i] w fun e w' => ∃ y, e = .returned y ∧ OwnD 0 (w.heap.size + 1) 3 1 w' y (intRows (risingL (marksR l i))) ∧ Below w.heap.size w w' := by
  have hl := gr_len h
  have HL := Lib.hid hl.1
  have HN := Lib.hid hn
  have HW1 := Lib.hid (below_new w (.map #[] 0))
  have H1 := Lib.hid (MemW.keep h HW1.out)
  have H := Lib.hid h
  have HD := Lib.hid hd
  have HSZ : Hid ((w.alloc (.map #[] 0)).heap.size = w.heap.size + 1) := Lib.hid (World.size_alloc _ _)
  have HM1 : Hid (Seen (w.alloc (.map #[] 0)) w.heap.size 0 0 [] (.map [])) := Lib.hid ⟨World.ownsMap_made w Try.prog 3 _, isMap_empty, fun k hk => (nomatch hk), fun k _ => rfl, Nat.le_refl _⟩
  have hmm := @run_makeMap Try.prog
  clear hl h hd hn
  go_enter Try.func12, Try.ntmps12
  go_wp2_with fail
  clear hmm
  refine (steps_any i _ H1.out HD.out).mono ?_
  rintro e w2 ⟨y2, rfl, ho2, hb2⟩
  have HM2 := Lib.hid (Seen.keep HM1.out hb2)
  have HB2 := Lib.hid (HW1.out.trans (hb2.mono HW1.out.size))
  rw [HSZ.out] at ho2
  have HQ2 := Lib.hid (OwnQ.of ho2)
  clear ho2 hb2 HM1 H1 HW1 HSZ
  go_wp2_with fail
  have hmu : ∀ x ∈ stepsG l i, okN n x = true := fun x hx => by rw [← HL.out]; exact stepsG_ok hx
  have HDG : Hid (∀ j, (stepsG l j).length ≤ 1000) := Lib.hid fun j => steps_len HD.out j
  go_loopw [6, 7] (fun v6 v7 wr => ∃ (q out : List Int) (D : DataW Unit) (nn T : Nat), Hid (OwnD 0 (w.heap.size + 1) 3 1 wr v6 (intRows out)) ∧ Hid (OwnQ (w.heap.size + 1) 3 wr v7 q) ∧ Hid (∀ g, v6.ownBlock = some g → v7.ownBlock ≠ some g) ∧ Hid (Bfs l i q out) ∧ Hid (Seen wr w.heap.size nn T out D) ∧ Hid (Below w.heap.size w wr) ∧ T + ((n - out.length) * 1001 + q.length) ≤ n * 1001 + 1000) (fun v6 v7 _ => (n - lenV v6) * 1001 + lenV v7)
  case atStart => exact ⟨stepsG l i, [], .map [], 0, 0, Lib.hid (OwnD.nil _ _ _ _ _), HQ2, Lib.hid (fun g hg => by cases hg), Lib.hid (Bfs.start l i), HM2, HB2, by have := HDG.out i; simp only [List.length_nil]; omega⟩
  case round =>
    obtain ⟨q, out, D, nn, T, HO, HQ, HNE, HBF, HS, HB, hT⟩ := hrel
    obtain ⟨a6, c6, rfl, hc6, hm6⟩ := HO.out.form
    obtain ⟨a7, c7, rfl, hc7, hm7⟩ := HQ.out.form
    have hof := HBF.out.few
    rw [HL.out] at hof
    have hlo : (intRows out).length = out.length := intRows_len out
    rw [hlo] at hc6 HO HNE
    cases q with
    | nil =>
      have HON := Lib.hid (show out.length ≤ 1000000 by have := HN.out; omega)
      go_wp2_with fail
      refine (sortI_any HO.out HON.out).mono ?_
      rintro e w4 ⟨rfl, L, hp, hs, ho, hg⟩
      have HF := Lib.hid (reach_sorted HBF.out hp hs)
      have HO4 := Lib.hid ho
      have HB4 := Lib.hid (grown_below HB.out hg (Nat.le_refl _) (fun g hg => by have := (HO.out.lt g hg).1; omega))
      clear hp hs ho hg
      go_wp2_with fail
      go_ret
      exact ⟨_, rfl, by rw [← HF.out]; exact HO4.out, HB4.out⟩
    | cons k q =>
      have hk := okN_iff.1 (HBF.out.rch k (.inl (List.mem_cons_self ..))).ok
      rw [HL.out] at hk
      have HWK : Hid ((Lit.int .i64 k).wf = true) := Lib.hid (WalkArith.wf_i64 (by have := HN.out; omega))
      obtain ⟨g7, o7, rfl, hml, hg7, hl7, x0, hcc, HTL⟩ := HQ.out.head
      have HTL := Lib.hid HTL
      have HNN : Hid (nn < maxLen) := Lib.hid (by have := HS.out.cnt; have := HN.out; unfold maxLen; omega)
      generalize hm : (k :: q).length = m at *
      have hmq : m = q.length + 1 := by rw [← hm]; rfl
      clear hm hml
      have hm0 : (0 : Int) < (m : Int) := by omega
      have hm1 : 0 < m := by omega
      have hm2 : (1 : Int) ≤ (m : Int) := by omega
      have hm3 : (m : Int) ≤ (c7 : Int) := by omega
      have hm4 : (1 : Int) ≤ (c7 : Int) := by omega
      have hmq1 : m - 1 = q.length := by omega
      have HMQ := Lib.hid hmq
      clear hmq
      have tk0 : True := trivial
      have tk1 : True := trivial
      have HOF := Lib.hid hof
      by_cases hko : k ∈ out
      · obtain ⟨c, hc1, hc2, hc3⟩ := HS.out.yes k hko
        have hcT : c ≤ 3000000 := by have := HN.out; omega
        have HC := Lib.hid hc1
        have HKO := Lib.hid hko
        have HC3 := Lib.hid hc3
        have hwc : (Lit.int .i64 (c + 1)).wf = true := WalkArith.wf_i64 (by omega)
        have hc4 : (1 : Int) < c + 1 := by omega
        have hc5 : decide ((1 : Int) < c + 1) = true := decide_eq_true hc4
        by_cases hc7 : c7 = 1
        · have hct : (c7 = 1) = True := eq_true hc7
          rw [if_pos hc7] at HTL
          clear hc7 hc1 hko hof
          go_wp2_with (first
            | (at_lookup
               have _t := tk0
               clear _t tk0
               refine wpList_lookup_own_int _ rfl _ _ 38 rfl 3 3 .i64 (int_keyed Try.underlying3) Try.underlying38 Try.underlying3 (zeroIR _) w.heap.size nn D rfl HS.out.own _ _ rfl (keyOf_int_mk Try.underlying3 HWK.out) ?_
               intro c0 hat _
               obtain rfl := lit_inj HC.out hat
               clear hat)
            | (at_mapUpdate
               refine wpList_mapUpdate_own _ rfl _ _ _ 38 rfl 3 3 (int_keyed Try.underlying3) Try.underlying38 _ w.heap.size nn _ rfl HS.out.own HNN.out _ _ _ rfl rfl (keyOf_int_mk Try.underlying3 HWK.out) _ [] (plainElem_int Try.underlying3 hwc) ?_
               intro w5 hown hgrow
               have HS5 := Lib.hid (HS.out.put (k := k) (c := c + 1) (by omega) (by have := HC3.out; omega) hown (out' := out) (fun x => ⟨.inl, fun h => h.elim id (fun e => e ▸ HKO.out)⟩))
               have HG5 := Lib.hid hgrow
               have HO5 := Lib.hid (OwnD.keepI HO.out hgrow (fun g hg e => by have := (HO.out.lt g hg).1; injection e with e; omega))
               have HQ5 := Lib.hid (OwnQ.keepG HQ.out hgrow (fun g hg e => by have := (HQ.out.lt g hg).1; injection e with e; omega))
               have HB5 := Lib.hid (grown_below HB.out hgrow (Nat.le_refl _) (fun g hg => by injection hg with hg; omega))
               have hz5 := hgrow.size
               clear hown hgrow)
            | (at_lookup
               refine wpList_lookup_own_int _ rfl _ _ 38 rfl 3 3 .i64 (int_keyed Try.underlying3) Try.underlying38 Try.underlying3 (zeroIR _) w.heap.size (nn + 1) _ rfl HS5.out.own _ _ rfl (keyOf_int_mk Try.underlying3 HWK.out) ?_
               intro c1 hat _
               obtain rfl := lit_inj (atKey_put_same HS.out.map (by simp [WideAt.IsKeyLit]) _ _) hat
               clear hat))
          have hmq := HMQ.out
          refine ⟨⟨q, out, _, nn + 1, T + 1, HO5, Lib.hid (HTL.out.keepG HG5.out (fun g hg e => by have hg' : g7 = g := Option.some.inj hg; injection e with e; omega)), Lib.hid (fun g hg => HNE.out g hg), Lib.hid (HBF.out.skip HKO.out), HS5, HB5, by omega⟩, ?_⟩
          simp only [lenV]
          omega
        · rw [if_neg hc7] at HTL
          clear hc1 hko hof
          go_wp2_with (first
            | (at_lookup
               have _t := tk0
               clear _t tk0
               refine wpList_lookup_own_int _ rfl _ _ 38 rfl 3 3 .i64 (int_keyed Try.underlying3) Try.underlying38 Try.underlying3 (zeroIR _) w.heap.size nn D rfl HS.out.own _ _ rfl (keyOf_int_mk Try.underlying3 HWK.out) ?_
               intro c0 hat _
               obtain rfl := lit_inj HC.out hat
               clear hat)
            | (at_mapUpdate
               refine wpList_mapUpdate_own _ rfl _ _ _ 38 rfl 3 3 (int_keyed Try.underlying3) Try.underlying38 _ w.heap.size nn _ rfl HS.out.own HNN.out _ _ _ rfl rfl (keyOf_int_mk Try.underlying3 HWK.out) _ [] (plainElem_int Try.underlying3 hwc) ?_
               intro w5 hown hgrow
               have HS5 := Lib.hid (HS.out.put (k := k) (c := c + 1) (by omega) (by have := HC3.out; omega) hown (out' := out) (fun x => ⟨.inl, fun h => h.elim id (fun e => e ▸ HKO.out)⟩))
               have HG5 := Lib.hid hgrow
               have HO5 := Lib.hid (OwnD.keepI HO.out hgrow (fun g hg e => by have := (HO.out.lt g hg).1; injection e with e; omega))
               have HQ5 := Lib.hid (OwnQ.keepG HQ.out hgrow (fun g hg e => by have := (HQ.out.lt g hg).1; injection e with e; omega))
               have HB5 := Lib.hid (grown_below HB.out hgrow (Nat.le_refl _) (fun g hg => by injection hg with hg; omega))
               have hz5 := hgrow.size
               clear hown hgrow)
            | (at_lookup
               refine wpList_lookup_own_int _ rfl _ _ 38 rfl 3 3 .i64 (int_keyed Try.underlying3) Try.underlying38 Try.underlying3 (zeroIR _) w.heap.size (nn + 1) _ rfl HS5.out.own _ _ rfl (keyOf_int_mk Try.underlying3 HWK.out) ?_
               intro c1 hat _
               obtain rfl := lit_inj (atKey_put_same HS.out.map (by simp [WideAt.IsKeyLit]) _ _) hat
               clear hat))
          have hmq := HMQ.out
          refine ⟨⟨q, out, _, nn + 1, T + 1, HO5, Lib.hid (HTL.out.keepG HG5.out (fun g hg e => by have hg' : g7 = g := Option.some.inj hg; injection e with e; omega)), Lib.hid (fun g hg => HNE.out g hg), Lib.hid (HBF.out.skip HKO.out), HS5, HB5, by omega⟩, ?_⟩
          simp only [lenV]
          omega
      · have HC := Lib.hid (HS.out.no k hko)
        have HKN := Lib.hid hko
        have HC3 : Hid ((0 : Int) ≤ T) := Lib.hid (by omega)
        have hwc : (Lit.int .i64 1).wf = true := by decide
        clear hko hof
        go_wp2_with (first
          | (at_lookup
             have _t := tk0
             clear _t tk0
             refine wpList_lookup_own_int _ rfl _ _ 38 rfl 3 3 .i64 (int_keyed Try.underlying3) Try.underlying38 Try.underlying3 (zeroIR _) w.heap.size nn D rfl HS.out.own _ _ rfl (keyOf_int_mk Try.underlying3 HWK.out) ?_
             intro c0 hat _
             obtain rfl := lit_inj HC.out hat
             clear hat)
          | (at_mapUpdate
             refine wpList_mapUpdate_own _ rfl _ _ _ 38 rfl 3 3 (int_keyed Try.underlying3) Try.underlying38 _ w.heap.size nn _ rfl HS.out.own HNN.out _ _ _ rfl rfl (keyOf_int_mk Try.underlying3 HWK.out) _ [] (plainElem_int Try.underlying3 hwc) ?_
             intro w5 hown hgrow
             have HS5 := Lib.hid (HS.out.put (k := k) (c := 1) (by omega) (by have := HC3.out; omega) hown (out' := out ++ [k]) (fun x => by rw [List.mem_append, List.mem_singleton]))
             have HG5 := Lib.hid hgrow
             have HO5 := Lib.hid (OwnD.keepI HO.out hgrow (fun g hg e => by have := (HO.out.lt g hg).1; injection e with e; omega))
             have HQ5 := Lib.hid (OwnQ.keepG HQ.out hgrow (fun g hg e => by have := (HQ.out.lt g hg).1; injection e with e; omega))
             have HB5 := Lib.hid (grown_below HB.out hgrow (Nat.le_refl _) (fun g hg => by injection hg with hg; omega))
             have hz5 := hgrow.size
             clear hown hgrow)
          | (at_lookup
             refine wpList_lookup_own_int _ rfl _ _ 38 rfl 3 3 .i64 (int_keyed Try.underlying3) Try.underlying38 Try.underlying3 (zeroIR _) w.heap.size (nn + 1) _ rfl HS5.out.own _ _ rfl (keyOf_int_mk Try.underlying3 HWK.out) ?_
             intro c1 hat _
             obtain rfl := lit_inj (atKey_put_same HS.out.map (by simp [WideAt.IsKeyLit]) _ _) hat
             clear hat)
          | (at_builtin
             have _t := tk1
             clear _t tk1
             refine wpList_append_D2 rfl _ _ rfl Try.underlying27 info_intG rfl (by decide) rfl rfl (HO5.out.alloc _) (own_int k _ rfl HO5.out (by omega)) (by have := HOF.out; simp only [intRows_len, List.length_cons, List.length_nil]; have := HN.out; omega) (by have := HOF.out; simp only [intRows_len, List.length_cons, List.length_nil]; have := HN.out; omega) (by rw [World.size_alloc]; omega) ?_
             intro v8 w8 ho hg hgn
             have HO8 := Lib.hid ho
             rw [← intRows_app] at HO8
             have hz8 := hg.size
             rw [World.size_alloc] at hz8
             have HB8 := Lib.hid (grown_below (HB5.out.alloc HB5.out.size _) hg (Nat.le_refl _) (fun g hg => by have := (HO5.out.lt g hg).1; omega))
             have HQ8 := Lib.hid (OwnQ.keepG (HQ5.out.keep (below_new w5 _)) hg (fun g h1 h2 => HNE.out g h2 h1))
             have HS8 := Lib.hid (Seen.keepG (HS5.out.keep (below_new w5 _)) hg (fun e => by have := (HO5.out.lt _ e).1; omega))
             have HE8 : Hid (∀ g, v8.ownBlock = some g → g ≠ g7) := Lib.hid fun g hg8 => by
               rcases hgn with hgn | hgn
               · rw [hgn] at hg8
                 intro e
                 exact HNE.out g hg8 (by rw [e]; rfl)
               · have := hgn g hg8
                 rw [World.size_alloc] at this
                 omega
             clear ho hg hgn)
          | (go_at_call 17
             refine (steps_any k w8 (MemW.keep H.out HB8.out) HD.out).mono ?_
             rintro e w9 ⟨y9, rfl, ho9, hb9⟩
             obtain ⟨a9, c9, rfl, _, _⟩ := ho9.form
             have HM9 := Lib.hid ho9.memW
             have hz9 := hb9.size
             have HB9 := Lib.hid (HB8.out.trans (hb9.mono HB8.out.size))
             have HO9 := Lib.hid (HO8.out.keep hb9)
             have HQ9 := Lib.hid (HQ8.out.keep hb9)
             have HS9 := Lib.hid (HS8.out.keep hb9)
             have HL8 : Hid (∀ g, v8.ownBlock = some g → g < w9.heap.size) := Lib.hid fun g hg8 => by have := (HO8.out.lt g hg8).2; omega
             clear ho9 hb9)
          | (at_builtin; refine Hid.out ?_))
        refine Lib.hid ?_
        refine listx_app rfl (.tmp 33) (.tmp 36) rfl rfl rfl (run_append_Q (base := w.heap.size + 1) 27 Try.underlying27 info_intG rfl HQ9.out HM9.out (fun b hb => hb) (by omega) (by have := HDG.out k; simp only [List.length_cons]; have := HN.out; omega)) ?_
        rintro v10 w10 ⟨hq10, hg10, hn10⟩
        have HO10 := Lib.hid (OwnD.keepI HO9.out hg10 (fun g hg e => HE8.out g hg (Option.some.inj e : g7 = g).symm))
        have HS10 := Lib.hid (Seen.keepG HS9.out hg10 (fun e => by have h1 : g7 = w.heap.size := Option.some.inj e; omega))
        have HB10 := Lib.hid (grown_below HB9.out hg10 (Nat.le_refl _) (fun g hg => by have h1 : g7 = g := Option.some.inj hg; omega))
        have HE10 : Hid (∀ g, v8.ownBlock = some g → v10.ownBlock ≠ some g) := Lib.hid fun g hg e => by
          rcases hn10 with hn10 | hn10
          · rw [hn10] at e
            exact HE8.out g hg (Option.some.inj e : g7 = g).symm
          · have h1 := hn10 g e
            have h2 := HL8.out g hg
            omega
        have hq10' : OwnQ (w.heap.size + 1) 3 w10 v10 (k :: (q ++ stepsG l k)) := hq10
        obtain ⟨a10, c10, rfl, hc10, hm10⟩ := hq10'.form
        obtain ⟨g10, o10, rfl, hml, _, _, _, hcc10, HT10⟩ := hq10'.head
        clear hml
        have HT10 := Lib.hid HT10
        clear hq10 hq10' hg10 hn10 HQ9 HM9 HO9 HS9 HB9 HO8 HQ8 HS8 HB8
        generalize hmm : (k :: (q ++ stepsG l k)).length = m2 at *
        have hmq2 : m2 = (q ++ stepsG l k).length + 1 := by rw [← hmm]; rfl
        clear hmm
        have hm20 : (0 : Int) < (m2 : Int) := by omega
        have hm22 : (1 : Int) ≤ (m2 : Int) := by omega
        have hm23 : (m2 : Int) ≤ (c10 : Int) := by omega
        have hm24 : (1 : Int) ≤ (c10 : Int) := by omega
        have hm25 : m2 - 1 = (q ++ stepsG l k).length := by omega
        have HMQ2 := Lib.hid hmq2
        clear hmq2
        by_cases hc11 : c10 = 1
        · have hct : (c10 = 1) = True := eq_true hc11
          rw [if_pos hc11] at HT10
          clear hc11
          go_wp2
          have hmq := HMQ.out
          have hmq2 := HMQ2.out
          rw [List.length_append] at HT10 hmq2
          refine ⟨⟨q ++ stepsG l k, out ++ [k], _, nn + 1, T + 1, HO10, HT10, Lib.hid (fun g hg => HE10.out g hg), Lib.hid (HBF.out.take HKN.out), HS10, HB10, ?_⟩, ?_⟩
          · have h1 := (HBF.out.take HKN.out).few
            rw [HL.out, List.length_append, List.length_cons, List.length_nil] at h1
            have h2 := HDG.out k
            simp only [List.length_append, List.length_cons, List.length_nil]
            omega
          · have h1 := (HBF.out.take HKN.out).few
            rw [HL.out, List.length_append, List.length_cons, List.length_nil] at h1
            have h2 := HDG.out k
            have h3 : lenV v8 = out.length + 1 := by
              obtain ⟨a8, c8, e8, _, _⟩ := HO10.out.form
              rw [e8]
              simp only [lenV, intRows_len, List.length_append, List.length_cons, List.length_nil]
            rw [h3]
            simp only [lenV]
            omega
        · rw [if_neg hc11] at HT10
          go_wp2
          have hmq := HMQ.out
          have hmq2 := HMQ2.out
          rw [List.length_append] at HT10 hmq2
          refine ⟨⟨q ++ stepsG l k, out ++ [k], _, nn + 1, T + 1, HO10, HT10, Lib.hid (fun g hg => HE10.out g hg), Lib.hid (HBF.out.take HKN.out), HS10, HB10, ?_⟩, ?_⟩
          · have h1 := (HBF.out.take HKN.out).few
            rw [HL.out, List.length_append, List.length_cons, List.length_nil] at h1
            have h2 := HDG.out k
            simp only [List.length_append, List.length_cons, List.length_nil]
            omega
          · have h1 := (HBF.out.take HKN.out).few
            rw [HL.out, List.length_append, List.length_cons, List.length_nil] at h1
            have h2 := HDG.out k
            have h3 : lenV v8 = out.length + 1 := by
              obtain ⟨a8, c8, e8, _, _⟩ := HO10.out.form
              rw [e8]
              simp only [lenV, intRows_len, List.length_append, List.length_cons, List.length_nil]
            rw [h3]
            simp only [lenV]
            omega
end Go.Proofs.Ytlhkkkmjoobpcaa
