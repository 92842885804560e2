/-
  subst.replaced with Canon's function: a term, its variables numbered anew. No condition but how it lies, and how great it is.
-/
import Derived.Test.YtppejoccljfblaaAv15
import Derived.Test.YtppejoccljfblaaAv4
import Derived.Test.YtppejoccljfblaaAv11
namespace Go.Proofs.Ytppejoccljfblaa
open Go.RowKit
attribute [local go_sem ↓] store_tmC
attribute [local go_sem] stOk_tmC
attribute [local go_sem] stB_eq stC_eq wr_drew wr_alloc wr_row
attribute [local go_sem ↓] wp_store_O
attribute [local go_sem] stO_eq stF_eq wrO_set

theorem RR.put0 {w : World} {base q : Nat} {d : Array El} (h : RR base q d w) {i : Nat} (hi : i < d.size) (e : El) (he : Mem (fun b => Nw 0 base w.heap.size b ∧ b ≠ q) w (.s 4 (Tm.rows e.t.args)) (.slice e.a e.n e.cap)) : RR base q (d.setIfInBounds i e) (w.setCells q (i * 4) e.cells.toList) := by
  have := h.put hi e he
  rwa [Nat.zero_add] at this
theorem RR.wr0 {w : World} {base q : Nat} {d : Array El} (h : RR base q d w) {i : Nat} (hi : i < d.size) : WrO w q (i * 4) := by
  have := h.row.wr hi
  rwa [Nat.zero_add] at this
/-- So many elements are laid. -/
def Laid (f : Int → Int) (ts : List Tm) (d : Array El) (k : Nat) : Prop := ∀ j x, j < k → ts[j]? = some x → d[j]!.t = canT f x
theorem Laid.put {f : Int → Int} {ts : List Tm} {d : Array El} {k : Nat} (h : Laid f ts d k) (hk : k < d.size) {x : Tm} (hx : ts[k]? = some x) (e : El) (he : e.t = canT f x) : Laid f ts (d.setIfInBounds k e) (k + 1) := by
  intro j y hj hy
  by_cases hjk : j = k
  · subst hjk
    have e1 : (d.setIfInBounds j e)[j]! = e := by simp [hk]
    rw [e1, he]
    congr 1
    exact Option.some.inj (hx.symm.trans hy)
  · have e1 : (d.setIfInBounds k e)[j]! = d[j]! := by
      have hj' : j < d.size := by omega
      simp [hj', Ne.symm hjk]
    rw [e1]
    exact h j y (by omega) hy
theorem Laid.all {f : Int → Int} {ts : List Tm} {d : Array El} (h : Laid f ts d ts.length) (hd : d.size = ts.length) : d.toList.map (·.t) = canTs f ts := by
  rw [canTs_eq]
  refine List.ext_getElem (by simp [hd]) fun i h1 h2 => ?_
  have hi : i < ts.length := by simpa using h2
  have hi' : i < d.size := by omega
  have := h i ts[i] hi (List.getElem?_eq_getElem hi)
  simp only [List.getElem_map, Array.getElem_toList]
  rw [← this]
  simp [hi']

set_option maxRecDepth 100000 in
set_option maxHeartbeats 20000000 in
theorem replacedC_any {V : List Int} (hnd : V.Nodup) (m : Nat) : ∀ (t : Tm) (q b n cap : Nat) (a : Option Addr) (w : World), t.size ≤ m → m ≤ 1048576 → VarsIn V t → t.ok → w.cell? ⟨q, 0, none⟩ = some (.map (some b)) → MapAt w b V V.length → MemW w (.s 4 (Tm.rows t.args)) (.slice a n cap) →
    Calls Try.prog 168 #[.agg #[.int .i64 t.kind, .string t.name, .int .i64 t.n, .slice a n cap], .func (.func 169) #[] #[.pointer (some ⟨q, 0, none⟩)]] w (GivesT 0 (canT (idxI V) t) w) := by
  induction m with
  | zero => intro t _ _ _ _ _ w h; have := t.size_pos; omega
  | succ m ih =>
    intro t q b n cap a w hm hmm hV hok hq hM ht
    have IH := Lib.hid ih
    clear ih
    have HW1 := Lib.hid (((below_new w (.cells #[.int .i64 t.kind, .string t.name, .int .i64 t.n, .slice a n cap] 96)).alloc (by simp) (.cells #[.int .i64 0, .string ⟨#[]⟩, .int .i64 0, .slice none 0 0] 96)))
    have HX := Lib.hid ((Bo.new w 96 #[.int .i64 t.kind, .string t.name, .int .i64 t.n, .slice a n cap]).alloc (.cells #[.int .i64 0, .string ⟨#[]⟩, .int .i64 0, .slice none 0 0] 96))
    have HY := Lib.hid (World.size_alloc w (.cells #[.int .i64 t.kind, .string t.name, .int .i64 t.n, .slice a n cap] 96) ▸ Bo.new (w.alloc (.cells #[.int .i64 t.kind, .string t.name, .int .i64 t.n, .slice a n cap] 96)) 96 #[.int .i64 0, .string ⟨#[]⟩, .int .i64 0, .slice none 0 0])
    have HZ1 : Hid (((w.alloc (.cells #[.int .i64 t.kind, .string t.name, .int .i64 t.n, .slice a n cap] 96)).alloc (.cells #[.int .i64 0, .string ⟨#[]⟩, .int .i64 0, .slice none 0 0] 96)).heap.size = w.heap.size + 2) := Lib.hid (by simp)
    have HQ := Lib.hid hq
    have HMP := Lib.hid hM
    have HT := Lib.hid ht
    obtain ⟨x0, x1, x2, x3⟩ := HX.out.c4
    by_cases hk : t.kind = 3
    · have hwf : (Lit.int .i64 t.n).wf = true := WalkArith.wf_i64 ((hok t (by rw [Tm.all_eq]; exact List.mem_cons_self ..)).2)
      have HC := Lib.hid (canon1_any (cell_below hq HW1.out) (hM.keep HW1.out) (hV.head hk) hnd hwf)
      have e1 : (t.kind == 3) = true := by rw [beq_iff_eq]; exact hk
      have HF := Lib.hid (canT_var (idxI V) hk)
      clear hq hM ht hm hmm hk hV hok hwf hnd
      generalize idxI V t.n = i at *
      go_enter Try.func168, Try.ntmps168
      go_wp2_with (first | (go_at_call 169 ; refine HC.out.mono ?_; rintro e w2 ⟨rfl, hb⟩; have HB2 := Lib.hid hb; clear hb; have HY2 := Lib.hid (HY.out.keep HB2.out); have hwr : Wr w2 (w.heap.size + 1) 96 4 := HY2.out.wr; have hz2 := HY2.out.lt))
      have HR := Lib.hid (fun (o : Obj) => ((HY2.out.alloc o).row #[.int .i64 3, .string ⟨#[]⟩, .int .i64 i, .slice none 0 0]).c4)
      refine bodyPost_ret (v := .agg #[.int .i64 3, .string ⟨#[]⟩, .int .i64 i, .slice none 0 0]) (by simp [results, Try.results168, go_sem, HR.out]) rfl ?_
      rw [HF.out]
      exact ⟨none, 0, 0, rfl, below_setRow ((HW1.out.trans (HB2.out.mono HW1.out.size)).alloc (Nat.le_trans HW1.out.size HB2.out.size) _) (by omega) _, by show Mem _ _ (.s 4 (Tm.rows [])) _; rw [Tm.rows]; exact .e _ _ _ (by decide)⟩
    · have e1 : (t.kind == 3) = false := by rw [beq_eq_false_iff_ne]; exact hk
      have HF := Lib.hid (canT_not (idxI V) hk)
      have hl := ht.len
      rw [Tm.rows_len] at hl
      have hln := Lib.hid hl.1
      have hcap := hl.2.1
      have hmx := hl.2.2
      by_cases hn0 : n = 0
      · have e5 : ((n : Int) == 0) = true := by rw [beq_iff_eq]; omega
        have HN0 := Lib.hid hn0
        have HA0 : Hid (t.args = []) := Lib.hid (List.length_eq_zero_iff.1 (by omega))
        have hwr : Wr ((w.alloc (.cells #[.int .i64 t.kind, .string t.name, .int .i64 t.n, .slice a n cap] 96)).alloc (.cells #[.int .i64 0, .string ⟨#[]⟩, .int .i64 0, .slice none 0 0] 96)) (w.heap.size + 1) 96 4 := HY.out.wr
        clear hq hM ht hm hmm hk hl hV hok hn0 hnd
        go_enter Try.func168, Try.ntmps168
        go_wp2
        have HR := Lib.hid (HY.out.row #[.int .i64 t.kind, .string t.name, .int .i64 t.n, .slice a n cap]).c4
        refine bodyPost_ret (v := .agg #[.int .i64 t.kind, .string t.name, .int .i64 t.n, .slice a n cap]) (by simp [results, Try.results168, go_sem, HR.out]) rfl ?_
        rw [HF.out]
        refine ⟨a, n, cap, rfl, below_setRow HW1.out (by omega) _, ?_⟩
        show Mem _ _ (.s 4 (Tm.rows (canTs _ t.args))) _
        have hT := HT.out
        rw [HA0.out] at hT ⊢
        rw [canTs, Tm.rows] at *
        exact Mem.none_to hT
      · have e5 : ((n : Int) == 0) = false := by rw [beq_eq_false_iff_ne]; omega
        have HA := Lib.hid (show ∀ x ∈ t.args, x.size ≤ m from fun x hx => by have := Tm.size_arg hx; omega)
        have HVA := Lib.hid (show ∀ x ∈ t.args, VarsIn V x from fun x hx => hV.arg hx)
        have HOA := Lib.hid (show ∀ x ∈ t.args, x.ok from fun x hx y hy => hok y (Tm.args_all x hx y hy))
        have hn9 : n ≤ 1048576 := by
          have h1 : t.size ≤ 1048576 := by omega
          rw [Tm.size_eq] at h1
          have h2 := Tm.len_args t.args
          omega
        have HMM := Lib.hid (show m ≤ 1048576 by omega)
        have hmk := run_madeT n hn9
        have HRR := Lib.hid (RR.made ((w.alloc (.cells #[.int .i64 t.kind, .string t.name, .int .i64 t.n, .slice a n cap] 96)).alloc (.cells #[.int .i64 0, .string ⟨#[]⟩, .int .i64 0, .slice none 0 0] 96)) (w.heap.size + 2) n 96 (by rw [HZ1.out]; exact Nat.le_refl _))
        have HW2 := Lib.hid (HW1.out.alloc HW1.out.size (.cells (madeT n) 96))
        have HX2 := Lib.hid (HX.out.alloc (.cells (madeT n) 96))
        have HY2 := Lib.hid (HY.out.alloc (.cells (madeT n) 96))
        rw [HZ1.out] at HRR
        obtain ⟨y0, y1, y2, y3⟩ := HX2.out.c4
        clear hq hM ht hm hmm hk hl hV hok hn0 hnd
        go_enter Try.func168, Try.ntmps168
        go_wp2
        clear x0 x1 x2 x3 y0 y1 y2 y3 hmk
        generalize ((w.alloc (.cells #[.int .i64 t.kind, .string t.name, .int .i64 t.n, .slice a n cap] 96)).alloc (.cells #[.int .i64 0, .string ⟨#[]⟩, .int .i64 0, .slice none 0 0] 96)).alloc (.cells (madeT n) 96) = W2 at *
        go_loopw [8, 34] (fun _ i wr => ∃ (k : Nat) (d : Array El), k ≤ n ∧ i = .int .i64 k ∧ d.size = n ∧ Hid (Below w.heap.size w wr) ∧ Hid (Bo wr w.heap.size 96 #[.int .i64 t.kind, .string t.name, .int .i64 t.n, .slice a n cap]) ∧ Hid (Bo wr (w.heap.size + 1) 96 #[.int .i64 0, .string ⟨#[]⟩, .int .i64 0, .slice none 0 0]) ∧ Hid (RR (w.heap.size + 2) (w.heap.size + 2) d wr) ∧ Hid (Laid (idxI V) t.args d k)) (fun _ i _ => n - (intOf i).toNat)
        case atStart => exact ⟨0, Array.replicate n default, Nat.zero_le _, rfl, by simp, HW2, HX2, HY2, HRR, Lib.hid (fun j x hj => absurd hj (Nat.not_lt_zero _))⟩
        case round =>
          obtain ⟨k, d, hk, rfl, hd, HB, HX1, HY1, HRW, HLD⟩ := hrel
          by_cases hlt : k < n
          · have hltz : (k : Int) < (n : Int) := by omega
            obtain ⟨b', o, x, ax, nx, capx, rfl, hbB, Hx, x0, x1, x2, x3, GX⟩ := tm_at (Mem.keep HT.out (Nat.le_refl _) HB.out) k hlt
            have GA := Lib.hid (HA.out x (mem_of_at Hx.out))
            have GV := Lib.hid (HVA.out x (mem_of_at Hx.out))
            have GO := Lib.hid (HOA.out x (mem_of_at Hx.out))
            have HBA := Lib.hid (HB.out.alloc HB.out.size (.cells #[.int .i64 x.kind, .string x.name, .int .i64 x.n, .slice ax nx capx] 96))
            have HC := Lib.hid (IH.out x q b nx capx ax (wr.alloc (.cells #[.int .i64 x.kind, .string x.name, .int .i64 x.n, .slice ax nx capx] 96)) GA.out HMM.out GV.out GO.out (cell_below HQ.out HBA.out) (HMP.out.keep HBA.out) (Mem.keep GX.out HBA.out.size ((below_new wr _).mono HB.out.size)))
            have hdk : k < d.size := by omega
            go_wp2_with (first
              | (go_at_call 168
                 refine HC.out.mono ?_
                 rintro e w2 ⟨a2, n2, cap2, rfl, hb, hm⟩
                 have HB2 := Lib.hid hb; clear hb
                 have HM2 := Lib.hid hm; clear hm
                 have HR2 := Lib.hid ((HRW.out.alloc (.cells #[.int .i64 x.kind, .string x.name, .int .i64 x.n, .slice ax nx capx] 96)).keep HB2.out)
                 have hwo : WrO w2 (w.heap.size + 2) (k * 4) := HR2.out.wr0 hdk))
            go_roundw
            case rel =>
              have hg := grownBy_setCells w2 (w.heap.size + 2) [.int .i64 (canT (idxI V) x).kind, .string (canT (idxI V) x).name, .int .i64 (canT (idxI V) x).n, .slice a2 n2 cap2] (k * 4)
              refine ⟨k + 1, d.setIfInBounds k ⟨canT (idxI V) x, a2, n2, cap2⟩, by omega, by go_num, by rw [Array.size_setIfInBounds]; exact hd, Lib.hid (grown_below (HBA.out.trans (HB2.out.mono HBA.out.size)) hg (Nat.le_refl _) (fun b hb => by cases hb; omega)), Lib.hid (((HX1.out.alloc _).keep HB2.out).grown hg (fun b hb => by cases hb; omega)), Lib.hid (((HY1.out.alloc _).keep HB2.out).grown hg (fun b hb => by cases hb; omega)), Lib.hid (HR2.out.put0 hdk ⟨canT (idxI V) x, a2, n2, cap2⟩ ?_), Lib.hid (HLD.out.put hdk Hx.out _ rfl)⟩
              exact HM2.out.mono (fun b hb => by
                have h1 := hb.1
                have h2 := HRW.out.hq
                rw [World.size_alloc] at h1
                exact ⟨⟨by omega, hb.2⟩, by omega⟩) fun _ _ => rfl
            case measure => simp [intOf]; omega
          · obtain rfl : k = n := by omega
            have hltz : ¬ (k : Int) < (k : Int) := by omega
            have hts : d.toList.map (·.t) = canTs (idxI V) t.args := by
              have h := HLD.out
              rw [← hln.out] at h
              exact h.all (by rw [hd, hln.out])
            have HRW2 := Lib.hid (HRW.out.far w.heap.size 3 (.slice (some ⟨w.heap.size + 2, 0, none⟩) k k) (by omega))
            have HX2 : Hid (Bo (wr.setCell ⟨w.heap.size, 3, none⟩ (.slice (some ⟨w.heap.size + 2, 0, none⟩) k k)) w.heap.size 96 #[.int .i64 t.kind, .string t.name, .int .i64 t.n, .slice (some ⟨w.heap.size + 2, 0, none⟩) k k]) := Lib.hid (HX1.out.set 3 _)
            have HY2 : Hid (Bo (wr.setCell ⟨w.heap.size, 3, none⟩ (.slice (some ⟨w.heap.size + 2, 0, none⟩) k k)) (w.heap.size + 1) 96 #[.int .i64 0, .string ⟨#[]⟩, .int .i64 0, .slice none 0 0]) := Lib.hid (HY1.out.far 3 _ (by omega))
            obtain ⟨g0, g1, g2, g3⟩ := HX1.out.c4
            obtain ⟨p0, p1, p2, p3⟩ := HX2.out.c4
            have f3 := HX1.out.frozen 3
            have hwr : Wr (wr.setCell ⟨w.heap.size, 3, none⟩ (.slice (some ⟨w.heap.size + 2, 0, none⟩) k k)) (w.heap.size + 1) 96 4 := HY2.out.wr
            have HTS := Lib.hid hts
            clear g0 g1 g2 hts
            go_wp2
            have HR := Lib.hid (HY2.out.row #[.int .i64 t.kind, .string t.name, .int .i64 t.n, .slice (some ⟨w.heap.size + 2, 0, none⟩) k k]).c4
            refine bodyPost_ret (v := .agg #[.int .i64 t.kind, .string t.name, .int .i64 t.n, .slice (some ⟨w.heap.size + 2, 0, none⟩) k k]) (by simp [results, Try.results168, go_sem, HR.out]) rfl ?_
            rw [HF.out]
            refine ⟨some ⟨w.heap.size + 2, 0, none⟩, k, k, rfl, below_setRow (HB.out.setCell (p := ⟨w.heap.size, 3, none⟩) (Nat.le_refl _) _) (by omega) _, ?_⟩
            have h9 := ((HRW2.out.rowFar (w.heap.size + 1) #[.int .i64 t.kind, .string t.name, .int .i64 t.n, .slice (some ⟨w.heap.size + 2, 0, none⟩) k k] (by omega)).memT (by omega) HTS.out).mono (S' := Nw 0 w.heap.size _) (fun b hb => ⟨hb.1.imp id fun h => by omega, hb.2⟩) fun _ _ => rfl
            rw [hd] at h9
            exact h9
end Go.Proofs.Ytppejoccljfblaa

/-
  An argument that is a slice of answers (or one answer), as the walks want it. No condition.
-/
namespace Go.Proofs.Ytppejoccljfblaa
open Go.ChangeShapes Go.WideShapes Go.ChangeAt Go.RowKit

def AnsRead (W : World) (x : Ans) (cs : List Value) (k : Nat) : Prop :=
  ∃ ab nb cb a n cap, cs = [.slice ab nb cb, .int .i64 x.value.kind, .string x.value.name, .int .i64 x.value.n, .slice a n cap] ∧ MemW W (.s 4 (Tm.rows x.binds)) (.slice ab nb cb) ∧ MemW W (.s 4 (Tm.rows x.value.args)) (.slice a n cap) ∧ (∀ t ∈ x.all, t.ok) ∧ Tm.wts x.all ≤ k
section
variable {H : Type} {enc : TypeId × Value → H} {P : Program} {W : World} {r : Reach} {b0 : Nat} {v : Value} {d : DataW H} {ps : List MemPlace} {tA tS tT tL : TypeId} {f0 f1 f2 f3 g0 g1 : Field}
theorem open_ans_any (uA : P.underlying tA = some (.struct #[g0, g1])) (uL : P.underlying g0.type = some (.slice tT)) (eT : g1.type = tT) (uT : P.underlying tT = some (.struct #[f0, f1, f2, f3])) (u0 : P.underlying f0.type = some (.int .i64)) (u1 : P.underlying f1.type = some .string) (u2 : P.underlying f2.type = some (.int .i64)) (u3 : P.underlying f3.type = some (.slice tT)) (c4 : P.cellsOf tT = 4) (c5 : P.cellsOf tA = 5)
    (o : f0.offset = 0 ∧ f1.offset = 1 ∧ f2.offset = 2 ∧ f3.offset = 3) (c : P.cellsOf f0.type = 1 ∧ P.cellsOf f1.type = 1 ∧ P.cellsOf f2.type = 1 ∧ P.cellsOf f3.type = 1) (og : g0.offset = 0 ∧ g1.offset = 1) (cg : P.cellsOf g0.type = 1) (fuel : Nat)
    (cs : List Value) (x : DataW H × List MemPlace) (h : DataW.trod enc P W 0 (fun _ => true) true fuel tA cs = some x) : ∃ y, AnsRead W y cs (Rows.uptoBulk x.1) := by
  obtain ⟨xs, n, rfl, rfl, hl, hxs, hf⟩ := DataW.trod_struct uA h
  match xs, hxs with
  | [y0, y1], _ =>
    have h0 := hf 0 g0 rfl
    have h1 := hf 1 g1 rfl
    simp only [List.getElem?_cons_zero, List.getElem?_cons_succ] at h0 h1
    rw [c5] at hl
    match cs, hl with
    | [v0, v1, v2, v3, v4], _ =>
      rw [og.1, cg] at h0
      rw [og.2, eT, c4] at h1
      simp only [List.drop_zero, List.drop_succ_cons, List.take_succ_cons, List.take_zero] at h0 h1
      obtain ⟨bs, ab, nb, cb, e0, hB, hbok, hbw⟩ := open_tms_of uL c4 (fun n _ => open_tm_any uT u0 u1 u2 u3 c4 o.1 o.2.1 o.2.2.1 o.2.2.2 c.1 c.2.1 c.2.2.1 c.2.2.2 n) h0
      obtain ⟨t, a, nn, cap, e1, hT, htok, htw⟩ := open_tm_any uT u0 u1 u2 u3 c4 o.1 o.2.1 o.2.2.1 o.2.2.2 c.1 c.2.1 c.2.2.1 c.2.2.2 _ _ _ h1
      obtain rfl : v0 = .slice ab nb cb := by simpa using e0
      simp only [List.cons.injEq, and_true] at e1
      obtain ⟨rfl, rfl, rfl, rfl⟩ := e1
      refine ⟨⟨bs, t⟩, ab, nb, cb, a, nn, cap, rfl, hB, hT, fun z hz => ?_, ?_⟩
      · rcases List.mem_append.1 hz with hz | hz
        · exact hbok z hz
        · rw [List.mem_singleton.1 hz]; exact htok
      · show Tm.wts (bs ++ [t]) ≤ _
        rw [Tm.wts_app, Tm.wts_cons, Tm.wts_nil]
        simp only [Rows.uptoBulk, Rows.uptoBulkAll, List.map_cons, List.map_nil]
        omega
theorem open_anss_arg (uS : P.underlying tS = some (.slice tA)) (uA : P.underlying tA = some (.struct #[g0, g1])) (uL : P.underlying g0.type = some (.slice tT)) (eT : g1.type = tT) (uT : P.underlying tT = some (.struct #[f0, f1, f2, f3])) (u0 : P.underlying f0.type = some (.int .i64)) (u1 : P.underlying f1.type = some .string) (u2 : P.underlying f2.type = some (.int .i64)) (u3 : P.underlying f3.type = some (.slice tT)) (c4 : P.cellsOf tT = 4) (c5 : P.cellsOf tA = 5)
    (o : f0.offset = 0 ∧ f1.offset = 1 ∧ f2.offset = 2 ∧ f3.offset = 3) (c : P.cellsOf f0.type = 1 ∧ P.cellsOf f1.type = 1 ∧ P.cellsOf f2.type = 1 ∧ P.cellsOf f3.type = 1) (og : g0.offset = 0 ∧ g1.offset = 1) (cg : P.cellsOf g0.type = 1)
    (hval : Value.okWide P W r b0 tS v) (h : DataW.Trod enc P W 0 (fun _ => true) true tS v d ps) :
    ∃ (l : List Ans) (a : Option Addr) (n cap : Nat), v = .slice a n cap ∧ MemW W (.s 5 (ansRows l)) (.slice a n cap) ∧ (∀ x ∈ l, ∀ t ∈ x.all, t.ok) ∧ (l.map fun x => Tm.wts x.all).sum ≤ Rows.uptoBulk d := by
  obtain ⟨a0, len, cap, rfl⟩ := okWide_slice uS hval
  obtain ⟨fuel, hf⟩ := h
  obtain ⟨l, a, n, cc, hcs, hm, hok, hwt⟩ := open_rows uS c5 (by decide) (AnsRead W) Ans.row (fun x => Tm.wts x.all) (fun y cs k hy => by
      obtain ⟨ab, nb, cb, a, n, cap, rfl, hB, hT, _⟩ := hy
      exact .cons hB (row_mk y.value hT)) (fun y => by simp [Ans.row, Tm.row_eq]) (fun y cs k hy => by
      obtain ⟨_, _, _, _, _, _, _, _, _, _, hw⟩ := hy
      exact hw) (fun n cs x hx => open_ans_any uA uL eT uT u0 u1 u2 u3 c4 c5 o c og cg n cs x hx) hf
  simp [Value.cells] at hcs
  obtain ⟨rfl, rfl, rfl⟩ := hcs
  refine ⟨l, _, _, _, rfl, hm, fun x hx => ?_, hwt⟩
  obtain ⟨cs, k, _, _, _, _, _, _, _, _, _, hok, _⟩ := hok x hx
  exact hok
end
theorem ans_sizes {l : List Ans} {k : Nat} (h : (l.map fun x => Tm.wts x.all).sum ≤ k) : ∀ x ∈ l, (Tm.alls x.all).length ≤ k := by
  intro x hx
  have h1 : Tm.wts x.all ≤ (l.map fun x => Tm.wts x.all).sum := by
    clear h
    induction l with
    | nil => cases hx
    | cons y l ih =>
      rw [List.map_cons, List.sum_cons]
      rcases List.mem_cons.1 hx with rfl | hx
      · omega
      · have := ih hx; omega
  have h2 : (Tm.alls x.all).length ≤ Tm.wts x.all := by
    unfold Tm.wts
    generalize Tm.alls x.all = m
    induction m with
    | nil => exact Nat.le_refl _
    | cons z m ih => rw [List.map_cons, List.sum_cons, List.length_cons]; omega
  omega
theorem ans_value {l : List Ans} (h : ∀ x ∈ l, ∀ t ∈ x.all, t.ok) : ∀ x ∈ l, x.value.ok := fun x hx => h x hx _ (List.mem_append_right _ (List.mem_singleton_self _))
end Go.Proofs.Ytppejoccljfblaa
