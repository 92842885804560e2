/-
  The walk of the law TyTells: it answers true at every input. No condition but how the arguments lie and how great they are.
-/
import Derived.Test.YtemkpecagflafaaRename
import Derived.Test.YtemkpecagflafaaRound
import Derived.Test.YtemkpecagflafaaSizeTy
import Derived.Test.YtemkpecagflafaaShowG9
import Derived.Test.YtemkpecagflafaaSames
import Derived.Test.YtemkpecagflafaaScheme
import Derived.Test.YtemkpecagflafaaVarsTy
import Derived.Test.YtemkpecagflafaaIntsEq
import Derived.StillTailTactics
namespace Go.Proofs.Ytemkpecagflafaa
open Go.RowKit
attribute [local go_sem] toList_beq Oper.semAt_some

/-- A variable of a loop's body, and what is said of it. -/
def HoldsV {β : Type} (g : Nat) (T : TypeId) (f : β → Value) (p : β → Prop) (s : β) (W : World) : Prop := Boxed W g T (f s) ∧ p s
theorem holdsV_own {β : Type} (g : Nat) (T : TypeId) (f : β → Value) (p : β → Prop) : Own (HoldsV g T f p) := fun s W W' row ⟨h1, h3⟩ hg hr =>
  ⟨h1.kept hg (fun e => by obtain ⟨o, ho, hc⟩ := hr g e.symm; rw [show W.heap[g]? = _ from h1] at ho; cases ho; cases hc), h3⟩
/-- Where the loop breaks: the count, and why. -/
def Broke {w : World} (g : Nat) (most : Int) (l : List Tm) (s : List (Fx w)) (W : World) : Prop :=
  ∃ p x, s = p ++ [x] ∧ Boxed W g 3 (.int .i64 (p.length : Int)) ∧ ((most ≤ (p.length : Int) ∧ p.length ≤ most.toNat) ∨ l[p.length]? ≠ some x.t)
theorem broke_own {w : World} (g : Nat) (most : Int) (l : List Tm) : Own (Broke (w := w) g most l) := fun s W W' row ⟨p, x, h0, h1, h3⟩ hg hr =>
  ⟨p, x, h0, h1.kept hg (fun e => by obtain ⟨o, ho, hc⟩ := hr g e.symm; rw [show W.heap[g]? = _ from h1] at ho; cases ho; cases hc), h3⟩
theorem keeps_below {D : Nat} {W w2 : World} (hb : Below W.heap.size W w2) : KeepsFrom D W w2 := ⟨hb.size, fun k o _ hk _ => (hb.block k (Array.getElem?_eq_some_iff.1 hk).1).trans hk⟩
theorem boxed_below {W w2 : World} {B g : Nat} {T : TypeId} {v : Value} (h : Boxed W g T v) (hb : Below B W w2) (hg : g < B) : Boxed w2 g T v := (hb.block g hg).trans h
theorem kpt_set {g : Nat} (W : World) (v : Value) : KpT [g] [] W (W.setCell ⟨g, 0, none⟩ v) := by
  have hs : (W.setCell ⟨g, 0, none⟩ v).heap.size = W.heap.size := by simp [World.setCell]
  have hown : ∀ k, ownB [g] [] (W.setCell ⟨g, 0, none⟩ v) k → ownB [g] [] W k := fun k hk => by
    rcases hk with h | ⟨b, hb, _⟩
    · exact .inl h
    · cases hb
  refine ⟨⟨by rw [hs]; exact Nat.le_refl _, fun k o hk hn _ => (heap_setCell_other _ _ _ _ (fun e => hn (.inl (by simp [e])))).trans hk, fun k hk => .inl (hown k hk)⟩, fun hX k hk => by rw [hs]; exact hX k (hown k hk)⟩
theorem round_count {g D : Nat} {W w2 : World} {T : TypeId} {v v' : Value} (hv : Boxed W g T v) (hb : Below W.heap.size W w2) :
    KeepsFrom D W (w2.setCell ⟨g, 0, none⟩ v') ∧ KpT [g] [] W (w2.setCell ⟨g, 0, none⟩ v') ∧ Boxed (w2.setCell ⟨g, 0, none⟩ v') g T v' := by
  have h2 := boxed_below hv hb hv.lt
  refine ⟨⟨by simpa [World.setCell] using hb.size, fun k o _ hk ho => ?_⟩, (KpT.below hb (fun b hb => by cases hb)).trans (kpt_set w2 v'), h2.set v'⟩
  refine (heap_setCell_other _ _ _ _ fun e => ?_).trans ((hb.block k (Array.getElem?_eq_some_iff.1 hk).1).trans hk)
  subst e
  rw [show W.heap[k]? = _ from hv] at hk; cases hk; cases ho
theorem pre_at {l r : List Tm} {w : World} {p : List (Fx w)} {x : Fx w} (h : (p ++ [x]).map Fx.t <+: l) : l[p.length]? = some x.t ∧ p.length + 1 ≤ l.length := by
  obtain ⟨r, hr⟩ := h
  rw [← hr]
  constructor
  · simp
  · simp
theorem Bo.cells5 {w : World} {q : Nat} {t : TypeId} {c0 c1 c2 c3 c4 : Value} (h : Bo w q t #[c0, c1, c2, c3, c4]) : w.cell? ⟨q, 0, none⟩ = some c0 ∧ w.cell? ⟨q, 1, none⟩ = some c1 ∧ w.cell? ⟨q, 2, none⟩ = some c2 ∧ w.cell? ⟨q, 3, none⟩ = some c3 ∧ w.cell? ⟨q, 4, none⟩ = some c4 :=
  ⟨h.cell (j := 0) rfl, h.cell (j := 1) rfl, h.cell (j := 2) rfl, h.cell (j := 3) rfl, h.cell (j := 4) rfl⟩
set_option maxRecDepth 100000 in
set_option maxHeartbeats 2000000 in
theorem tyTells_any {t u : Tm} {a a' : Option Addr} {n n' cap cap' : Nat} (most : Int) (w : World) (h : MemW w (.s 4 (Tm.rows t.args)) (.slice a n cap)) (h' : MemW w (.s 4 (Tm.rows u.args)) (.slice a' n' cap')) (hs : t.size + u.size ≤ 1048576) (hok : t.ok) (hw : t.wt ≤ 1048576) (hmo : -9223372036854775808 ≤ most ∧ most ≤ 9223372036854775807) :
    Calls Try.prog 11 #[.agg #[.int .i64 t.kind, .string t.name, .int .i64 t.n, .slice a n cap], .agg #[.int .i64 u.kind, .string u.name, .int .i64 u.n, .slice a' n' cap'], .int .i64 most] w fun e w' => e = .returned (.bool true) ∧ Below w.heap.size w w' := by
  have HW3 : Hid (Below w.heap.size w (((w.alloc (.cells #[.int .i64 t.kind, .string t.name, .int .i64 t.n, .slice a n cap] 52)).alloc (.cells #[.int .i64 u.kind, .string u.name, .int .i64 u.n, .slice a' n' cap'] 52)).alloc (.cells #[.int .i64 most] 3))) := ((below_new w _).alloc (by simp) _).alloc (by simp; omega) _
  have HBt : Hid (Bo (((w.alloc (.cells #[.int .i64 t.kind, .string t.name, .int .i64 t.n, .slice a n cap] 52)).alloc (.cells #[.int .i64 u.kind, .string u.name, .int .i64 u.n, .slice a' n' cap'] 52)).alloc (.cells #[.int .i64 most] 3)) w.heap.size 52 #[.int .i64 t.kind, .string t.name, .int .i64 t.n, .slice a n cap]) := ((Bo.new w _ _).alloc _).alloc _
  have HBu : Hid (Bo (((w.alloc (.cells #[.int .i64 t.kind, .string t.name, .int .i64 t.n, .slice a n cap] 52)).alloc (.cells #[.int .i64 u.kind, .string u.name, .int .i64 u.n, .slice a' n' cap'] 52)).alloc (.cells #[.int .i64 most] 3)) (w.heap.size + 1) 52 #[.int .i64 u.kind, .string u.name, .int .i64 u.n, .slice a' n' cap']) := (World.size_alloc w (.cells #[.int .i64 t.kind, .string t.name, .int .i64 t.n, .slice a n cap] 52) ▸ Bo.new (w.alloc (.cells #[.int .i64 t.kind, .string t.name, .int .i64 t.n, .slice a n cap] 52)) 52 #[.int .i64 u.kind, .string u.name, .int .i64 u.n, .slice a' n' cap'] : Bo _ (w.heap.size + 1) _ _).alloc _
  have HBm : Hid (Bo (((w.alloc (.cells #[.int .i64 t.kind, .string t.name, .int .i64 t.n, .slice a n cap] 52)).alloc (.cells #[.int .i64 u.kind, .string u.name, .int .i64 u.n, .slice a' n' cap'] 52)).alloc (.cells #[.int .i64 most] 3)) (w.heap.size + 1 + 1) 3 #[.int .i64 most]) := by
    have := Bo.new ((w.alloc (.cells #[.int .i64 t.kind, .string t.name, .int .i64 t.n, .slice a n cap] 52)).alloc (.cells #[.int .i64 u.kind, .string u.name, .int .i64 u.n, .slice a' n' cap'] 52)) 3 #[.int .i64 most]
    rw [World.size_alloc, World.size_alloc] at this
    exact this
  have HTS := Lib.hid (show t.size ≤ 1048576 by omega)
  have HUS := Lib.hid (show u.size ≤ 1048576 by omega)
  have HOK := Lib.hid hok
  have HWT := Lib.hid hw
  have Ht := Lib.hid h
  have Hu := Lib.hid h'
  have HGC := Lib.hid (fun (w' : World) (h' : MemW w' (.s 4 (Tm.rows t.args)) (.slice a n cap)) => good_any w' h' HTS.out)
  have HSC : Hid (∀ (B : Nat) (w' : World), Mem (· < B) w' (.s 4 (Tm.rows t.args)) (.slice a n cap) → B ≤ w'.heap.size → Calls Try.prog 58 #[.agg #[.int .i64 t.kind, .string t.name, .int .i64 t.n, .slice a n cap]] w' (GivesSch B (vrs 1 [] t.all).length (numT (idxI (vrs 1 [] t.all)) t) w')) := Lib.hid fun B w' h1 h2 => scheme_any HTS.out h1 h2
  have HS9 : Hid (goodB t = true → ∀ w' : World, MemW w' (.s 4 (Tm.rows t.args)) (.slice a n cap) → Calls Try.prog 59 #[.agg #[.int .i64 t.kind, .string t.name, .int .i64 t.n, .slice a n cap]] w' (GivesSch9 (numT (idxI (vrs 1 [] t.all)) t) (vrs 1 [] t.all).length w')) := Lib.hid fun hg w' h1 => by
    obtain ⟨hgv, h60⟩ := good_gv hg
    have := scheme9_any (by omega) hgv.na h1
    rw [scheme_same hgv, rvT_vrs t hgv.na] at this
    exact this
  have HV1 : Hid (∀ w' : World, MemW w' (.s 4 (Tm.rows t.args)) (.slice a n cap) → Calls Try.prog 60 #[.agg #[.int .i64 t.kind, .string t.name, .int .i64 t.n, .slice a n cap]] w' (Gives 0 1 (intRows (vrs 1 [] t.all)) w')) := Lib.hid fun w' h1 => vars11_any w' h1 HTS.out
  have HV9 : Hid (goodB t = true → ∀ w' : World, MemW w' (.s 4 (Tm.rows t.args)) (.slice a n cap) → Calls Try.prog 61 #[.slice none 0 0, .agg #[.int .i64 t.kind, .string t.name, .int .i64 t.n, .slice a n cap]] w' (GivesV w'.heap.size (vrs 1 [] t.all) w')) := Lib.hid fun hg w' h1 => by
    have := vars9 HTS.out h1
    rw [rvT_vrs t (good_gv hg).1.na] at this
    exact this
  clear h h' hok hw
  generalize numT (idxI (vrs 1 [] t.all)) t = T1 at *
  generalize vrs 1 [] t.all = V at *
  generalize hN : V.length = N at *
  have HN := Lib.hid hN
  clear hN
  have tokA : True := trivial
  have tokB : True := trivial
  by_cases h100 : t.size ≤ 100
  · by_cases h101 : u.size ≤ 100
    · refine (callsIn_wide (n := 9)).1 ?_
      refine callsIn_of_wp_marks Try.func11 rfl trivial ?_ rfl; simp only [Try.ntmps11, List.size_toArray, List.length_cons, List.length_nil, Nat.reduceAdd, Nat.reduceSub, Array.replicate_succ, Array.replicate_zero, List.push_toArray, List.append_toArray, List.nil_append, List.cons_append]
      refine wpIn_wide.2 ?_
      go_wp2_with (first
      | (go_at_call 39
         refine (awake11_any _).mono ?_
         rintro e w1 ⟨rfl, hb⟩
         have HW1 : Hid (Below w.heap.size w w1) := Lib.hid (Below.to HW3.out hb)
         have HT1 := Lib.hid (HBt.out.keep hb)
         have HU1 := Lib.hid (HBu.out.keep hb)
         have HM1 := Lib.hid (HBm.out.keep hb)
         clear hb
         obtain ⟨t0, t1, t2, t3⟩ := HT1.out.c4
         obtain ⟨u0, u1, u2, u3⟩ := HU1.out.c4)
      | (go_at_call 40
         have _t := tokA
         refine (all09 (B := w.heap.size) (t := t) HTS.out (Mem.keep Ht.out (Nat.le_refl _) HW1.out) HW1.out.size).mono ?_
         rintro e w2 ⟨a2, n2, c2, rfl, hb, hm⟩
         have hl := hm.len
         rw [Tm.rows_len] at hl
         have hn : t.size = n2 := hl.1
         subst hn
         have HW2 : Hid (Below w.heap.size w w2) := Lib.hid (Below.to HW1.out hb)
         have HT2 := Lib.hid (HT1.out.keep hb)
         have HU2 := Lib.hid (HU1.out.keep hb)
         have HM2 := Lib.hid (HM1.out.keep hb)
         clear t0 t1 t2 t3 u0 u1 u2 u3 hb hm hl tokA _t
         obtain ⟨t0, t1, t2, t3⟩ := HT2.out.c4
         obtain ⟨u0, u1, u2, u3⟩ := HU2.out.c4)
      | (go_at_call 40
         have _t := tokB
         refine (all09 (B := w.heap.size) (t := u) HUS.out (Mem.keep Hu.out (Nat.le_refl _) HW2.out) HW2.out.size).mono ?_
         rintro e w3 ⟨a3, n3, c3, rfl, hb, hm⟩
         have hl := hm.len
         rw [Tm.rows_len] at hl
         have hn : u.size = n3 := hl.1
         subst hn
         have HW3 : Hid (Below w.heap.size w w3) := Lib.hid (Below.to HW2.out hb)
         have HT3 := Lib.hid (HT2.out.keep hb)
         have HU3 := Lib.hid (HU2.out.keep hb)
         have HM3 := Lib.hid (HM2.out.keep hb)
         clear t0 t1 t2 t3 u0 u1 u2 u3 hb hm hl tokB _t
         obtain ⟨t0, t1, t2, t3⟩ := HT3.out.c4
         obtain ⟨u0, u1, u2, u3⟩ := HU3.out.c4)
      | (go_at_call 40
         refine (all09 (B := w.heap.size) (t := t) HTS.out (Mem.keep Ht.out (Nat.le_refl _) HW3.out) HW3.out.size).mono ?_
         rintro e w5 ⟨aa, na, ca, rfl, hb, hm⟩
         have hl := hm.len
         rw [Tm.rows_len] at hl
         have hn : t.size = na := hl.1
         subst hn
         have HMA : Hid (MemW w5 (.s 4 (Tm.rows t.all)) (.slice aa t.size ca)) := Lib.hid (hm.mono (fun _ hb => hb.2) fun _ _ => rfl)
         have hca := hl.2.1
         have hcm := hl.2.2
         have HW5 : Hid (Below w.heap.size w w5) := Lib.hid (Below.to HW3.out hb)
         have HT5 := Lib.hid (HT3.out.keep hb)
         have HU5 := Lib.hid (HU3.out.keep hb)
         have HM5 := Lib.hid (HM3.out.keep hb)
         clear t0 t1 t2 t3 u0 u1 u2 u3 hb hm hl
         obtain ⟨t0, t1, t2, t3⟩ := ((HT5.out.alloc (.cells #[.slice aa t.size ca] 50)).alloc (.cells #[.int .i64 0] 3)).c4)
      | (go_at_call 51 ; refine (all11_any _ _ _ _ _).mono ?_; rintro e w' ⟨rfl, rfl⟩))
      clear t0 t1 t2 t3
      clear HBt HBu HBm
      clear HT1 HT2 HT3 HU1 HU2 HU3 HM1 HM2 HM3
      clear HW1 HW2
      refine (wpIn_wide (n := 9)).1 ?_
      have b1 := ((Boxed.new w5 50 (.slice aa t.size ca)).alloc (.cells #[.int .i64 0] 3)).alloc (.cells #[.int .i64 t.kind, .string t.name, .int .i64 t.n, .slice a n cap] 52)
      have b2 := (Boxed.new (w5.alloc (.cells #[.slice aa t.size ca] 50)) 3 (.int .i64 0)).alloc (.cells #[.int .i64 t.kind, .string t.name, .int .i64 t.n, .slice a n cap] 52)
      have b3 := Bo.new ((w5.alloc (.cells #[.slice aa t.size ca] 50)).alloc (.cells #[.int .i64 0] 3)) 52 #[.int .i64 t.kind, .string t.name, .int .i64 t.n, .slice a n cap]
      simp only [World.size_alloc] at b1 b2 b3
      have H1 := Lib.hid b1
      have H2 := Lib.hid b2
      have H3 := Lib.hid b3
      have HB6 : Hid (Below w5.heap.size w5 (((w5.alloc (.cells #[.slice aa t.size ca] 50)).alloc (.cells #[.int .i64 0] 3)).alloc (.cells #[.int .i64 t.kind, .string t.name, .int .i64 t.n, .slice a n cap] 52))) := Lib.hid ((((Below.refl _ w5).alloc (Nat.le_refl _) _).alloc (by simp) _).alloc (by simp; omega) _)
      have HSZ : Hid ((((w5.alloc (.cells #[.slice aa t.size ca] 50)).alloc (.cells #[.int .i64 0] 3)).alloc (.cells #[.int .i64 t.kind, .string t.name, .int .i64 t.n, .slice a n cap] 52)).heap.size = w5.heap.size + 3) := Lib.hid (by simp)
      clear b1 b2 b3
      generalize (((w5.alloc (.cells #[.slice aa t.size ca] 50)).alloc (.cells #[.int .i64 0] 3)).alloc (.cells #[.int .i64 t.kind, .string t.name, .int .i64 t.n, .slice a n cap] 52)) = w6 at *
      have HW6 : Hid (Below w.heap.size w w6) := Below.to HW5.out HB6.out
      have HG5 := Lib.hid HW5.out.size
      have hseq : IterT Try.prog 96 #[.pointer (some ⟨w5.heap.size + 1 + 1, 0, none⟩)] w t [w5.heap.size + 1] [] w6 := all1_type Ht.out H3.out (Sd.new HW6.out (fun b hb => by cases hb) (fun k hk => by
        rcases hk with h | ⟨b, hb, n, c, hc⟩
        · simp at h; have := HSZ.out; have := HG5.out; omega
        · cases hb))
      refine wpIn_rangeFunc_ownH (w0 := w6) rfl (by decide) (gf := 96) (lb := #[.pointer (some ⟨w5.heap.size + 1 + 1, 0, none⟩)]) rfl trivial (enters_of Try.func96 (by kernel_rfl) rfl)
        (hseq 8) (fun h k => KpT.trans h k) (KpT_b (fun b hb => by cases hb)) (Below.refl _ _) (fun _ => rfl)
        (fun pre W => (HoldsV (w5.heap.size + 1) 3 (fun pre : List (Fx w) => .int .i64 (pre.length : Int)) (fun pre => pre.length ≤ most.toNat) pre W ∧ Boxed W w5.heap.size 50 (.slice aa t.size ca)) ∧ Below w5.heap.size w5 W)
        (fun c pre W => ((Broke (w5.heap.size + 1) most t.all pre W ∧ Boxed W w5.heap.size 50 (.slice aa t.size ca)) ∧ Below w5.heap.size w5 W) ∧ c = .exit 0)
        (OwnFrom.and (OwnFrom.and (Own.from (holdsV_own _ _ _ _) _) (Own.from (boxed_own _ _ _) _)) (ownFrom_below (Nat.le_refl _) (by rw [HSZ.out]; omega)))
        (fun c => OwnFrom.and (OwnFrom.and (OwnFrom.and (Own.from (broke_own _ _ _) _) (Own.from (boxed_own _ _ _) _)) (ownFrom_below (Nat.le_refl _) (by rw [HSZ.out]; omega))) (fun _ _ _ _ hs _ _ => hs))
        ⟨⟨⟨H2.out, Nat.zero_le _⟩, H1.out⟩, HB6.out⟩
        (fun x A' W => ∃ Bx, w5.heap.size + 1 < Bx ∧ Bo W Bx 52 #[.int .i64 x.t.kind, .string x.t.name, .int .i64 x.t.n, .slice x.a x.n x.cap] ∧ A' = { tmps := #[.agg #[.int .i64 t.kind, .string t.name, .int .i64 t.n, .slice a n cap], .agg #[.int .i64 u.kind, .string u.name, .int .i64 u.n, .slice a' n' cap'], .int .i64 most, .pointer (some ⟨w.heap.size, 0, none⟩), .pointer (some ⟨w.heap.size + 1, 0, none⟩), .pointer (some ⟨w.heap.size + 1 + 1, 0, none⟩), .bool false, .pointer (some ⟨w5.heap.size, 0, none⟩), .pointer (some ⟨w5.heap.size + 1, 0, none⟩), .pointer (some ⟨Bx, 0, none⟩), undef, undef, undef, .bool true, .bool false, .agg #[.int .i64 t.kind, .string t.name, .int .i64 t.n, .slice a n cap], .slice a2 t.size c2, .int .i64 t.size, .bool (decide (100 < (t.size : Int))), .bool (decide (100 < (t.size : Int))), .agg #[.int .i64 u.kind, .string u.name, .int .i64 u.n, .slice a' n' cap'], .slice a3 u.size c3, .int .i64 u.size, .bool (decide (100 < (u.size : Int))), .bool (decide (100 < (t.size : Int)) || decide (100 < (u.size : Int))), .agg #[.int .i64 t.kind, .string t.name, .int .i64 t.n, .slice a n cap], .slice aa t.size ca, .agg #[.int .i64 t.kind, .string t.name, .int .i64 t.n, .slice a n cap], .func (.func 96) #[] #[.pointer (some ⟨w5.heap.size + 1 + 1, 0, none⟩)], .agg #[.int .i64 x.t.kind, .string x.t.name, .int .i64 x.t.n, .slice x.a x.n x.cap], undef, undef, undef, undef, undef, undef, undef, undef, undef, undef, undef, undef, undef, undef, undef, undef, undef, undef, undef, undef, undef, undef, undef, undef, undef, undef, undef, undef, undef, undef, undef, undef, undef, undef, undef, undef, undef, undef, undef, undef, undef, undef, undef, undef, undef, undef, undef, undef, undef, undef, undef, undef, undef, undef, undef, undef, undef, undef, undef, undef, undef, undef, undef, undef, undef, undef, undef, undef, undef, undef, undef, undef, undef, undef, undef, undef, undef], defers := [] })
        (fun x _ _ X Y row hs hg hr => by obtain ⟨Bx, e1, e2, e3⟩ := hs; exact ⟨Bx, e1, e2.own hg (fun r e => (hr r e).2), e3⟩)
        ?assign ?body ?done ?stop
      case assign =>
        rintro l pre x W K ⟨⟨⟨hv, hle⟩, hA⟩, hB⟩ hK
        simp only [Fx.enc]
        gi_wp2
        exact hK _ _ ((KeepsOthers.alloc _ _).from _) (KpT.alloc _ (fun b hb => by cases hb)) ⟨⟨⟨hv.alloc _, hle⟩, hA.alloc _⟩, hB.alloc hB.size _⟩ ⟨W.heap.size, hv.lt, Bo.new W _ _, rfl⟩
      case body =>
        rintro l pre x A' W hl ⟨r, hr⟩ ⟨⟨⟨hv0, hle⟩, hA⟩, hB⟩ ⟨Bx, hBx, bX, rfl⟩ hlt
        have hv : Boxed W (w5.heap.size + 1) 3 (.int .i64 (pre.length : Int)) := hv0
        obtain ⟨c0, c1, c2, c3⟩ := bX.c4
        have cN := hv.cell
        have cA := hA.cell
        have cM := (HM5.out.below hB HM5.out.lt).cell (j := 0) rfl
        have HHV := Lib.hid hv
        have HHA := Lib.hid hA
        have HHB := Lib.hid hB
        have HLE := Lib.hid hle
        have hlt' : pre.length < t.size := hlt
        clear hv hv0 hB hlt hA hle
        by_cases hmost : most ≤ (pre.length : Int)
        · have HMO := Lib.hid hmost
          gi_wp2
          refine wpIn_round_tail 15 (by kernel_rfl) (by rfl) (by kernel_rfl) ?_
          simp only [List.take_succ_cons, List.take_zero]
          repeat still_step
          refine wpStill_nil ?_
          gi_wp2_with (refine ⟨trivial, ?_⟩)
          exact ⟨keeps_below (below_drew W), ⟨⟨⟨pre, x, rfl, HHV.out, .inl ⟨HMO.out, HLE.out⟩⟩, HHA.out⟩, below_drewN HHB.out 1⟩, rfl⟩
        · have hbW : Below w.heap.size w W := HW5.out.trans (HHB.out.mono HG5.out)
          obtain ⟨b, o, y, ay, ny, capy, rfl, hbB, Hy, y0, y1, y2, y3, GY⟩ := (Tms.keep HMA.out HHB.out).at pre.length hlt'
          have HC := Lib.hid (sameType (t := x.t) (u := y) W.drew (MemW.drew (MemW.keep x.m hbW)) (MemW.drew GY.out))
          clear hbW
          by_cases hxy : x.t = y
          · have HD := Lib.hid (decide_eq_true hxy)
            clear hxy
            gi_wp2
            refine wpIn_round_tail 15 (by kernel_rfl) (by rfl) (by kernel_rfl) ?_
            simp only [List.take_succ_cons, List.take_zero]
            repeat still_step
            refine wpStill_nil ?_
            gi_wp2_with (first
              | (refine ⟨trivial, ?_⟩; gi_at_call 43 ; refine (CallsIn.inRound l (callsIn_wide.2 HC.out)).mono ?_; rintro e w2 ⟨rfl, hb⟩; rw [HD.out]; have HB2 := Lib.hid (Below.one hb); clear hb; have d1 := (boxed_below HHV.out HB2.out HHV.out.lt).cell; have d2 := (boxed_below HHV.out HB2.out HHV.out.lt).frozen)
              | (gi_at_call 43 ; refine (CallsIn.inRound l (callsIn_wide.2 HC.out)).mono ?_; rintro e w2 ⟨rfl, hb⟩; rw [HD.out]; have HB2 := Lib.hid (Below.one hb); clear hb; have d1 := (boxed_below HHV.out HB2.out HHV.out.lt).cell; have d2 := (boxed_below HHV.out HB2.out HHV.out.lt).frozen))
            obtain ⟨r1, r2, r3⟩ := round_count (D := w6.heap.size) (v' := .int .i64 ((pre.length : Int) + 1)) HHV.out HB2.out
            refine ⟨r1, r2, ⟨⟨?_, ?_⟩, ?_⟩, ?_⟩
            · show Boxed _ _ _ (.int .i64 ((pre ++ [x]).length : Int))
              rw [List.length_append, List.length_cons, List.length_nil, Nat.zero_add, Int.natCast_add]
              exact r3
            · show (pre ++ [x]).length ≤ most.toNat
              rw [List.length_append, List.length_cons, List.length_nil]; omega
            · have e := boxed_below HHA.out HB2.out HHA.out.lt
              exact (heap_setCell_other _ _ _ _ (by show w5.heap.size ≠ w5.heap.size + 1; omega)).trans e
            · exact (HHB.out.trans (HB2.out.mono HHB.out.size)).setCell (p := ⟨w5.heap.size + 1, 0, none⟩) (by simp) _
          · have HD := Lib.hid (decide_eq_false hxy)
            have HNE : Hid (t.all[pre.length]? ≠ some x.t) := Lib.hid fun e => hxy (Option.some.inj (e.symm.trans Hy.out))
            clear hxy
            gi_wp2
            refine wpIn_round_tail 15 (by kernel_rfl) (by rfl) (by kernel_rfl) ?_
            simp only [List.take_succ_cons, List.take_zero]
            repeat still_step
            refine wpStill_nil ?_
            gi_wp2_with (first
              | (refine ⟨trivial, ?_⟩; gi_at_call 43 ; refine (CallsIn.inRound l (callsIn_wide.2 HC.out)).mono ?_; rintro e w2 ⟨rfl, hb⟩; rw [HD.out]; have HB2 := Lib.hid (Below.one hb); clear hb)
              | (gi_at_call 43 ; refine (CallsIn.inRound l (callsIn_wide.2 HC.out)).mono ?_; rintro e w2 ⟨rfl, hb⟩; rw [HD.out]; have HB2 := Lib.hid (Below.one hb); clear hb))
            exact ⟨keeps_below HB2.out, ⟨⟨⟨pre, x, rfl, boxed_below HHV.out HB2.out HHV.out.lt, .inr HNE.out⟩, boxed_below HHA.out HB2.out HHA.out.lt⟩, HHB.out.trans (HB2.out.mono HHB.out.size)⟩, rfl⟩
      case' done =>
        rintro D ys W hD hys ⟨⟨⟨hv0, hle⟩, hA⟩, hB⟩ hK
        have hlen : ys.length = t.size := by rw [← List.length_map (f := Fx.t), hys]; rfl
        have hv1 : Boxed W (w5.heap.size + 1) 3 (.int .i64 (t.size : Int)) := by rw [← hlen]; exact hv0
        obtain ⟨L, hL, hv⟩ : ∃ L : Nat, L = min most.toNat t.size ∧ Boxed W (w5.heap.size + 1) 3 (.int .i64 (L : Int)) := ⟨t.size, by have : ys.length ≤ most.toNat := hle; omega, hv1⟩
        clear hlen hys hv0 hle hv1
      case' stop =>
        rintro D c pre W hD hpre ⟨⟨⟨⟨p, x, rfl, hv1, hor⟩, hA⟩, hB⟩, rfl⟩ hK
        obtain ⟨hpx, hpl⟩ := pre_at (r := []) hpre
        have hor := hor.resolve_right (fun h => h hpx)
        have hsz : t.all.length = t.size := rfl
        obtain ⟨L, hL, hv⟩ : ∃ L : Nat, L = min most.toNat t.size ∧ Boxed W (w5.heap.size + 1) 3 (.int .i64 (L : Int)) := ⟨p.length, by omega, hv1⟩
        clear hpx hpl hor hsz hpre hv1
        refine wpIn_wide.2 ?_
      all_goals
        have cN := hv.cell
        have cA := hA.cell
        have HV := Lib.hid hv
        have HAB := Lib.hid hA
        have HB := Lib.hid hB
        have HK := Lib.hid hK
        have HD := Lib.hid hD
        have hLn : L ≤ t.size := by omega
        obtain ⟨M, hM⟩ : ∃ M : Int, (if most < (t.size : Int) then most else (t.size : Int)) = M := ⟨_, rfl⟩
        have hM2 : (if M < 0 then 0 else M) = (L : Int) := by rw [← hM]; split <;> split <;> omega
        clear hL hv hA hB hK hD
        have cM : W.cell? ⟨w.heap.size + 1 + 1, 0, none⟩ = some (.int .i64 most) := (HM5.out.below HB.out HM5.out.lt).cell (j := 0) rfl
        have HTW := Lib.hid (HT5.out.below HB.out HT5.out.lt)
        have HUW := Lib.hid (HU5.out.below HB.out HU5.out.lt)
        obtain ⟨t0, t1, t2, t3⟩ := HTW.out.c4
        obtain ⟨u0, u1, u2, u3⟩ := HUW.out.c4
        have HWW : Hid (Below w.heap.size w W) := Lib.hid (HW5.out.trans (HB.out.mono HG5.out))
        have HDW : Hid (Below w.heap.size w W.drew) := below_drewN HWW.out 1
        go_wp2
        go_region_held3 (fun w' => w'.cell? ⟨w5.heap.size + 1, 0, none⟩ = some (.int .i64 L) ∧ w'.cell? ⟨w5.heap.size, 0, none⟩ = some (.slice aa t.size ca) ∧ w'.cell? ⟨w.heap.size + 1 + 1, 0, none⟩ = some (.int .i64 most) ∧ w'.cell? ⟨w.heap.size, 0, none⟩ = some (.int .i64 t.kind) ∧ w'.cell? ⟨w.heap.size, 1, none⟩ = some (.string t.name) ∧ w'.cell? ⟨w.heap.size, 2, none⟩ = some (.int .i64 t.n) ∧ w'.cell? ⟨w.heap.size, 3, none⟩ = some (.slice a n cap) ∧ w'.cell? ⟨w.heap.size + 1, 0, none⟩ = some (.int .i64 u.kind) ∧ w'.cell? ⟨w.heap.size + 1, 1, none⟩ = some (.string u.name) ∧ w'.cell? ⟨w.heap.size + 1, 2, none⟩ = some (.int .i64 u.n) ∧ w'.cell? ⟨w.heap.size + 1, 3, none⟩ = some (.slice a' n' cap'))
        ((repeat' apply And.intro) <;> (repeat (first | with_reducible assumption | with_reducible refine cell_drew ?_ | with_reducible refine cell_alloc _ ?_ | with_reducible refine cell_row_far _ ?_ (by omega) | with_reducible refine cell_below ?_ HBe.out | with_reducible refine cell_below ?_ HBd.out | with_reducible refine cell_below ?_ HBc.out | with_reducible refine cell_below ?_ HBb.out | with_reducible refine cell_below ?_ HBa.out)))
        (first
          | (go_at_call 52
             refine (size11_any (t := t) _ (MemW.keep Ht.out HDW.out) HTS.out).mono ?_
             rintro e wa ⟨rfl, hb⟩
             have HBa := Lib.hid (Below.one hb)
             have HXa : Hid (Below W.heap.size W wa) := HBa
             have HYa : Hid (Below w.heap.size w wa) := Lib.hid (Below.to HWW.out HBa.out)
             clear hb)
          | (go_at_call 53
             refine (showTt HOK.out HWT.out _ _ _ _ (MemW.keep Ht.out HYa.out)).mono ?_
             rintro e wb ⟨rfl, hb⟩
             have HBb := Lib.hid hb
             have HXb : Hid (Below W.heap.size W wb) := Lib.hid (Below.to HXa.out HBb.out)
             have HYb : Hid (Below w.heap.size w wb) := Lib.hid (Below.to HYa.out HBb.out)
             clear hb)
          | (go_at_call 54
             refine (show9t HOK.out HWT.out _ _ _ _ (MemW.keep Ht.out HYb.out)).mono ?_
             rintro e wc ⟨rfl, hb⟩
             have HBc := Lib.hid hb
             have HXc : Hid (Below W.heap.size W wc) := Lib.hid (Below.to HXb.out HBc.out)
             have HYc : Hid (Below w.heap.size w wc) := Lib.hid (Below.to HYb.out HBc.out)
             clear hb)
          | (go_at_call 55
             refine (same11_any t u _ _ _ _ _ _ _ (MemW.keep Ht.out HYc.out) (MemW.keep Hu.out HYc.out)).mono ?_
             rintro e wd ⟨rfl, hb⟩
             have HBd := Lib.hid hb
             have HXd : Hid (Below W.heap.size W wd) := Lib.hid (Below.to HXc.out HBd.out)
             have HYd : Hid (Below w.heap.size w wd) := Lib.hid (Below.to HYc.out HBd.out)
             clear hb)
          | (go_at_call 56
             refine (same9_any t u _ _ _ _ _ _ _ (MemW.keep Ht.out HYd.out) (MemW.keep Hu.out HYd.out)).mono ?_
             rintro e we ⟨rfl, hb⟩
             have HBe := Lib.hid hb
             have HXe : Hid (Below W.heap.size W we) := Lib.hid (Below.to HXd.out HBe.out)
             have HYe : Hid (Below w.heap.size w we) := Lib.hid (Below.to HYd.out HBe.out)
             clear hb))
        have HTe := Lib.hid (HTW.out.below (HXe.out) HTW.out.lt)
        have HTOK := HTe
        obtain ⟨p0, p1, p2, p3⟩ := HTe.out.c4
        by_cases hg : goodB t = true
        · rw [hg] at HGC
          have HSE := Lib.hid (HS9.out hg)
          have HVE := Lib.hid (HV9.out hg)
          clear hg
          go_wp2_with (first
            | (go_at_call 57
               refine (HGC.out _ (MemW.keep Ht.out HYe.out)).mono ?_
               rintro e wf ⟨rfl, hb⟩
               have HXf : Hid (Below W.heap.size W wf) := Lib.hid (Below.to HXe.out hb)
               have HYf : Hid (Below w.heap.size w wf) := Lib.hid (Below.to HYe.out hb)
               have HTf := Lib.hid (HTe.out.keep hb)
               clear hb p0 p1 p2 p3
               obtain ⟨p0, p1, p2, p3⟩ := HTf.out.c4)
            | (go_at_call 58
               refine (HSC.out w.heap.size wf (Mem.keep Ht.out (Nat.le_refl _) HYf.out) HYf.out.size).mono ?_
               rintro e wg ⟨a3, n3, c3, rfl, hb, hm⟩
               have HXg : Hid (Below W.heap.size W (wg.alloc (.cells #[.int .i64 N, .int .i64 T1.kind, .string T1.name, .int .i64 T1.n, .slice a3 n3 c3] 75))) := Lib.hid ((Below.to HXf.out hb).alloc (Below.to HXf.out hb).size _)
               have HYg : Hid (Below w.heap.size w (wg.alloc (.cells #[.int .i64 N, .int .i64 T1.kind, .string T1.name, .int .i64 T1.n, .slice a3 n3 c3] 75))) := Lib.hid ((Below.to HYf.out hb).alloc (Below.to HYf.out hb).size _)
               have HTg := Lib.hid ((HTf.out.keep hb).alloc (.cells #[.int .i64 N, .int .i64 T1.kind, .string T1.name, .int .i64 T1.n, .slice a3 n3 c3] 75))
               have HSg := Lib.hid (Bo.new wg 75 #[.int .i64 N, .int .i64 T1.kind, .string T1.name, .int .i64 T1.n, .slice a3 n3 c3])
               have HNg : Hid (MemW (wg.alloc (.cells #[.int .i64 N, .int .i64 T1.kind, .string T1.name, .int .i64 T1.n, .slice a3 n3 c3] 75)) (.s 4 (Tm.rows T1.args)) (.slice a3 n3 c3)) := Lib.hid (MemW.alloc (hm.mono (fun _ hb => hb.2) fun _ _ => rfl) _)
               clear hb hm p0 p1 p2 p3
               obtain ⟨p0, p1, p2, p3⟩ := HTg.out.c4)
            | (go_at_call 59
               refine (HSE.out _ (MemW.keep Ht.out HYg.out)).mono ?_
               rintro e wh ⟨a4, n4, c4, rfl, hb, hm⟩
               have HXh : Hid (Below W.heap.size W (wh.alloc (.cells #[.int .i64 T1.kind, .string T1.name, .int .i64 T1.n, .slice a4 n4 c4] 52))) := Lib.hid ((Below.to HXg.out hb).alloc (Below.to HXg.out hb).size _)
               have HYh : Hid (Below w.heap.size w (wh.alloc (.cells #[.int .i64 T1.kind, .string T1.name, .int .i64 T1.n, .slice a4 n4 c4] 52))) := Lib.hid ((Below.to HYg.out hb).alloc (Below.to HYg.out hb).size _)
               have HTh := Lib.hid ((HTg.out.keep hb).alloc (.cells #[.int .i64 T1.kind, .string T1.name, .int .i64 T1.n, .slice a4 n4 c4] 52))
               have HSh := Lib.hid ((HSg.out.keep hb).alloc (.cells #[.int .i64 T1.kind, .string T1.name, .int .i64 T1.n, .slice a4 n4 c4] 52))
               have HZh := Lib.hid (Bo.new wh 52 #[.int .i64 T1.kind, .string T1.name, .int .i64 T1.n, .slice a4 n4 c4])
               have HNh := Lib.hid (MemW.alloc (MemW.keep HNg.out hb) (.cells #[.int .i64 T1.kind, .string T1.name, .int .i64 T1.n, .slice a4 n4 c4] 52))
               have HQh := Lib.hid (MemW.alloc hm (.cells #[.int .i64 T1.kind, .string T1.name, .int .i64 T1.n, .slice a4 n4 c4] 52))
               clear hb hm p0 p1 p2 p3
               obtain ⟨p0, p1, p2, p3⟩ := HTh.out.c4
               obtain ⟨q0, q1, q2, q3, q4⟩ := HSh.out.cells5
               obtain ⟨z0, z1, z2, z3⟩ := HZh.out.c4))
          have HDh : Hid (Below w.heap.size w (wh.alloc (.cells #[.int .i64 T1.kind, .string T1.name, .int .i64 T1.n, .slice a4 n4 c4] 52)).drew) := below_drewN HYh.out 1
          go_region_held3 (fun w' => w'.cell? ⟨w.heap.size, 0, none⟩ = some (.int .i64 t.kind) ∧ w'.cell? ⟨w.heap.size, 1, none⟩ = some (.string t.name) ∧ w'.cell? ⟨w.heap.size, 2, none⟩ = some (.int .i64 t.n) ∧ w'.cell? ⟨w.heap.size, 3, none⟩ = some (.slice a n cap) ∧ w'.cell? ⟨wg.heap.size, 0, none⟩ = some (.int .i64 N) ∧ w'.cell? ⟨wg.heap.size, 1, none⟩ = some (.int .i64 T1.kind) ∧ w'.cell? ⟨wg.heap.size, 2, none⟩ = some (.string T1.name) ∧ w'.cell? ⟨wg.heap.size, 3, none⟩ = some (.int .i64 T1.n) ∧ w'.cell? ⟨wg.heap.size, 4, none⟩ = some (.slice a3 n3 c3) ∧ w'.cell? ⟨wh.heap.size, 0, none⟩ = some (.int .i64 T1.kind) ∧ w'.cell? ⟨wh.heap.size, 1, none⟩ = some (.string T1.name) ∧ w'.cell? ⟨wh.heap.size, 2, none⟩ = some (.int .i64 T1.n) ∧ w'.cell? ⟨wh.heap.size, 3, none⟩ = some (.slice a4 n4 c4))
          ((repeat' apply And.intro) <;> (repeat (first | with_reducible assumption | with_reducible refine cell_drew ?_ | with_reducible refine cell_alloc _ ?_ | with_reducible refine cell_row_far _ ?_ (by omega) | with_reducible refine cell_below ?_ HBm.out | with_reducible refine cell_below ?_ HBl.out | with_reducible refine cell_below ?_ HBk.out | with_reducible refine cell_below ?_ HBj.out)))
          (first
            | (go_at_call 60
               refine (HV1.out _ (MemW.keep Ht.out HDh.out)).mono ?_
               rintro e wj ⟨a5, n5, c5, rfl, hb, hm⟩
               have HBj := Lib.hid (Below.one hb)
               have HXj : Hid (Below W.heap.size W wj) := Lib.hid (Below.to HXh.out HBj.out)
               have HYj : Hid (Below w.heap.size w wj) := Lib.hid (Below.to HYh.out HBj.out)
               have HMj : Hid (MemW wj (.s 1 (intRows V)) (.slice a5 n5 c5)) := Lib.hid (hm.mono (fun _ hb => hb.2) fun _ _ => rfl)
               clear hb hm)
            | (go_at_call 61
               refine (HVE.out _ (MemW.keep Ht.out HYj.out)).mono ?_
               rintro e wk ⟨v6, rfl, hO, hb⟩
               have HBk := Lib.hid hb
               have HXk : Hid (Below W.heap.size W wk) := Lib.hid (Below.to HXj.out HBk.out)
               have HYk : Hid (Below w.heap.size w wk) := Lib.hid (Below.to HYj.out HBk.out)
               obtain ⟨va, vc, rfl, _, _⟩ := hO.form
               have HMk := Lib.hid hO.memW
               have HNk := Lib.hid (MemW.keep HMj.out hb)
               clear hb hO)
            | (go_at_call 21
               refine (intsEq_any _ HNk.out HMk.out).mono ?_
               rintro e wl ⟨rfl, hb⟩
               rw [decide_eq_true (p := V = V) rfl]
               have HBl := Lib.hid hb
               have HXl : Hid (Below W.heap.size W wl) := Lib.hid (Below.to HXk.out HBl.out)
               have HYl : Hid (Below w.heap.size w wl) := Lib.hid (Below.to HYk.out HBl.out)
               have HNl := Lib.hid (MemW.keep (MemW.keep (MemW.keep HNh.out HBj.out) HBk.out) hb)
               have HQl := Lib.hid (MemW.keep (MemW.keep (MemW.keep HQh.out HBj.out) HBk.out) hb)
               clear hb)
            | (go_at_call 56
               refine (same9_any T1 T1 _ _ _ _ _ _ _ HNl.out HQl.out).mono ?_
               rintro e wm ⟨rfl, hb⟩
               rw [sameT_self]
               have HBm := Lib.hid hb
               have HXm : Hid (Below W.heap.size W wm) := Lib.hid (Below.to HXl.out HBm.out)
               have HYm : Hid (Below w.heap.size w wm) := Lib.hid (Below.to HYl.out HBm.out)
               clear hb))
          all_goals
            go_wp2
            refine ⟨by simp, .inl ⟨_, _, rfl, run_takeDeferred ((HXm.out.block D (Array.getElem?_eq_some_iff.1 HK.out).1).trans HK.out), ?_⟩⟩
            refine ⟨_, results_tmp rfl _ _ _, rfl, HYm.out.trans (belowK_b (w := w) (Nat.le_refl _) _ D _ _ (by have := HD.out; have := HW6.out.size; omega) ((HXm.out.block D (Array.getElem?_eq_some_iff.1 HK.out).1).trans HK.out) rfl rfl)⟩
        · have hg' : goodB t = false := by simpa using hg
          rw [hg'] at HGC
          clear hg hg'
          go_wp2_with (first
            | (go_at_call 57
               refine (HGC.out _ (MemW.keep Ht.out HYe.out)).mono ?_
               rintro e wf ⟨rfl, hb⟩
               have HXf : Hid (Below W.heap.size W wf) := Lib.hid (Below.to HXe.out hb)
               have HYf : Hid (Below w.heap.size w wf) := Lib.hid (Below.to HYe.out hb)
               clear hb p0 p1 p2 p3))
          refine ⟨by simp, .inl ⟨_, _, rfl, run_takeDeferred ((HXf.out.block D (Array.getElem?_eq_some_iff.1 HK.out).1).trans HK.out), ?_⟩⟩
          refine ⟨_, results_tmp rfl _ _ _, rfl, HYf.out.trans (belowK_b (w := w) (Nat.le_refl _) _ D _ _ (by have := HD.out; have := HW6.out.size; omega) ((HXf.out.block D (Array.getElem?_eq_some_iff.1 HK.out).1).trans HK.out) rfl rfl)⟩
    · go_enter Try.func11, Try.ntmps11
      go_wp2_with (first
      | (go_at_call 39
         refine (awake11_any _).mono ?_
         rintro e w1 ⟨rfl, hb⟩
         have HW1 : Hid (Below w.heap.size w w1) := Lib.hid (Below.to HW3.out hb)
         have HT1 := Lib.hid (HBt.out.keep hb)
         have HU1 := Lib.hid (HBu.out.keep hb)
         have HM1 := Lib.hid (HBm.out.keep hb)
         clear hb
         obtain ⟨t0, t1, t2, t3⟩ := HT1.out.c4
         obtain ⟨u0, u1, u2, u3⟩ := HU1.out.c4)
      | (go_at_call 40
         have _t := tokA
         refine (all09 (B := w.heap.size) (t := t) HTS.out (Mem.keep Ht.out (Nat.le_refl _) HW1.out) HW1.out.size).mono ?_
         rintro e w2 ⟨a2, n2, c2, rfl, hb, hm⟩
         have hl := hm.len
         rw [Tm.rows_len] at hl
         have hn : t.size = n2 := hl.1
         subst hn
         have HW2 : Hid (Below w.heap.size w w2) := Lib.hid (Below.to HW1.out hb)
         have HT2 := Lib.hid (HT1.out.keep hb)
         have HU2 := Lib.hid (HU1.out.keep hb)
         have HM2 := Lib.hid (HM1.out.keep hb)
         clear t0 t1 t2 t3 u0 u1 u2 u3 hb hm hl tokA _t
         obtain ⟨t0, t1, t2, t3⟩ := HT2.out.c4
         obtain ⟨u0, u1, u2, u3⟩ := HU2.out.c4)
      | (go_at_call 40
         have _t := tokB
         refine (all09 (B := w.heap.size) (t := u) HUS.out (Mem.keep Hu.out (Nat.le_refl _) HW2.out) HW2.out.size).mono ?_
         rintro e w3 ⟨a3, n3, c3, rfl, hb, hm⟩
         have hl := hm.len
         rw [Tm.rows_len] at hl
         have hn : u.size = n3 := hl.1
         subst hn
         have HW3 : Hid (Below w.heap.size w w3) := Lib.hid (Below.to HW2.out hb)
         have HT3 := Lib.hid (HT2.out.keep hb)
         have HU3 := Lib.hid (HU2.out.keep hb)
         have HM3 := Lib.hid (HM2.out.keep hb)
         clear t0 t1 t2 t3 u0 u1 u2 u3 hb hm hl tokB _t
         obtain ⟨t0, t1, t2, t3⟩ := HT3.out.c4
         obtain ⟨u0, u1, u2, u3⟩ := HU3.out.c4))
      go_ret
      exact ⟨rfl, HW3.out⟩
  · go_enter Try.func11, Try.ntmps11
    go_wp2_with (first
      | (go_at_call 39
         refine (awake11_any _).mono ?_
         rintro e w1 ⟨rfl, hb⟩
         have HW1 : Hid (Below w.heap.size w w1) := Lib.hid (Below.to HW3.out hb)
         have HT1 := Lib.hid (HBt.out.keep hb)
         have HU1 := Lib.hid (HBu.out.keep hb)
         have HM1 := Lib.hid (HBm.out.keep hb)
         clear hb
         obtain ⟨t0, t1, t2, t3⟩ := HT1.out.c4
         obtain ⟨u0, u1, u2, u3⟩ := HU1.out.c4)
      | (go_at_call 40
         have _t := tokA
         refine (all09 (B := w.heap.size) (t := t) HTS.out (Mem.keep Ht.out (Nat.le_refl _) HW1.out) HW1.out.size).mono ?_
         rintro e w2 ⟨a2, n2, c2, rfl, hb, hm⟩
         have hl := hm.len
         rw [Tm.rows_len] at hl
         have hn : t.size = n2 := hl.1
         subst hn
         have HW2 : Hid (Below w.heap.size w w2) := Lib.hid (Below.to HW1.out hb)
         have HT2 := Lib.hid (HT1.out.keep hb)
         have HU2 := Lib.hid (HU1.out.keep hb)
         have HM2 := Lib.hid (HM1.out.keep hb)
         clear t0 t1 t2 t3 u0 u1 u2 u3 hb hm hl tokA _t
         obtain ⟨t0, t1, t2, t3⟩ := HT2.out.c4
         obtain ⟨u0, u1, u2, u3⟩ := HU2.out.c4))
    go_ret
    exact ⟨rfl, HW2.out⟩
end Go.Proofs.Ytemkpecagflafaa
