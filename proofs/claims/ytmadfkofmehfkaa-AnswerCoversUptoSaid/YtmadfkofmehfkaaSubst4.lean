/-
  subst.Instance, Variant. No condition but how the terms lie, and how great they are.
-/
import Derived.Test.YtmadfkofmehfkaaMatchH
namespace Go.Proofs.Ytmadfkofmehfkaa
open Go.RowKit Go.Maps

set_option maxRecDepth 100000 in
set_option maxHeartbeats 2000000 in
theorem instance_any {p t : Tm} {pa ta : Option Addr} {pn pc tn tc : Nat} (w : World) (hp : MemW w (.s 4 (Tm.rows p.args)) (.slice pa pn pc)) (ht : MemW w (.s 4 (Tm.rows t.args)) (.slice ta tn tc)) (hs : p.size ≤ 1048576) (hok : p.ok) :
    Calls Try.prog 11 #[.agg #[.int .i64 p.kind, .string p.name, .int .i64 p.n, .slice pa pn pc], .agg #[.int .i64 t.kind, .string t.name, .int .i64 t.n, .slice ta tn tc]] w fun e w' => e = .returned (.bool (inst p t)) ∧ Below w.heap.size w w' := by
  have HB0 := Lib.hid ((below_new w (.cells #[.int .i64 p.kind, .string p.name, .int .i64 p.n, .slice pa pn pc] 24)).alloc (below_new w (.cells #[.int .i64 p.kind, .string p.name, .int .i64 p.n, .slice pa pn pc] 24)).size (.cells #[.int .i64 t.kind, .string t.name, .int .i64 t.n, .slice ta tn tc] 24))
  have HX := Lib.hid ((Bo.new w 24 #[.int .i64 p.kind, .string p.name, .int .i64 p.n, .slice pa pn pc]).alloc (.cells #[.int .i64 t.kind, .string t.name, .int .i64 t.n, .slice ta tn tc] 24))
  have HY := Lib.hid (World.size_alloc w (.cells #[.int .i64 p.kind, .string p.name, .int .i64 p.n, .slice pa pn pc] 24) ▸ Bo.new (w.alloc (.cells #[.int .i64 p.kind, .string p.name, .int .i64 p.n, .slice pa pn pc] 24)) 24 #[.int .i64 t.kind, .string t.name, .int .i64 t.n, .slice ta tn tc])
  have HP := Lib.hid (MemW.keep hp HB0.out)
  have HT := Lib.hid (MemW.keep ht HB0.out)
  have HC := Lib.hid (matchS_any _ HP.out HT.out hs hok)
  obtain ⟨x0, x1, x2, x3⟩ := HX.out.c4
  obtain ⟨y0, y1, y2, y3⟩ := HY.out.c4
  clear hp ht hs hok
  cases hr : (mt p t []).1 with
  | false =>
    have HI : Hid (inst p t = false) := Lib.hid hr
    have HR := Lib.hid hr
    clear hr
    go_enter Try.func11, Try.ntmps11
    go_wp2_with fail
    refine HC.out.mono ?_
    rintro e w4 ⟨hb, h1, _⟩
    have he := h1 HR.out
    subst he
    have HB4 := Lib.hid (HB0.out.trans (hb.mono HB0.out.size))
    clear hb h1
    go_wp2_with fail
    go_ret
    exact ⟨by rw [HI.out]; rfl, HB4.out⟩
  | true =>
    have HI : Hid (inst p t = true) := Lib.hid hr
    have HR := Lib.hid hr
    clear hr
    go_enter Try.func11, Try.ntmps11
    go_wp2_with fail
    refine HC.out.mono ?_
    rintro e w4 ⟨hb, _, h2⟩
    obtain ⟨l, a, n, c, rfl, _, _⟩ := h2 HR.out
    have HB4 := Lib.hid (HB0.out.trans (hb.mono HB0.out.size))
    clear hb
    go_wp2_with fail
    go_ret
    exact ⟨by rw [HI.out]; rfl, HB4.out⟩
/-- Whether each is an instance of the other one. -/
def vari (p t : Tm) : Bool := inst p t && inst t p
set_option maxRecDepth 100000 in
set_option maxHeartbeats 2000000 in
theorem variant_any {p t : Tm} {pa ta : Option Addr} {pn pc tn tc : Nat} (w : World) (hp : MemW w (.s 4 (Tm.rows p.args)) (.slice pa pn pc)) (ht : MemW w (.s 4 (Tm.rows t.args)) (.slice ta tn tc)) (hs : p.size ≤ 1048576) (hs2 : t.size ≤ 1048576) (hok : p.ok) (hok2 : t.ok) :
    Calls Try.prog 10 #[.agg #[.int .i64 p.kind, .string p.name, .int .i64 p.n, .slice pa pn pc], .agg #[.int .i64 t.kind, .string t.name, .int .i64 t.n, .slice ta tn tc]] w fun e w' => e = .returned (.bool (vari p t)) ∧ Below w.heap.size w w' := by
  have HB0 := Lib.hid ((below_new w (.cells #[.int .i64 p.kind, .string p.name, .int .i64 p.n, .slice pa pn pc] 24)).alloc (below_new w (.cells #[.int .i64 p.kind, .string p.name, .int .i64 p.n, .slice pa pn pc] 24)).size (.cells #[.int .i64 t.kind, .string t.name, .int .i64 t.n, .slice ta tn tc] 24))
  have HX := Lib.hid ((Bo.new w 24 #[.int .i64 p.kind, .string p.name, .int .i64 p.n, .slice pa pn pc]).alloc (.cells #[.int .i64 t.kind, .string t.name, .int .i64 t.n, .slice ta tn tc] 24))
  have HY := Lib.hid (World.size_alloc w (.cells #[.int .i64 p.kind, .string p.name, .int .i64 p.n, .slice pa pn pc] 24) ▸ Bo.new (w.alloc (.cells #[.int .i64 p.kind, .string p.name, .int .i64 p.n, .slice pa pn pc] 24)) 24 #[.int .i64 t.kind, .string t.name, .int .i64 t.n, .slice ta tn tc])
  have HP := Lib.hid (MemW.keep hp HB0.out)
  have HT := Lib.hid (MemW.keep ht HB0.out)
  have HC := Lib.hid (instance_any _ HP.out HT.out hs hok)
  have HC2 := Lib.hid (fun w' (hb : Below ((w.alloc (.cells #[.int .i64 p.kind, .string p.name, .int .i64 p.n, .slice pa pn pc] 24)).alloc (.cells #[.int .i64 t.kind, .string t.name, .int .i64 t.n, .slice ta tn tc] 24)).heap.size ((w.alloc (.cells #[.int .i64 p.kind, .string p.name, .int .i64 p.n, .slice pa pn pc] 24)).alloc (.cells #[.int .i64 t.kind, .string t.name, .int .i64 t.n, .slice ta tn tc] 24)) w') => instance_any w' (MemW.keep HT.out hb) (MemW.keep HP.out hb) hs2 hok2)
  obtain ⟨x0, x1, x2, x3⟩ := HX.out.c4
  obtain ⟨y0, y1, y2, y3⟩ := HY.out.c4
  clear hp ht hs hok hs2 hok2
  cases hr : inst p t with
  | false =>
    have HI : Hid (vari p t = false) := Lib.hid (by rw [vari, hr]; rfl)
    rw [hr] at HC
    clear hr
    go_enter Try.func10, Try.ntmps10
    go_wp2_with fail
    refine HC.out.mono ?_
    rintro e w4 ⟨rfl, hb⟩
    have HB4 := Lib.hid (HB0.out.trans (hb.mono HB0.out.size))
    clear hb
    go_wp2_with fail
    go_ret
    exact ⟨by rw [HI.out]; rfl, HB4.out⟩
  | true =>
    have HI : Hid (vari p t = inst t p) := Lib.hid (by rw [vari, hr]; rfl)
    rw [hr] at HC
    clear hr
    go_enter Try.func10, Try.ntmps10
    go_wp2_with fail
    refine HC.out.mono ?_
    rintro e w4 ⟨rfl, hb⟩
    have HB4 := Lib.hid (HB0.out.trans (hb.mono HB0.out.size))
    have HCC := Lib.hid (HC2.out w4 hb)
    have HX4 := Lib.hid (HX.out.keep hb)
    have HY4 := Lib.hid (HY.out.keep hb)
    clear hb x0 x1 x2 x3 y0 y1 y2 y3
    obtain ⟨x0, x1, x2, x3⟩ := HX4.out.c4
    obtain ⟨y0, y1, y2, y3⟩ := HY4.out.c4
    go_wp2_with fail
    refine HCC.out.mono ?_
    rintro e w5 ⟨rfl, hb⟩
    have HB5 := Lib.hid (HB4.out.trans (hb.mono HB4.out.size))
    clear hb x0 x1 x2 x3 y0 y1 y2 y3
    go_wp2_with fail
    go_ret
    exact ⟨by rw [HI.out]; rfl, HB5.out⟩
theorem vari_comm (a b : Tm) : vari a b = vari b a := by unfold vari; rw [Bool.and_comm]
theorem vari_refl {a : Tm} (h : Plain a) : vari a a = true := by unfold vari; rw [inst_refl h]; rfl
theorem vari_trans {a b c : Tm} (ha : Plain a) (hb : Plain b) (hc : Plain c) (h1 : vari a b = true) (h2 : vari b c = true) : vari a c = true := by
  unfold vari at *
  rw [Bool.and_eq_true] at *
  exact ⟨inst_trans ha hb hc h1.1 h2.1, inst_trans hc hb ha h2.2 h1.2⟩
end Go.Proofs.Ytmadfkofmehfkaa
