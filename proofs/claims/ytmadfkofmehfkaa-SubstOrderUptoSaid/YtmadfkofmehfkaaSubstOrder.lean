/-
  The walk of the law SubstOrder: it answers true at every input. No condition but how the terms lie, and how great they are.
-/
import Derived.Test.YtmadfkofmehfkaaAwake04
import Derived.Test.YtmadfkofmehfkaaFew
import Derived.Deep.RegionHeld3
import Derived.Test.YtmadfkofmehfkaaHeld
namespace Go.Proofs.Ytmadfkofmehfkaa
open Go.RowKit Go.Maps

theorem below_step {w W W' : World} (h : Below w.heap.size w W) (k : Below W.heap.size W W') : Below w.heap.size w W' := h.trans (k.mono h.size)
theorem below_toDrew {w W : World} (h : Below w.heap.size w W) : Below w.heap.size w W.drew := h.trans (below_drew _)
/-- Three terms, written down as a slice. -/
theorem few_three {p t u : Tm} {pa ta ua : Option Addr} {pn pc tn tc un uc : Nat} (w0 w : World) (hp : MemW w0 (.s 4 (Tm.rows p.args)) (.slice pa pn pc)) (ht : MemW w0 (.s 4 (Tm.rows t.args)) (.slice ta tn tc)) (hu : MemW w0 (.s 4 (Tm.rows u.args)) (.slice ua un uc)) (hb : Below w0.heap.size w0 w) (hs : (Tm.alls [p, t, u]).length ≤ 1048576) :
    Calls Try.prog 8 #[.slice (some ⟨w.heap.size, 0, none⟩) 3 3] (w.alloc (.cells #[.int .i64 p.kind, .string p.name, .int .i64 p.n, .slice pa pn pc, .int .i64 t.kind, .string t.name, .int .i64 t.n, .slice ta tn tc, .int .i64 u.kind, .string u.name, .int .i64 u.n, .slice ua un uc] 24)) fun e w' => e = .returned (.bool (fewB [p, t, u])) ∧ Below (w.alloc (.cells #[.int .i64 p.kind, .string p.name, .int .i64 p.n, .slice pa pn pc, .int .i64 t.kind, .string t.name, .int .i64 t.n, .slice ta tn tc, .int .i64 u.kind, .string u.name, .int .i64 u.n, .slice ua un uc] 24)).heap.size (w.alloc (.cells #[.int .i64 p.kind, .string p.name, .int .i64 p.n, .slice pa pn pc, .int .i64 t.kind, .string t.name, .int .i64 t.n, .slice ta tn tc, .int .i64 u.kind, .string u.name, .int .i64 u.n, .slice ua un uc] 24)) w' := by
  refine few_any (l := [p, t, u]) (n := 3) (cap := 3) _ ?_ hs
  exact (OwnD.built (B := w.heap.size) (base := w.heap.size) (e := 24) (w := w) (rs := Tm.rows [p, t, u]) (css := [[.int .i64 p.kind, .string p.name, .int .i64 p.n, .slice pa pn pc], [.int .i64 t.kind, .string t.name, .int .i64 t.n, .slice ta tn tc], [.int .i64 u.kind, .string u.name, .int .i64 u.n, .slice ua un uc]]) (by
    rw [Tm.rows, Tm.rows, Tm.rows, Tm.rows]
    exact .cons ⟨rfl, row_mk p (Mem.mono (MemW.keep hp hb) (fun b hb => ⟨.inl hb, hb⟩) fun _ _ => rfl)⟩ (.cons ⟨rfl, row_mk t (Mem.mono (MemW.keep ht hb) (fun b hb => ⟨.inl hb, hb⟩) fun _ _ => rfl)⟩ (.cons ⟨rfl, row_mk u (Mem.mono (MemW.keep hu hb) (fun b hb => ⟨.inl hb, hb⟩) fun _ _ => rfl)⟩ .nil))) (Nat.le_refl _) 3 (by rw [Tm.rows_len]; rfl) (by decide) _ rfl).memW
set_option maxRecDepth 100000 in
set_option maxHeartbeats 20000000 in
theorem substOrder_any {p t u : Tm} {pa ta ua : Option Addr} {pn pc tn tc un uc : Nat} (w : World) (hp : MemW w (.s 4 (Tm.rows p.args)) (.slice pa pn pc)) (ht : MemW w (.s 4 (Tm.rows t.args)) (.slice ta tn tc)) (hu : MemW w (.s 4 (Tm.rows u.args)) (.slice ua un uc)) (hs : (Tm.alls [p, t, u]).length ≤ 1048576) (op : p.ok) (ot : t.ok) (ou : u.ok) :
    Calls Try.prog 3 #[.agg #[.int .i64 p.kind, .string p.name, .int .i64 p.n, .slice pa pn pc], .agg #[.int .i64 t.kind, .string t.name, .int .i64 t.n, .slice ta tn tc], .agg #[.int .i64 u.kind, .string u.name, .int .i64 u.n, .slice ua un uc]] w fun e w' => e = .returned (.bool true) ∧ Below w.heap.size w w' := by
  have HP := Lib.hid hp
  have HT := Lib.hid ht
  have HUU := Lib.hid hu
  have HSZ := Lib.hid hs
  have hal : (Tm.alls [p, t, u]).length = p.size + (t.size + u.size) := by
    rw [Tm.alls, Tm.alls, Tm.alls, Tm.alls, List.append_nil, List.length_append, List.length_append]; rfl
  have HPS : Hid (p.size ≤ 1048576) := Lib.hid (by omega)
  have HTS : Hid (t.size ≤ 1048576) := Lib.hid (by omega)
  have HUS : Hid (u.size ≤ 1048576) := Lib.hid (by omega)
  have HPO := Lib.hid op
  have HTO := Lib.hid ot
  have HUO := Lib.hid ou
  clear hp ht hu hs op ot ou hal
  have HB0 := Lib.hid (((below_new w (.cells #[.int .i64 p.kind, .string p.name, .int .i64 p.n, .slice pa pn pc] 24)).alloc (below_new w _).size (.cells #[.int .i64 t.kind, .string t.name, .int .i64 t.n, .slice ta tn tc] 24)).alloc (by rw [World.size_alloc]; exact Nat.le_trans (below_new w _).size (Nat.le_succ _)) (.cells #[.int .i64 u.kind, .string u.name, .int .i64 u.n, .slice ua un uc] 24))
  have HX := Lib.hid (((Bo.new w 24 #[.int .i64 p.kind, .string p.name, .int .i64 p.n, .slice pa pn pc]).alloc (.cells #[.int .i64 t.kind, .string t.name, .int .i64 t.n, .slice ta tn tc] 24)).alloc (.cells #[.int .i64 u.kind, .string u.name, .int .i64 u.n, .slice ua un uc] 24))
  have HY := Lib.hid ((World.size_alloc w (.cells #[.int .i64 p.kind, .string p.name, .int .i64 p.n, .slice pa pn pc] 24) ▸ Bo.new (w.alloc (.cells #[.int .i64 p.kind, .string p.name, .int .i64 p.n, .slice pa pn pc] 24)) 24 #[.int .i64 t.kind, .string t.name, .int .i64 t.n, .slice ta tn tc] : Bo ((w.alloc (.cells #[.int .i64 p.kind, .string p.name, .int .i64 p.n, .slice pa pn pc] 24)).alloc (.cells #[.int .i64 t.kind, .string t.name, .int .i64 t.n, .slice ta tn tc] 24)) (w.heap.size + 1) 24 #[.int .i64 t.kind, .string t.name, .int .i64 t.n, .slice ta tn tc]).alloc (.cells #[.int .i64 u.kind, .string u.name, .int .i64 u.n, .slice ua un uc] 24))
  have HU : Hid (Bo (((w.alloc (.cells #[.int .i64 p.kind, .string p.name, .int .i64 p.n, .slice pa pn pc] 24)).alloc (.cells #[.int .i64 t.kind, .string t.name, .int .i64 t.n, .slice ta tn tc] 24)).alloc (.cells #[.int .i64 u.kind, .string u.name, .int .i64 u.n, .slice ua un uc] 24)) (w.heap.size + 2) 24 #[.int .i64 u.kind, .string u.name, .int .i64 u.n, .slice ua un uc]) := Lib.hid (by have := Bo.new ((w.alloc (.cells #[.int .i64 p.kind, .string p.name, .int .i64 p.n, .slice pa pn pc] 24)).alloc (.cells #[.int .i64 t.kind, .string t.name, .int .i64 t.n, .slice ta tn tc] 24)) 24 #[.int .i64 u.kind, .string u.name, .int .i64 u.n, .slice ua un uc]; rw [World.size_alloc, World.size_alloc] at this; exact this)
  go_enter Try.func3, Try.ntmps3
  go_wp2_with fail
  refine (awake04_any _).mono ?_
  rintro e w1 ⟨rfl, hb⟩
  have HB1 := Lib.hid (HB0.out.trans (hb.mono HB0.out.size))
  have HX1 := Lib.hid (HX.out.keep hb)
  have HY1 := Lib.hid (HY.out.keep hb)
  have HU1 := Lib.hid (HU.out.keep hb)
  clear hb HB0 HX HY HU
  obtain ⟨x0, x1, x2, x3⟩ := HX1.out.c4
  obtain ⟨y0, y1, y2, y3⟩ := HY1.out.c4
  obtain ⟨z0, z1, z2, z3⟩ := HU1.out.c4
  have HF := Lib.hid (few_three w w1 HP.out HT.out HUU.out HB1.out HSZ.out)
  go_wp2_with fail
  refine HF.out.mono ?_
  rintro e w2 ⟨rfl, hb0⟩
  have hb := (below_new w1 (.cells #[.int .i64 p.kind, .string p.name, .int .i64 p.n, .slice pa pn pc, .int .i64 t.kind, .string t.name, .int .i64 t.n, .slice ta tn tc, .int .i64 u.kind, .string u.name, .int .i64 u.n, .slice ua un uc] 24)).trans (hb0.mono (below_new w1 (.cells #[.int .i64 p.kind, .string p.name, .int .i64 p.n, .slice pa pn pc, .int .i64 t.kind, .string t.name, .int .i64 t.n, .slice ta tn tc, .int .i64 u.kind, .string u.name, .int .i64 u.n, .slice ua un uc] 24)).size)
  have HB2 := Lib.hid (HB1.out.trans (hb.mono HB1.out.size))
  have HX2 := Lib.hid (HX1.out.keep hb)
  have HY2 := Lib.hid (HY1.out.keep hb)
  have HU2 := Lib.hid (HU1.out.keep hb)
  clear hb hb0 HF
  by_cases hfe : fewB [p, t, u] = false
  case pos =>
    rw [hfe]
    go_wp2_with fail
    go_ret
    exact ⟨rfl, HB2.out⟩
  rw [show fewB [p, t, u] = true by simpa using hfe]
  clear hfe
  clear x0 x1 x2 x3 y0 y1 y2 y3 z0 z1 z2 z3
  obtain ⟨x0, x1, x2, x3⟩ := HX2.out.c4
  obtain ⟨y0, y1, y2, y3⟩ := HY2.out.c4
  obtain ⟨z0, z1, z2, z3⟩ := HU2.out.c4
  go_wp2_with fail
  refine (plain4_any (t := p) w2 (MemW.keep HP.out HB2.out) HPS.out).mono ?_
  rintro e w3 ⟨rfl, hb⟩
  have HB3 := Lib.hid (HB2.out.trans (hb.mono HB2.out.size))
  have HX3 := Lib.hid (HX2.out.keep hb)
  have HY3 := Lib.hid (HY2.out.keep hb)
  have HU3 := Lib.hid (HU2.out.keep hb)
  clear hb
  by_cases hpl : plainB p = false
  case pos =>
    rw [hpl]
    go_wp2_with fail
    go_ret
    exact ⟨rfl, HB3.out⟩
  have HPLp := Lib.hid (plain_of (t := p) (by simpa using hpl))
  rw [show plainB p = true by simpa using hpl]
  clear hpl
  clear x0 x1 x2 x3 y0 y1 y2 y3 z0 z1 z2 z3
  obtain ⟨x0, x1, x2, x3⟩ := HX3.out.c4
  obtain ⟨y0, y1, y2, y3⟩ := HY3.out.c4
  obtain ⟨z0, z1, z2, z3⟩ := HU3.out.c4
  go_wp2_with fail
  refine (plain4_any (t := t) w3 (MemW.keep HT.out HB3.out) HTS.out).mono ?_
  rintro e w4 ⟨rfl, hb⟩
  have HB4 := Lib.hid (HB3.out.trans (hb.mono HB3.out.size))
  have HX4 := Lib.hid (HX3.out.keep hb)
  have HY4 := Lib.hid (HY3.out.keep hb)
  have HU4 := Lib.hid (HU3.out.keep hb)
  clear hb
  by_cases hpl : plainB t = false
  case pos =>
    rw [hpl]
    go_wp2_with fail
    go_ret
    exact ⟨rfl, HB4.out⟩
  have HPLt := Lib.hid (plain_of (t := t) (by simpa using hpl))
  rw [show plainB t = true by simpa using hpl]
  clear hpl
  clear x0 x1 x2 x3 y0 y1 y2 y3 z0 z1 z2 z3
  obtain ⟨x0, x1, x2, x3⟩ := HX4.out.c4
  obtain ⟨y0, y1, y2, y3⟩ := HY4.out.c4
  obtain ⟨z0, z1, z2, z3⟩ := HU4.out.c4
  go_wp2_with fail
  refine (plain4_any (t := u) w4 (MemW.keep HUU.out HB4.out) HUS.out).mono ?_
  rintro e w5 ⟨rfl, hb⟩
  have HB5 := Lib.hid (HB4.out.trans (hb.mono HB4.out.size))
  have HX5 := Lib.hid (HX4.out.keep hb)
  have HY5 := Lib.hid (HY4.out.keep hb)
  have HU5 := Lib.hid (HU4.out.keep hb)
  clear hb
  by_cases hpl : plainB u = false
  case pos =>
    rw [hpl]
    go_wp2_with fail
    go_ret
    exact ⟨rfl, HB5.out⟩
  have HPLu := Lib.hid (plain_of (t := u) (by simpa using hpl))
  rw [show plainB u = true by simpa using hpl]
  clear hpl
  clear x0 x1 x2 x3 y0 y1 y2 y3 z0 z1 z2 z3
  obtain ⟨x0, x1, x2, x3⟩ := HX5.out.c4
  obtain ⟨y0, y1, y2, y3⟩ := HY5.out.c4
  obtain ⟨z0, z1, z2, z3⟩ := HU5.out.c4
  have HCUR := Lib.hid (below_toDrew HB5.out)
  have HAA := Lib.hid (vari_refl HPLp.out)
  have HBA := Lib.hid (vari_comm t p)
  by_cases hab : vari p t = false
  case pos =>
    have HAB := Lib.hid hab
    rw [HAB.out] at HBA
    clear hab
    go_wp2_with fail
    refine wp_region_held_drew (S := fun w' => Bo w' w.heap.size 24 #[.int .i64 p.kind, .string p.name, .int .i64 p.n, .slice pa pn pc] ∧ Bo w' (w.heap.size + 1) 24 #[.int .i64 t.kind, .string t.name, .int .i64 t.n, .slice ta tn tc] ∧ Bo w' (w.heap.size + 2) 24 #[.int .i64 u.kind, .string u.name, .int .i64 u.n, .slice ua un uc]) (by kernel_rfl) ⟨HX5.out.drew, HY5.out.drew, HU5.out.drew⟩ (fun hS0 => ?_)
    refine takeL 0 (v := ?_) rfl (by kernel_rfl) (by kernel_rfl) (by kernel_rfl) (fun _ _ _ h => h) (by rfl) ?_ (by assumption) ?_
    rotate_left
    · (intro w hSw; (try dsimp only at hSw); obtain ⟨gx, gy, gz⟩ := hSw; obtain ⟨x0, x1, x2, x3⟩ := gx.c4; obtain ⟨y0, y1, y2, y3⟩ := gy.c4; obtain ⟨z0, z1, z2, z3⟩ := gz.c4; clear gx gy gz; go_simp; try with_reducible rfl)
    try simp only [Act.put, List.setIfInBounds_toArray, List.set_cons_zero, List.set_cons_succ]
    refine takeL 1 (v := ?_) rfl (by kernel_rfl) (by kernel_rfl) (by kernel_rfl) (fun _ _ _ h => h) (by rfl) ?_ (by assumption) ?_
    rotate_left
    · (intro w hSw; (try dsimp only at hSw); obtain ⟨gx, gy, gz⟩ := hSw; obtain ⟨x0, x1, x2, x3⟩ := gx.c4; obtain ⟨y0, y1, y2, y3⟩ := gy.c4; obtain ⟨z0, z1, z2, z3⟩ := gz.c4; clear gx gy gz; go_simp; try with_reducible rfl)
    try simp only [Act.put, List.setIfInBounds_toArray, List.set_cons_zero, List.set_cons_succ]
    refine callL 2 rfl (by kernel_rfl) (by rfl) (fun K hK => ?_)
    go_simp
    refine (variant_any (p := p) (t := p) _ (MemW.keep HP.out HCUR.out) (MemW.keep HP.out HCUR.out) HPS.out HPS.out HPO.out HPO.out).mono ?_
    rintro e wx1 ⟨rfl, hb⟩
    rw [HAA.out]
    have HC1 := Lib.hid hb
    have HCUR := Lib.hid (below_step HCUR.out hb)
    clear hb
    go_simp
    refine hK.out _ _ ?_ (fun hS1 => ?_)
    · exact ⟨hS0.1.keep HC1.out, hS0.2.1.keep HC1.out, hS0.2.2.keep HC1.out⟩
    clear hK K
    refine takeL 3 (v := ?_) rfl (by kernel_rfl) (by kernel_rfl) (by kernel_rfl) (fun _ _ _ h => h) (by rfl) ?_ (by assumption) ?_
    rotate_left
    · (intro w hSw; (try dsimp only at hSw); obtain ⟨gx, gy, gz⟩ := hSw; obtain ⟨x0, x1, x2, x3⟩ := gx.c4; obtain ⟨y0, y1, y2, y3⟩ := gy.c4; obtain ⟨z0, z1, z2, z3⟩ := gz.c4; clear gx gy gz; go_simp; try with_reducible rfl)
    try simp only [Act.put, List.setIfInBounds_toArray, List.set_cons_zero, List.set_cons_succ]
    refine takeL 4 (v := ?_) rfl (by kernel_rfl) (by kernel_rfl) (by kernel_rfl) (fun _ _ _ h => h) (by rfl) ?_ (by assumption) ?_
    rotate_left
    · (intro w hSw; (try dsimp only at hSw); obtain ⟨gx, gy, gz⟩ := hSw; obtain ⟨x0, x1, x2, x3⟩ := gx.c4; obtain ⟨y0, y1, y2, y3⟩ := gy.c4; obtain ⟨z0, z1, z2, z3⟩ := gz.c4; clear gx gy gz; go_simp; try with_reducible rfl)
    try simp only [Act.put, List.setIfInBounds_toArray, List.set_cons_zero, List.set_cons_succ]
    refine takeL 5 (v := ?_) rfl (by kernel_rfl) (by kernel_rfl) (by kernel_rfl) (fun _ _ _ h => h) (by rfl) ?_ (by assumption) ?_
    rotate_left
    · (intro w hSw; (try dsimp only at hSw); obtain ⟨gx, gy, gz⟩ := hSw; obtain ⟨x0, x1, x2, x3⟩ := gx.c4; obtain ⟨y0, y1, y2, y3⟩ := gy.c4; obtain ⟨z0, z1, z2, z3⟩ := gz.c4; clear gx gy gz; go_simp; try with_reducible rfl)
    try simp only [Act.put, List.setIfInBounds_toArray, List.set_cons_zero, List.set_cons_succ]
    refine takeL 6 (v := ?_) rfl (by kernel_rfl) (by kernel_rfl) (by kernel_rfl) (fun _ _ _ h => h) (by rfl) ?_ (by assumption) ?_
    rotate_left
    · (intro w hSw; (try dsimp only at hSw); obtain ⟨gx, gy, gz⟩ := hSw; obtain ⟨x0, x1, x2, x3⟩ := gx.c4; obtain ⟨y0, y1, y2, y3⟩ := gy.c4; obtain ⟨z0, z1, z2, z3⟩ := gz.c4; clear gx gy gz; go_simp; try with_reducible rfl)
    try simp only [Act.put, List.setIfInBounds_toArray, List.set_cons_zero, List.set_cons_succ]
    refine takeL 8 (v := ?_) rfl (by kernel_rfl) (by kernel_rfl) (by kernel_rfl) (fun _ _ _ h => h) (by rfl) ?_ (by assumption) ?_
    rotate_left
    · (intro w hSw; (try dsimp only at hSw); obtain ⟨gx, gy, gz⟩ := hSw; obtain ⟨x0, x1, x2, x3⟩ := gx.c4; obtain ⟨y0, y1, y2, y3⟩ := gy.c4; obtain ⟨z0, z1, z2, z3⟩ := gz.c4; clear gx gy gz; go_simp; try with_reducible rfl)
    try simp only [Act.put, List.setIfInBounds_toArray, List.set_cons_zero, List.set_cons_succ]
    refine takeL 9 (v := ?_) rfl (by kernel_rfl) (by kernel_rfl) (by kernel_rfl) (fun _ _ _ h => h) (by rfl) ?_ (by assumption) ?_
    rotate_left
    · (intro w hSw; (try dsimp only at hSw); obtain ⟨gx, gy, gz⟩ := hSw; obtain ⟨x0, x1, x2, x3⟩ := gx.c4; obtain ⟨y0, y1, y2, y3⟩ := gy.c4; obtain ⟨z0, z1, z2, z3⟩ := gz.c4; clear gx gy gz; go_simp; try with_reducible rfl)
    try simp only [Act.put, List.setIfInBounds_toArray, List.set_cons_zero, List.set_cons_succ]
    refine callL 7 rfl (by kernel_rfl) (by rfl) (fun K hK => ?_)
    go_simp
    refine (variant_any (p := p) (t := t) _ (MemW.keep HP.out HCUR.out) (MemW.keep HT.out HCUR.out) HPS.out HTS.out HPO.out HTO.out).mono ?_
    rintro e wx2 ⟨rfl, hb⟩
    rw [HAB.out]
    have HC2 := Lib.hid hb
    have HCUR := Lib.hid (below_step HCUR.out hb)
    clear hb
    go_simp
    refine hK.out _ _ ?_ (fun hS2 => ?_)
    · exact ⟨hS1.1.keep HC2.out, hS1.2.1.keep HC2.out, hS1.2.2.keep HC2.out⟩
    clear hK K
    refine callL 10 rfl (by kernel_rfl) (by rfl) (fun K hK => ?_)
    go_simp
    refine (variant_any (p := t) (t := p) _ (MemW.keep HT.out HCUR.out) (MemW.keep HP.out HCUR.out) HTS.out HPS.out HTO.out HPO.out).mono ?_
    rintro e wx3 ⟨rfl, hb⟩
    rw [HBA.out]
    have HC3 := Lib.hid hb
    have HCUR := Lib.hid (below_step HCUR.out hb)
    clear hb
    go_simp
    refine hK.out _ _ ?_ (fun hS3 => ?_)
    · exact ⟨hS2.1.keep HC3.out, hS2.2.1.keep HC3.out, hS2.2.2.keep HC3.out⟩
    clear hK K
    refine takeL 11 (v := ?_) rfl (by kernel_rfl) (by kernel_rfl) (by kernel_rfl) (fun _ _ _ h => h) (by rfl) ?_ (by assumption) ?_
    rotate_left
    · (intro w hSw; (try dsimp only at hSw); obtain ⟨gx, gy, gz⟩ := hSw; obtain ⟨x0, x1, x2, x3⟩ := gx.c4; obtain ⟨y0, y1, y2, y3⟩ := gy.c4; obtain ⟨z0, z1, z2, z3⟩ := gz.c4; clear gx gy gz; go_simp; try with_reducible rfl)
    try simp only [Act.put, List.setIfInBounds_toArray, List.set_cons_zero, List.set_cons_succ]
    refine takeL 12 (v := ?_) rfl (by kernel_rfl) (by kernel_rfl) (by kernel_rfl) (fun _ _ _ h => h) (by rfl) ?_ (by assumption) ?_
    rotate_left
    · (intro w hSw; (try dsimp only at hSw); obtain ⟨gx, gy, gz⟩ := hSw; obtain ⟨x0, x1, x2, x3⟩ := gx.c4; obtain ⟨y0, y1, y2, y3⟩ := gy.c4; obtain ⟨z0, z1, z2, z3⟩ := gz.c4; clear gx gy gz; go_simp; try with_reducible rfl)
    try simp only [Act.put, List.setIfInBounds_toArray, List.set_cons_zero, List.set_cons_succ]
    refine takeL 13 (v := ?_) rfl (by kernel_rfl) (by kernel_rfl) (by kernel_rfl) (fun _ _ _ h => h) (by rfl) ?_ (by assumption) ?_
    rotate_left
    · (intro w hSw; (try dsimp only at hSw); obtain ⟨gx, gy, gz⟩ := hSw; obtain ⟨x0, x1, x2, x3⟩ := gx.c4; obtain ⟨y0, y1, y2, y3⟩ := gy.c4; obtain ⟨z0, z1, z2, z3⟩ := gz.c4; clear gx gy gz; go_simp; try with_reducible rfl)
    try simp only [Act.put, List.setIfInBounds_toArray, List.set_cons_zero, List.set_cons_succ]
    refine takeL 14 (v := ?_) rfl (by kernel_rfl) (by kernel_rfl) (by kernel_rfl) (fun _ _ _ h => h) (by rfl) ?_ (by assumption) ?_
    rotate_left
    · (intro w hSw; (try dsimp only at hSw); obtain ⟨gx, gy, gz⟩ := hSw; obtain ⟨x0, x1, x2, x3⟩ := gx.c4; obtain ⟨y0, y1, y2, y3⟩ := gy.c4; obtain ⟨z0, z1, z2, z3⟩ := gz.c4; clear gx gy gz; go_simp; try with_reducible rfl)
    try simp only [Act.put, List.setIfInBounds_toArray, List.set_cons_zero, List.set_cons_succ]
    refine takeL 15 (v := ?_) rfl (by kernel_rfl) (by kernel_rfl) (by kernel_rfl) (fun _ _ _ h => h) (by rfl) ?_ (by assumption) ?_
    rotate_left
    · (intro w hSw; (try dsimp only at hSw); obtain ⟨gx, gy, gz⟩ := hSw; obtain ⟨x0, x1, x2, x3⟩ := gx.c4; obtain ⟨y0, y1, y2, y3⟩ := gy.c4; obtain ⟨z0, z1, z2, z3⟩ := gz.c4; clear gx gy gz; go_simp; try with_reducible rfl)
    try simp only [Act.put, List.setIfInBounds_toArray, List.set_cons_zero, List.set_cons_succ]
    refine callL 16 rfl (by kernel_rfl) (by rfl) (fun K hK => ?_)
    go_simp
    refine (variant_any (p := p) (t := t) _ (MemW.keep HP.out HCUR.out) (MemW.keep HT.out HCUR.out) HPS.out HTS.out HPO.out HTO.out).mono ?_
    rintro e wx4 ⟨rfl, hb⟩
    rw [HAB.out]
    have HC4 := Lib.hid hb
    have HCUR := Lib.hid (below_step HCUR.out hb)
    clear hb
    go_simp
    refine hK.out _ _ ?_ (fun hS4 => ?_)
    · exact ⟨hS3.1.keep HC4.out, hS3.2.1.keep HC4.out, hS3.2.2.keep HC4.out⟩
    clear hK K
    refine takeL 17 (v := ?_) rfl (by kernel_rfl) (by kernel_rfl) (by kernel_rfl) (fun _ _ _ h => h) (by rfl) ?_ (by assumption) ?_
    rotate_left
    · (intro w hSw; (try dsimp only at hSw); obtain ⟨gx, gy, gz⟩ := hSw; obtain ⟨x0, x1, x2, x3⟩ := gx.c4; obtain ⟨y0, y1, y2, y3⟩ := gy.c4; obtain ⟨z0, z1, z2, z3⟩ := gz.c4; clear gx gy gz; go_simp; try with_reducible rfl)
    try simp only [Act.put, List.setIfInBounds_toArray, List.set_cons_zero, List.set_cons_succ]
    refine skipL 18 rfl (by kernel_rfl) (by kernel_rfl) (by kernel_rfl) (fun _ _ _ h => h) (by rfl) (by assumption) ?_
    try simp only [Act.put, List.setIfInBounds_toArray, List.set_cons_zero, List.set_cons_succ]
    refine skipL 19 rfl (by kernel_rfl) (by kernel_rfl) (by kernel_rfl) (fun _ _ _ h => h) (by rfl) (by assumption) ?_
    try simp only [Act.put, List.setIfInBounds_toArray, List.set_cons_zero, List.set_cons_succ]
    refine skipCallL 20 rfl (by kernel_rfl) (by rfl) (by assumption) ?_
    try simp only [Act.put, List.setIfInBounds_toArray, List.set_cons_zero, List.set_cons_succ]
    refine takeL 21 (v := ?_) rfl (by kernel_rfl) (by kernel_rfl) (by kernel_rfl) (fun _ _ _ h => h) (by rfl) ?_ (by assumption) ?_
    rotate_left
    · (intro w hSw; (try dsimp only at hSw); obtain ⟨gx, gy, gz⟩ := hSw; obtain ⟨x0, x1, x2, x3⟩ := gx.c4; obtain ⟨y0, y1, y2, y3⟩ := gy.c4; obtain ⟨z0, z1, z2, z3⟩ := gz.c4; clear gx gy gz; go_simp; try with_reducible rfl)
    try simp only [Act.put, List.setIfInBounds_toArray, List.set_cons_zero, List.set_cons_succ]
    refine takeL 22 (v := ?_) rfl (by kernel_rfl) (by kernel_rfl) (by kernel_rfl) (fun _ _ _ h => h) (by rfl) ?_ (by assumption) ?_
    rotate_left
    · (intro w hSw; (try dsimp only at hSw); obtain ⟨gx, gy, gz⟩ := hSw; obtain ⟨x0, x1, x2, x3⟩ := gx.c4; obtain ⟨y0, y1, y2, y3⟩ := gy.c4; obtain ⟨z0, z1, z2, z3⟩ := gz.c4; clear gx gy gz; go_simp; try with_reducible rfl)
    try simp only [Act.put, List.setIfInBounds_toArray, List.set_cons_zero, List.set_cons_succ]
    refine skipL 23 rfl (by kernel_rfl) (by kernel_rfl) (by kernel_rfl) (fun _ _ _ h => h) (by rfl) (by assumption) ?_
    try simp only [Act.put, List.setIfInBounds_toArray, List.set_cons_zero, List.set_cons_succ]
    refine skipL 24 rfl (by kernel_rfl) (by kernel_rfl) (by kernel_rfl) (fun _ _ _ h => h) (by rfl) (by assumption) ?_
    try simp only [Act.put, List.setIfInBounds_toArray, List.set_cons_zero, List.set_cons_succ]
    refine skipCallL 25 rfl (by kernel_rfl) (by rfl) (by assumption) ?_
    try simp only [Act.put, List.setIfInBounds_toArray, List.set_cons_zero, List.set_cons_succ]
    refine skipL 26 rfl (by kernel_rfl) (by kernel_rfl) (by kernel_rfl) (fun _ _ _ h => h) (by rfl) (by assumption) ?_
    try simp only [Act.put, List.setIfInBounds_toArray, List.set_cons_zero, List.set_cons_succ]
    refine takeL 27 (v := ?_) rfl (by kernel_rfl) (by kernel_rfl) (by kernel_rfl) (fun _ _ _ h => h) (by rfl) ?_ (by assumption) ?_
    rotate_left
    · (intro w hSw; (try dsimp only at hSw); obtain ⟨gx, gy, gz⟩ := hSw; obtain ⟨x0, x1, x2, x3⟩ := gx.c4; obtain ⟨y0, y1, y2, y3⟩ := gy.c4; obtain ⟨z0, z1, z2, z3⟩ := gz.c4; clear gx gy gz; go_simp; try with_reducible rfl)
    try simp only [Act.put, List.setIfInBounds_toArray, List.set_cons_zero, List.set_cons_succ]
    refine takeL 28 (v := ?_) rfl (by kernel_rfl) (by kernel_rfl) (by kernel_rfl) (fun _ _ _ h => h) (by rfl) ?_ (by assumption) ?_
    rotate_left
    · (intro w hSw; (try dsimp only at hSw); obtain ⟨gx, gy, gz⟩ := hSw; obtain ⟨x0, x1, x2, x3⟩ := gx.c4; obtain ⟨y0, y1, y2, y3⟩ := gy.c4; obtain ⟨z0, z1, z2, z3⟩ := gz.c4; clear gx gy gz; go_simp; try with_reducible rfl)
    try simp only [Act.put, List.setIfInBounds_toArray, List.set_cons_zero, List.set_cons_succ]
    refine wpAnyH_done (by kernel_rfl) ?_ _
    have HE0 := HCUR
    have HXE0 := Lib.hid (((((HX5.out.drew).keep HC1.out).keep HC2.out).keep HC3.out).keep HC4.out)
    have HYE0 := Lib.hid (((((HY5.out.drew).keep HC1.out).keep HC2.out).keep HC3.out).keep HC4.out)
    have HUE0 := Lib.hid (((((HU5.out.drew).keep HC1.out).keep HC2.out).keep HC3.out).keep HC4.out)
    clear x0 x1 x2 x3 y0 y1 y2 y3 z0 z1 z2 z3
    obtain ⟨x0, x1, x2, x3⟩ := HXE0.out.c4
    obtain ⟨y0, y1, y2, y3⟩ := HYE0.out.c4
    obtain ⟨z0, z1, z2, z3⟩ := HUE0.out.c4
    by_cases i1 : inst p t = false
    case pos =>
      have HI1 := Lib.hid i1
      clear i1
      go_wp2_with fail
      refine (instance_any (p := p) (t := t) _ (MemW.keep HP.out HE0.out) (MemW.keep HT.out HE0.out) HPS.out HPO.out).mono ?_
      rintro e v1 ⟨rfl, hb⟩
      rw [HI1.out]
      have HE1 := Lib.hid (below_step HE0.out hb)
      have HXE1 := Lib.hid (HXE0.out.keep hb)
      have HYE1 := Lib.hid (HYE0.out.keep hb)
      have HUE1 := Lib.hid (HUE0.out.keep hb)
      clear hb x0 x1 x2 x3 y0 y1 y2 y3 z0 z1 z2 z3
      obtain ⟨x0, x1, x2, x3⟩ := HXE1.out.c4
      obtain ⟨y0, y1, y2, y3⟩ := HYE1.out.c4
      obtain ⟨z0, z1, z2, z3⟩ := HUE1.out.c4
      go_wp2_with fail
      go_ret
      exact ⟨rfl, HE1.out⟩
    have i1t : inst p t = true := by simpa using i1
    by_cases i2 : inst t u = false
    case pos =>
      have HI1 := Lib.hid i1t
      have HI2 := Lib.hid i2
      clear i1 i1t i2
      go_wp2_with fail
      refine (instance_any (p := p) (t := t) _ (MemW.keep HP.out HE0.out) (MemW.keep HT.out HE0.out) HPS.out HPO.out).mono ?_
      rintro e v1 ⟨rfl, hb⟩
      rw [HI1.out]
      have HE1 := Lib.hid (below_step HE0.out hb)
      have HXE1 := Lib.hid (HXE0.out.keep hb)
      have HYE1 := Lib.hid (HYE0.out.keep hb)
      have HUE1 := Lib.hid (HUE0.out.keep hb)
      clear hb x0 x1 x2 x3 y0 y1 y2 y3 z0 z1 z2 z3
      obtain ⟨x0, x1, x2, x3⟩ := HXE1.out.c4
      obtain ⟨y0, y1, y2, y3⟩ := HYE1.out.c4
      obtain ⟨z0, z1, z2, z3⟩ := HUE1.out.c4
      go_wp2_with fail
      refine (instance_any (p := t) (t := u) _ (MemW.keep HT.out HE1.out) (MemW.keep HUU.out HE1.out) HTS.out HTO.out).mono ?_
      rintro e v2 ⟨rfl, hb⟩
      rw [HI2.out]
      have HE2 := Lib.hid (below_step HE1.out hb)
      have HXE2 := Lib.hid (HXE1.out.keep hb)
      have HYE2 := Lib.hid (HYE1.out.keep hb)
      have HUE2 := Lib.hid (HUE1.out.keep hb)
      clear hb x0 x1 x2 x3 y0 y1 y2 y3 z0 z1 z2 z3
      obtain ⟨x0, x1, x2, x3⟩ := HXE2.out.c4
      obtain ⟨y0, y1, y2, y3⟩ := HYE2.out.c4
      obtain ⟨z0, z1, z2, z3⟩ := HUE2.out.c4
      go_wp2_with fail
      go_ret
      exact ⟨rfl, HE2.out⟩
    have i2t : inst t u = true := by simpa using i2
    have HI3 := Lib.hid (inst_trans HPLp.out HPLt.out HPLu.out i1t i2t)
    have HI1 := Lib.hid i1t
    have HI2 := Lib.hid i2t
    clear i1 i1t i2 i2t
    go_wp2_with fail
    refine (instance_any (p := p) (t := t) _ (MemW.keep HP.out HE0.out) (MemW.keep HT.out HE0.out) HPS.out HPO.out).mono ?_
    rintro e v1 ⟨rfl, hb⟩
    rw [HI1.out]
    have HE1 := Lib.hid (below_step HE0.out hb)
    have HXE1 := Lib.hid (HXE0.out.keep hb)
    have HYE1 := Lib.hid (HYE0.out.keep hb)
    have HUE1 := Lib.hid (HUE0.out.keep hb)
    clear hb x0 x1 x2 x3 y0 y1 y2 y3 z0 z1 z2 z3
    obtain ⟨x0, x1, x2, x3⟩ := HXE1.out.c4
    obtain ⟨y0, y1, y2, y3⟩ := HYE1.out.c4
    obtain ⟨z0, z1, z2, z3⟩ := HUE1.out.c4
    go_wp2_with fail
    refine (instance_any (p := t) (t := u) _ (MemW.keep HT.out HE1.out) (MemW.keep HUU.out HE1.out) HTS.out HTO.out).mono ?_
    rintro e v2 ⟨rfl, hb⟩
    rw [HI2.out]
    have HE2 := Lib.hid (below_step HE1.out hb)
    have HXE2 := Lib.hid (HXE1.out.keep hb)
    have HYE2 := Lib.hid (HYE1.out.keep hb)
    have HUE2 := Lib.hid (HUE1.out.keep hb)
    clear hb x0 x1 x2 x3 y0 y1 y2 y3 z0 z1 z2 z3
    obtain ⟨x0, x1, x2, x3⟩ := HXE2.out.c4
    obtain ⟨y0, y1, y2, y3⟩ := HYE2.out.c4
    obtain ⟨z0, z1, z2, z3⟩ := HUE2.out.c4
    go_wp2_with fail
    refine (instance_any (p := p) (t := u) _ (MemW.keep HP.out HE2.out) (MemW.keep HUU.out HE2.out) HPS.out HPO.out).mono ?_
    rintro e v3 ⟨rfl, hb⟩
    rw [HI3.out]
    have HE3 := Lib.hid (below_step HE2.out hb)
    have HXE3 := Lib.hid (HXE2.out.keep hb)
    have HYE3 := Lib.hid (HYE2.out.keep hb)
    have HUE3 := Lib.hid (HUE2.out.keep hb)
    clear hb x0 x1 x2 x3 y0 y1 y2 y3 z0 z1 z2 z3
    obtain ⟨x0, x1, x2, x3⟩ := HXE3.out.c4
    obtain ⟨y0, y1, y2, y3⟩ := HYE3.out.c4
    obtain ⟨z0, z1, z2, z3⟩ := HUE3.out.c4
    go_wp2_with fail
    go_ret
    exact ⟨rfl, HE3.out⟩
  have hab1 : vari p t = true := by simpa using hab
  by_cases hbc : vari t u = false
  case pos =>
    have HAB := Lib.hid hab1
    have HBC := Lib.hid hbc
    rw [HAB.out] at HBA
    clear hab hab1 hbc
    go_wp2_with fail
    refine wp_region_held_drew (S := fun w' => Bo w' w.heap.size 24 #[.int .i64 p.kind, .string p.name, .int .i64 p.n, .slice pa pn pc] ∧ Bo w' (w.heap.size + 1) 24 #[.int .i64 t.kind, .string t.name, .int .i64 t.n, .slice ta tn tc] ∧ Bo w' (w.heap.size + 2) 24 #[.int .i64 u.kind, .string u.name, .int .i64 u.n, .slice ua un uc]) (by kernel_rfl) ⟨HX5.out.drew, HY5.out.drew, HU5.out.drew⟩ (fun hS0 => ?_)
    refine takeL 0 (v := ?_) rfl (by kernel_rfl) (by kernel_rfl) (by kernel_rfl) (fun _ _ _ h => h) (by rfl) ?_ (by assumption) ?_
    rotate_left
    · (intro w hSw; (try dsimp only at hSw); obtain ⟨gx, gy, gz⟩ := hSw; obtain ⟨x0, x1, x2, x3⟩ := gx.c4; obtain ⟨y0, y1, y2, y3⟩ := gy.c4; obtain ⟨z0, z1, z2, z3⟩ := gz.c4; clear gx gy gz; go_simp; try with_reducible rfl)
    try simp only [Act.put, List.setIfInBounds_toArray, List.set_cons_zero, List.set_cons_succ]
    refine takeL 1 (v := ?_) rfl (by kernel_rfl) (by kernel_rfl) (by kernel_rfl) (fun _ _ _ h => h) (by rfl) ?_ (by assumption) ?_
    rotate_left
    · (intro w hSw; (try dsimp only at hSw); obtain ⟨gx, gy, gz⟩ := hSw; obtain ⟨x0, x1, x2, x3⟩ := gx.c4; obtain ⟨y0, y1, y2, y3⟩ := gy.c4; obtain ⟨z0, z1, z2, z3⟩ := gz.c4; clear gx gy gz; go_simp; try with_reducible rfl)
    try simp only [Act.put, List.setIfInBounds_toArray, List.set_cons_zero, List.set_cons_succ]
    refine callL 2 rfl (by kernel_rfl) (by rfl) (fun K hK => ?_)
    go_simp
    refine (variant_any (p := p) (t := p) _ (MemW.keep HP.out HCUR.out) (MemW.keep HP.out HCUR.out) HPS.out HPS.out HPO.out HPO.out).mono ?_
    rintro e wx1 ⟨rfl, hb⟩
    rw [HAA.out]
    have HC1 := Lib.hid hb
    have HCUR := Lib.hid (below_step HCUR.out hb)
    clear hb
    go_simp
    refine hK.out _ _ ?_ (fun hS1 => ?_)
    · exact ⟨hS0.1.keep HC1.out, hS0.2.1.keep HC1.out, hS0.2.2.keep HC1.out⟩
    clear hK K
    refine takeL 3 (v := ?_) rfl (by kernel_rfl) (by kernel_rfl) (by kernel_rfl) (fun _ _ _ h => h) (by rfl) ?_ (by assumption) ?_
    rotate_left
    · (intro w hSw; (try dsimp only at hSw); obtain ⟨gx, gy, gz⟩ := hSw; obtain ⟨x0, x1, x2, x3⟩ := gx.c4; obtain ⟨y0, y1, y2, y3⟩ := gy.c4; obtain ⟨z0, z1, z2, z3⟩ := gz.c4; clear gx gy gz; go_simp; try with_reducible rfl)
    try simp only [Act.put, List.setIfInBounds_toArray, List.set_cons_zero, List.set_cons_succ]
    refine takeL 4 (v := ?_) rfl (by kernel_rfl) (by kernel_rfl) (by kernel_rfl) (fun _ _ _ h => h) (by rfl) ?_ (by assumption) ?_
    rotate_left
    · (intro w hSw; (try dsimp only at hSw); obtain ⟨gx, gy, gz⟩ := hSw; obtain ⟨x0, x1, x2, x3⟩ := gx.c4; obtain ⟨y0, y1, y2, y3⟩ := gy.c4; obtain ⟨z0, z1, z2, z3⟩ := gz.c4; clear gx gy gz; go_simp; try with_reducible rfl)
    try simp only [Act.put, List.setIfInBounds_toArray, List.set_cons_zero, List.set_cons_succ]
    refine takeL 5 (v := ?_) rfl (by kernel_rfl) (by kernel_rfl) (by kernel_rfl) (fun _ _ _ h => h) (by rfl) ?_ (by assumption) ?_
    rotate_left
    · (intro w hSw; (try dsimp only at hSw); obtain ⟨gx, gy, gz⟩ := hSw; obtain ⟨x0, x1, x2, x3⟩ := gx.c4; obtain ⟨y0, y1, y2, y3⟩ := gy.c4; obtain ⟨z0, z1, z2, z3⟩ := gz.c4; clear gx gy gz; go_simp; try with_reducible rfl)
    try simp only [Act.put, List.setIfInBounds_toArray, List.set_cons_zero, List.set_cons_succ]
    refine takeL 6 (v := ?_) rfl (by kernel_rfl) (by kernel_rfl) (by kernel_rfl) (fun _ _ _ h => h) (by rfl) ?_ (by assumption) ?_
    rotate_left
    · (intro w hSw; (try dsimp only at hSw); obtain ⟨gx, gy, gz⟩ := hSw; obtain ⟨x0, x1, x2, x3⟩ := gx.c4; obtain ⟨y0, y1, y2, y3⟩ := gy.c4; obtain ⟨z0, z1, z2, z3⟩ := gz.c4; clear gx gy gz; go_simp; try with_reducible rfl)
    try simp only [Act.put, List.setIfInBounds_toArray, List.set_cons_zero, List.set_cons_succ]
    refine takeL 8 (v := ?_) rfl (by kernel_rfl) (by kernel_rfl) (by kernel_rfl) (fun _ _ _ h => h) (by rfl) ?_ (by assumption) ?_
    rotate_left
    · (intro w hSw; (try dsimp only at hSw); obtain ⟨gx, gy, gz⟩ := hSw; obtain ⟨x0, x1, x2, x3⟩ := gx.c4; obtain ⟨y0, y1, y2, y3⟩ := gy.c4; obtain ⟨z0, z1, z2, z3⟩ := gz.c4; clear gx gy gz; go_simp; try with_reducible rfl)
    try simp only [Act.put, List.setIfInBounds_toArray, List.set_cons_zero, List.set_cons_succ]
    refine takeL 9 (v := ?_) rfl (by kernel_rfl) (by kernel_rfl) (by kernel_rfl) (fun _ _ _ h => h) (by rfl) ?_ (by assumption) ?_
    rotate_left
    · (intro w hSw; (try dsimp only at hSw); obtain ⟨gx, gy, gz⟩ := hSw; obtain ⟨x0, x1, x2, x3⟩ := gx.c4; obtain ⟨y0, y1, y2, y3⟩ := gy.c4; obtain ⟨z0, z1, z2, z3⟩ := gz.c4; clear gx gy gz; go_simp; try with_reducible rfl)
    try simp only [Act.put, List.setIfInBounds_toArray, List.set_cons_zero, List.set_cons_succ]
    refine callL 7 rfl (by kernel_rfl) (by rfl) (fun K hK => ?_)
    go_simp
    refine (variant_any (p := p) (t := t) _ (MemW.keep HP.out HCUR.out) (MemW.keep HT.out HCUR.out) HPS.out HTS.out HPO.out HTO.out).mono ?_
    rintro e wx2 ⟨rfl, hb⟩
    rw [HAB.out]
    have HC2 := Lib.hid hb
    have HCUR := Lib.hid (below_step HCUR.out hb)
    clear hb
    go_simp
    refine hK.out _ _ ?_ (fun hS2 => ?_)
    · exact ⟨hS1.1.keep HC2.out, hS1.2.1.keep HC2.out, hS1.2.2.keep HC2.out⟩
    clear hK K
    refine callL 10 rfl (by kernel_rfl) (by rfl) (fun K hK => ?_)
    go_simp
    refine (variant_any (p := t) (t := p) _ (MemW.keep HT.out HCUR.out) (MemW.keep HP.out HCUR.out) HTS.out HPS.out HTO.out HPO.out).mono ?_
    rintro e wx3 ⟨rfl, hb⟩
    rw [HBA.out]
    have HC3 := Lib.hid hb
    have HCUR := Lib.hid (below_step HCUR.out hb)
    clear hb
    go_simp
    refine hK.out _ _ ?_ (fun hS3 => ?_)
    · exact ⟨hS2.1.keep HC3.out, hS2.2.1.keep HC3.out, hS2.2.2.keep HC3.out⟩
    clear hK K
    refine takeL 11 (v := ?_) rfl (by kernel_rfl) (by kernel_rfl) (by kernel_rfl) (fun _ _ _ h => h) (by rfl) ?_ (by assumption) ?_
    rotate_left
    · (intro w hSw; (try dsimp only at hSw); obtain ⟨gx, gy, gz⟩ := hSw; obtain ⟨x0, x1, x2, x3⟩ := gx.c4; obtain ⟨y0, y1, y2, y3⟩ := gy.c4; obtain ⟨z0, z1, z2, z3⟩ := gz.c4; clear gx gy gz; go_simp; try with_reducible rfl)
    try simp only [Act.put, List.setIfInBounds_toArray, List.set_cons_zero, List.set_cons_succ]
    refine takeL 12 (v := ?_) rfl (by kernel_rfl) (by kernel_rfl) (by kernel_rfl) (fun _ _ _ h => h) (by rfl) ?_ (by assumption) ?_
    rotate_left
    · (intro w hSw; (try dsimp only at hSw); obtain ⟨gx, gy, gz⟩ := hSw; obtain ⟨x0, x1, x2, x3⟩ := gx.c4; obtain ⟨y0, y1, y2, y3⟩ := gy.c4; obtain ⟨z0, z1, z2, z3⟩ := gz.c4; clear gx gy gz; go_simp; try with_reducible rfl)
    try simp only [Act.put, List.setIfInBounds_toArray, List.set_cons_zero, List.set_cons_succ]
    refine takeL 13 (v := ?_) rfl (by kernel_rfl) (by kernel_rfl) (by kernel_rfl) (fun _ _ _ h => h) (by rfl) ?_ (by assumption) ?_
    rotate_left
    · (intro w hSw; (try dsimp only at hSw); obtain ⟨gx, gy, gz⟩ := hSw; obtain ⟨x0, x1, x2, x3⟩ := gx.c4; obtain ⟨y0, y1, y2, y3⟩ := gy.c4; obtain ⟨z0, z1, z2, z3⟩ := gz.c4; clear gx gy gz; go_simp; try with_reducible rfl)
    try simp only [Act.put, List.setIfInBounds_toArray, List.set_cons_zero, List.set_cons_succ]
    refine takeL 14 (v := ?_) rfl (by kernel_rfl) (by kernel_rfl) (by kernel_rfl) (fun _ _ _ h => h) (by rfl) ?_ (by assumption) ?_
    rotate_left
    · (intro w hSw; (try dsimp only at hSw); obtain ⟨gx, gy, gz⟩ := hSw; obtain ⟨x0, x1, x2, x3⟩ := gx.c4; obtain ⟨y0, y1, y2, y3⟩ := gy.c4; obtain ⟨z0, z1, z2, z3⟩ := gz.c4; clear gx gy gz; go_simp; try with_reducible rfl)
    try simp only [Act.put, List.setIfInBounds_toArray, List.set_cons_zero, List.set_cons_succ]
    refine takeL 15 (v := ?_) rfl (by kernel_rfl) (by kernel_rfl) (by kernel_rfl) (fun _ _ _ h => h) (by rfl) ?_ (by assumption) ?_
    rotate_left
    · (intro w hSw; (try dsimp only at hSw); obtain ⟨gx, gy, gz⟩ := hSw; obtain ⟨x0, x1, x2, x3⟩ := gx.c4; obtain ⟨y0, y1, y2, y3⟩ := gy.c4; obtain ⟨z0, z1, z2, z3⟩ := gz.c4; clear gx gy gz; go_simp; try with_reducible rfl)
    try simp only [Act.put, List.setIfInBounds_toArray, List.set_cons_zero, List.set_cons_succ]
    refine callL 16 rfl (by kernel_rfl) (by rfl) (fun K hK => ?_)
    go_simp
    refine (variant_any (p := p) (t := t) _ (MemW.keep HP.out HCUR.out) (MemW.keep HT.out HCUR.out) HPS.out HTS.out HPO.out HTO.out).mono ?_
    rintro e wx4 ⟨rfl, hb⟩
    rw [HAB.out]
    have HC4 := Lib.hid hb
    have HCUR := Lib.hid (below_step HCUR.out hb)
    clear hb
    go_simp
    refine hK.out _ _ ?_ (fun hS4 => ?_)
    · exact ⟨hS3.1.keep HC4.out, hS3.2.1.keep HC4.out, hS3.2.2.keep HC4.out⟩
    clear hK K
    refine takeL 17 (v := ?_) rfl (by kernel_rfl) (by kernel_rfl) (by kernel_rfl) (fun _ _ _ h => h) (by rfl) ?_ (by assumption) ?_
    rotate_left
    · (intro w hSw; (try dsimp only at hSw); obtain ⟨gx, gy, gz⟩ := hSw; obtain ⟨x0, x1, x2, x3⟩ := gx.c4; obtain ⟨y0, y1, y2, y3⟩ := gy.c4; obtain ⟨z0, z1, z2, z3⟩ := gz.c4; clear gx gy gz; go_simp; try with_reducible rfl)
    try simp only [Act.put, List.setIfInBounds_toArray, List.set_cons_zero, List.set_cons_succ]
    refine takeL 18 (v := ?_) rfl (by kernel_rfl) (by kernel_rfl) (by kernel_rfl) (fun _ _ _ h => h) (by rfl) ?_ (by assumption) ?_
    rotate_left
    · (intro w hSw; (try dsimp only at hSw); obtain ⟨gx, gy, gz⟩ := hSw; obtain ⟨x0, x1, x2, x3⟩ := gx.c4; obtain ⟨y0, y1, y2, y3⟩ := gy.c4; obtain ⟨z0, z1, z2, z3⟩ := gz.c4; clear gx gy gz; go_simp; try with_reducible rfl)
    try simp only [Act.put, List.setIfInBounds_toArray, List.set_cons_zero, List.set_cons_succ]
    refine takeL 19 (v := ?_) rfl (by kernel_rfl) (by kernel_rfl) (by kernel_rfl) (fun _ _ _ h => h) (by rfl) ?_ (by assumption) ?_
    rotate_left
    · (intro w hSw; (try dsimp only at hSw); obtain ⟨gx, gy, gz⟩ := hSw; obtain ⟨x0, x1, x2, x3⟩ := gx.c4; obtain ⟨y0, y1, y2, y3⟩ := gy.c4; obtain ⟨z0, z1, z2, z3⟩ := gz.c4; clear gx gy gz; go_simp; try with_reducible rfl)
    try simp only [Act.put, List.setIfInBounds_toArray, List.set_cons_zero, List.set_cons_succ]
    refine callL 20 rfl (by kernel_rfl) (by rfl) (fun K hK => ?_)
    go_simp
    refine (variant_any (p := t) (t := u) _ (MemW.keep HT.out HCUR.out) (MemW.keep HUU.out HCUR.out) HTS.out HUS.out HTO.out HUO.out).mono ?_
    rintro e wx5 ⟨rfl, hb⟩
    rw [HBC.out]
    have HC5 := Lib.hid hb
    have HCUR := Lib.hid (below_step HCUR.out hb)
    clear hb
    go_simp
    refine hK.out _ _ ?_ (fun hS5 => ?_)
    · exact ⟨hS4.1.keep HC5.out, hS4.2.1.keep HC5.out, hS4.2.2.keep HC5.out⟩
    clear hK K
    refine takeL 21 (v := ?_) rfl (by kernel_rfl) (by kernel_rfl) (by kernel_rfl) (fun _ _ _ h => h) (by rfl) ?_ (by assumption) ?_
    rotate_left
    · (intro w hSw; (try dsimp only at hSw); obtain ⟨gx, gy, gz⟩ := hSw; obtain ⟨x0, x1, x2, x3⟩ := gx.c4; obtain ⟨y0, y1, y2, y3⟩ := gy.c4; obtain ⟨z0, z1, z2, z3⟩ := gz.c4; clear gx gy gz; go_simp; try with_reducible rfl)
    try simp only [Act.put, List.setIfInBounds_toArray, List.set_cons_zero, List.set_cons_succ]
    refine takeL 22 (v := ?_) rfl (by kernel_rfl) (by kernel_rfl) (by kernel_rfl) (fun _ _ _ h => h) (by rfl) ?_ (by assumption) ?_
    rotate_left
    · (intro w hSw; (try dsimp only at hSw); obtain ⟨gx, gy, gz⟩ := hSw; obtain ⟨x0, x1, x2, x3⟩ := gx.c4; obtain ⟨y0, y1, y2, y3⟩ := gy.c4; obtain ⟨z0, z1, z2, z3⟩ := gz.c4; clear gx gy gz; go_simp; try with_reducible rfl)
    try simp only [Act.put, List.setIfInBounds_toArray, List.set_cons_zero, List.set_cons_succ]
    refine skipL 23 rfl (by kernel_rfl) (by kernel_rfl) (by kernel_rfl) (fun _ _ _ h => h) (by rfl) (by assumption) ?_
    try simp only [Act.put, List.setIfInBounds_toArray, List.set_cons_zero, List.set_cons_succ]
    refine skipL 24 rfl (by kernel_rfl) (by kernel_rfl) (by kernel_rfl) (fun _ _ _ h => h) (by rfl) (by assumption) ?_
    try simp only [Act.put, List.setIfInBounds_toArray, List.set_cons_zero, List.set_cons_succ]
    refine skipCallL 25 rfl (by kernel_rfl) (by rfl) (by assumption) ?_
    try simp only [Act.put, List.setIfInBounds_toArray, List.set_cons_zero, List.set_cons_succ]
    refine skipL 26 rfl (by kernel_rfl) (by kernel_rfl) (by kernel_rfl) (fun _ _ _ h => h) (by rfl) (by assumption) ?_
    try simp only [Act.put, List.setIfInBounds_toArray, List.set_cons_zero, List.set_cons_succ]
    refine takeL 27 (v := ?_) rfl (by kernel_rfl) (by kernel_rfl) (by kernel_rfl) (fun _ _ _ h => h) (by rfl) ?_ (by assumption) ?_
    rotate_left
    · (intro w hSw; (try dsimp only at hSw); obtain ⟨gx, gy, gz⟩ := hSw; obtain ⟨x0, x1, x2, x3⟩ := gx.c4; obtain ⟨y0, y1, y2, y3⟩ := gy.c4; obtain ⟨z0, z1, z2, z3⟩ := gz.c4; clear gx gy gz; go_simp; try with_reducible rfl)
    try simp only [Act.put, List.setIfInBounds_toArray, List.set_cons_zero, List.set_cons_succ]
    refine takeL 28 (v := ?_) rfl (by kernel_rfl) (by kernel_rfl) (by kernel_rfl) (fun _ _ _ h => h) (by rfl) ?_ (by assumption) ?_
    rotate_left
    · (intro w hSw; (try dsimp only at hSw); obtain ⟨gx, gy, gz⟩ := hSw; obtain ⟨x0, x1, x2, x3⟩ := gx.c4; obtain ⟨y0, y1, y2, y3⟩ := gy.c4; obtain ⟨z0, z1, z2, z3⟩ := gz.c4; clear gx gy gz; go_simp; try with_reducible rfl)
    try simp only [Act.put, List.setIfInBounds_toArray, List.set_cons_zero, List.set_cons_succ]
    refine wpAnyH_done (by kernel_rfl) ?_ _
    have HE0 := HCUR
    have HXE0 := Lib.hid ((((((HX5.out.drew).keep HC1.out).keep HC2.out).keep HC3.out).keep HC4.out).keep HC5.out)
    have HYE0 := Lib.hid ((((((HY5.out.drew).keep HC1.out).keep HC2.out).keep HC3.out).keep HC4.out).keep HC5.out)
    have HUE0 := Lib.hid ((((((HU5.out.drew).keep HC1.out).keep HC2.out).keep HC3.out).keep HC4.out).keep HC5.out)
    clear x0 x1 x2 x3 y0 y1 y2 y3 z0 z1 z2 z3
    obtain ⟨x0, x1, x2, x3⟩ := HXE0.out.c4
    obtain ⟨y0, y1, y2, y3⟩ := HYE0.out.c4
    obtain ⟨z0, z1, z2, z3⟩ := HUE0.out.c4
    by_cases i1 : inst p t = false
    case pos =>
      have HI1 := Lib.hid i1
      clear i1
      go_wp2_with fail
      refine (instance_any (p := p) (t := t) _ (MemW.keep HP.out HE0.out) (MemW.keep HT.out HE0.out) HPS.out HPO.out).mono ?_
      rintro e v1 ⟨rfl, hb⟩
      rw [HI1.out]
      have HE1 := Lib.hid (below_step HE0.out hb)
      have HXE1 := Lib.hid (HXE0.out.keep hb)
      have HYE1 := Lib.hid (HYE0.out.keep hb)
      have HUE1 := Lib.hid (HUE0.out.keep hb)
      clear hb x0 x1 x2 x3 y0 y1 y2 y3 z0 z1 z2 z3
      obtain ⟨x0, x1, x2, x3⟩ := HXE1.out.c4
      obtain ⟨y0, y1, y2, y3⟩ := HYE1.out.c4
      obtain ⟨z0, z1, z2, z3⟩ := HUE1.out.c4
      go_wp2_with fail
      go_ret
      exact ⟨rfl, HE1.out⟩
    have i1t : inst p t = true := by simpa using i1
    by_cases i2 : inst t u = false
    case pos =>
      have HI1 := Lib.hid i1t
      have HI2 := Lib.hid i2
      clear i1 i1t i2
      go_wp2_with fail
      refine (instance_any (p := p) (t := t) _ (MemW.keep HP.out HE0.out) (MemW.keep HT.out HE0.out) HPS.out HPO.out).mono ?_
      rintro e v1 ⟨rfl, hb⟩
      rw [HI1.out]
      have HE1 := Lib.hid (below_step HE0.out hb)
      have HXE1 := Lib.hid (HXE0.out.keep hb)
      have HYE1 := Lib.hid (HYE0.out.keep hb)
      have HUE1 := Lib.hid (HUE0.out.keep hb)
      clear hb x0 x1 x2 x3 y0 y1 y2 y3 z0 z1 z2 z3
      obtain ⟨x0, x1, x2, x3⟩ := HXE1.out.c4
      obtain ⟨y0, y1, y2, y3⟩ := HYE1.out.c4
      obtain ⟨z0, z1, z2, z3⟩ := HUE1.out.c4
      go_wp2_with fail
      refine (instance_any (p := t) (t := u) _ (MemW.keep HT.out HE1.out) (MemW.keep HUU.out HE1.out) HTS.out HTO.out).mono ?_
      rintro e v2 ⟨rfl, hb⟩
      rw [HI2.out]
      have HE2 := Lib.hid (below_step HE1.out hb)
      have HXE2 := Lib.hid (HXE1.out.keep hb)
      have HYE2 := Lib.hid (HYE1.out.keep hb)
      have HUE2 := Lib.hid (HUE1.out.keep hb)
      clear hb x0 x1 x2 x3 y0 y1 y2 y3 z0 z1 z2 z3
      obtain ⟨x0, x1, x2, x3⟩ := HXE2.out.c4
      obtain ⟨y0, y1, y2, y3⟩ := HYE2.out.c4
      obtain ⟨z0, z1, z2, z3⟩ := HUE2.out.c4
      go_wp2_with fail
      go_ret
      exact ⟨rfl, HE2.out⟩
    have i2t : inst t u = true := by simpa using i2
    have HI3 := Lib.hid (inst_trans HPLp.out HPLt.out HPLu.out i1t i2t)
    have HI1 := Lib.hid i1t
    have HI2 := Lib.hid i2t
    clear i1 i1t i2 i2t
    go_wp2_with fail
    refine (instance_any (p := p) (t := t) _ (MemW.keep HP.out HE0.out) (MemW.keep HT.out HE0.out) HPS.out HPO.out).mono ?_
    rintro e v1 ⟨rfl, hb⟩
    rw [HI1.out]
    have HE1 := Lib.hid (below_step HE0.out hb)
    have HXE1 := Lib.hid (HXE0.out.keep hb)
    have HYE1 := Lib.hid (HYE0.out.keep hb)
    have HUE1 := Lib.hid (HUE0.out.keep hb)
    clear hb x0 x1 x2 x3 y0 y1 y2 y3 z0 z1 z2 z3
    obtain ⟨x0, x1, x2, x3⟩ := HXE1.out.c4
    obtain ⟨y0, y1, y2, y3⟩ := HYE1.out.c4
    obtain ⟨z0, z1, z2, z3⟩ := HUE1.out.c4
    go_wp2_with fail
    refine (instance_any (p := t) (t := u) _ (MemW.keep HT.out HE1.out) (MemW.keep HUU.out HE1.out) HTS.out HTO.out).mono ?_
    rintro e v2 ⟨rfl, hb⟩
    rw [HI2.out]
    have HE2 := Lib.hid (below_step HE1.out hb)
    have HXE2 := Lib.hid (HXE1.out.keep hb)
    have HYE2 := Lib.hid (HYE1.out.keep hb)
    have HUE2 := Lib.hid (HUE1.out.keep hb)
    clear hb x0 x1 x2 x3 y0 y1 y2 y3 z0 z1 z2 z3
    obtain ⟨x0, x1, x2, x3⟩ := HXE2.out.c4
    obtain ⟨y0, y1, y2, y3⟩ := HYE2.out.c4
    obtain ⟨z0, z1, z2, z3⟩ := HUE2.out.c4
    go_wp2_with fail
    refine (instance_any (p := p) (t := u) _ (MemW.keep HP.out HE2.out) (MemW.keep HUU.out HE2.out) HPS.out HPO.out).mono ?_
    rintro e v3 ⟨rfl, hb⟩
    rw [HI3.out]
    have HE3 := Lib.hid (below_step HE2.out hb)
    have HXE3 := Lib.hid (HXE2.out.keep hb)
    have HYE3 := Lib.hid (HYE2.out.keep hb)
    have HUE3 := Lib.hid (HUE2.out.keep hb)
    clear hb x0 x1 x2 x3 y0 y1 y2 y3 z0 z1 z2 z3
    obtain ⟨x0, x1, x2, x3⟩ := HXE3.out.c4
    obtain ⟨y0, y1, y2, y3⟩ := HYE3.out.c4
    obtain ⟨z0, z1, z2, z3⟩ := HUE3.out.c4
    go_wp2_with fail
    go_ret
    exact ⟨rfl, HE3.out⟩
  have hbc1 : vari t u = true := by simpa using hbc
  have HAC := Lib.hid (vari_trans HPLp.out HPLt.out HPLu.out hab1 hbc1)
  have HAB := Lib.hid hab1
  have HBC := Lib.hid hbc1
  rw [HAB.out] at HBA
  clear hab hab1 hbc hbc1
  go_wp2_with fail
  have tok1 : True := trivial
  have tok2 : True := trivial
  have tok3 : True := trivial
  have tok4 : True := trivial
  have tok5 : True := trivial
  have tok6 : True := trivial
  go_region_held3 (fun w' => w'.cell? ⟨w.heap.size, 0, none⟩ = some (.int .i64 p.kind) ∧ w'.cell? ⟨w.heap.size, 1, none⟩ = some (.string p.name) ∧ w'.cell? ⟨w.heap.size, 2, none⟩ = some (.int .i64 p.n) ∧ w'.cell? ⟨w.heap.size, 3, none⟩ = some (.slice pa pn pc) ∧ w'.cell? ⟨w.heap.size + 1, 0, none⟩ = some (.int .i64 t.kind) ∧ w'.cell? ⟨w.heap.size + 1, 1, none⟩ = some (.string t.name) ∧ w'.cell? ⟨w.heap.size + 1, 2, none⟩ = some (.int .i64 t.n) ∧ w'.cell? ⟨w.heap.size + 1, 3, none⟩ = some (.slice ta tn tc) ∧ w'.cell? ⟨w.heap.size + 2, 0, none⟩ = some (.int .i64 u.kind) ∧ w'.cell? ⟨w.heap.size + 2, 1, none⟩ = some (.string u.name) ∧ w'.cell? ⟨w.heap.size + 2, 2, none⟩ = some (.int .i64 u.n) ∧ w'.cell? ⟨w.heap.size + 2, 3, none⟩ = some (.slice ua un uc))
    ((repeat' apply And.intro) <;> (repeat (first | with_reducible assumption | with_reducible refine cell_drew ?_ | with_reducible refine cell_below ?_ HC1.out | with_reducible refine cell_below ?_ HC2.out | with_reducible refine cell_below ?_ HC3.out | with_reducible refine cell_below ?_ HC4.out | with_reducible refine cell_below ?_ HC5.out | with_reducible refine cell_below ?_ HC6.out)))
    (first
      | (go_at_call 10
         have _t := tok1
         clear _t tok1
         refine (variant_any (p := p) (t := p) _ (MemW.keep HP.out HCUR.out) (MemW.keep HP.out HCUR.out) HPS.out HPS.out HPO.out HPO.out).mono ?_
         rintro e wx ⟨rfl, hb⟩
         rw [HAA.out]
         have HC1 := Lib.hid hb
         have HCUR := Lib.hid (below_step HCUR.out hb)
         clear hb)
      | (go_at_call 10
         have _t := tok2
         clear _t tok2
         refine (variant_any (p := p) (t := t) _ (MemW.keep HP.out HCUR.out) (MemW.keep HT.out HCUR.out) HPS.out HTS.out HPO.out HTO.out).mono ?_
         rintro e wx ⟨rfl, hb⟩
         rw [HAB.out]
         have HC2 := Lib.hid hb
         have HCUR := Lib.hid (below_step HCUR.out hb)
         clear hb)
      | (go_at_call 10
         have _t := tok3
         clear _t tok3
         refine (variant_any (p := t) (t := p) _ (MemW.keep HT.out HCUR.out) (MemW.keep HP.out HCUR.out) HTS.out HPS.out HTO.out HPO.out).mono ?_
         rintro e wx ⟨rfl, hb⟩
         rw [HBA.out]
         have HC3 := Lib.hid hb
         have HCUR := Lib.hid (below_step HCUR.out hb)
         clear hb)
      | (go_at_call 10
         have _t := tok4
         clear _t tok4
         refine (variant_any (p := p) (t := t) _ (MemW.keep HP.out HCUR.out) (MemW.keep HT.out HCUR.out) HPS.out HTS.out HPO.out HTO.out).mono ?_
         rintro e wx ⟨rfl, hb⟩
         rw [HAB.out]
         have HC4 := Lib.hid hb
         have HCUR := Lib.hid (below_step HCUR.out hb)
         clear hb)
      | (go_at_call 10
         have _t := tok5
         clear _t tok5
         refine (variant_any (p := t) (t := u) _ (MemW.keep HT.out HCUR.out) (MemW.keep HUU.out HCUR.out) HTS.out HUS.out HTO.out HUO.out).mono ?_
         rintro e wx ⟨rfl, hb⟩
         rw [HBC.out]
         have HC5 := Lib.hid hb
         have HCUR := Lib.hid (below_step HCUR.out hb)
         clear hb)
      | (go_at_call 10
         have _t := tok6
         clear _t tok6
         refine (variant_any (p := p) (t := u) _ (MemW.keep HP.out HCUR.out) (MemW.keep HUU.out HCUR.out) HPS.out HUS.out HPO.out HUO.out).mono ?_
         rintro e wx ⟨rfl, hb⟩
         rw [HAC.out]
         have HC6 := Lib.hid hb
         have HCUR := Lib.hid (below_step HCUR.out hb)
         clear hb))
  have HE0 := HCUR
  have HXE0 := Lib.hid (((((((HX5.out.drew).keep HC1.out).keep HC2.out).keep HC3.out).keep HC4.out).keep HC5.out).keep HC6.out)
  have HYE0 := Lib.hid (((((((HY5.out.drew).keep HC1.out).keep HC2.out).keep HC3.out).keep HC4.out).keep HC5.out).keep HC6.out)
  have HUE0 := Lib.hid (((((((HU5.out.drew).keep HC1.out).keep HC2.out).keep HC3.out).keep HC4.out).keep HC5.out).keep HC6.out)
  clear x0 x1 x2 x3 y0 y1 y2 y3 z0 z1 z2 z3
  obtain ⟨x0, x1, x2, x3⟩ := HXE0.out.c4
  obtain ⟨y0, y1, y2, y3⟩ := HYE0.out.c4
  obtain ⟨z0, z1, z2, z3⟩ := HUE0.out.c4
  by_cases i1 : inst p t = false
  case pos =>
    have HI1 := Lib.hid i1
    clear i1
    go_wp2_with fail
    refine (instance_any (p := p) (t := t) _ (MemW.keep HP.out HE0.out) (MemW.keep HT.out HE0.out) HPS.out HPO.out).mono ?_
    rintro e v1 ⟨rfl, hb⟩
    rw [HI1.out]
    have HE1 := Lib.hid (below_step HE0.out hb)
    have HXE1 := Lib.hid (HXE0.out.keep hb)
    have HYE1 := Lib.hid (HYE0.out.keep hb)
    have HUE1 := Lib.hid (HUE0.out.keep hb)
    clear hb x0 x1 x2 x3 y0 y1 y2 y3 z0 z1 z2 z3
    obtain ⟨x0, x1, x2, x3⟩ := HXE1.out.c4
    obtain ⟨y0, y1, y2, y3⟩ := HYE1.out.c4
    obtain ⟨z0, z1, z2, z3⟩ := HUE1.out.c4
    go_wp2_with fail
    go_ret
    exact ⟨rfl, HE1.out⟩
  have i1t : inst p t = true := by simpa using i1
  by_cases i2 : inst t u = false
  case pos =>
    have HI1 := Lib.hid i1t
    have HI2 := Lib.hid i2
    clear i1 i1t i2
    go_wp2_with fail
    refine (instance_any (p := p) (t := t) _ (MemW.keep HP.out HE0.out) (MemW.keep HT.out HE0.out) HPS.out HPO.out).mono ?_
    rintro e v1 ⟨rfl, hb⟩
    rw [HI1.out]
    have HE1 := Lib.hid (below_step HE0.out hb)
    have HXE1 := Lib.hid (HXE0.out.keep hb)
    have HYE1 := Lib.hid (HYE0.out.keep hb)
    have HUE1 := Lib.hid (HUE0.out.keep hb)
    clear hb x0 x1 x2 x3 y0 y1 y2 y3 z0 z1 z2 z3
    obtain ⟨x0, x1, x2, x3⟩ := HXE1.out.c4
    obtain ⟨y0, y1, y2, y3⟩ := HYE1.out.c4
    obtain ⟨z0, z1, z2, z3⟩ := HUE1.out.c4
    go_wp2_with fail
    refine (instance_any (p := t) (t := u) _ (MemW.keep HT.out HE1.out) (MemW.keep HUU.out HE1.out) HTS.out HTO.out).mono ?_
    rintro e v2 ⟨rfl, hb⟩
    rw [HI2.out]
    have HE2 := Lib.hid (below_step HE1.out hb)
    have HXE2 := Lib.hid (HXE1.out.keep hb)
    have HYE2 := Lib.hid (HYE1.out.keep hb)
    have HUE2 := Lib.hid (HUE1.out.keep hb)
    clear hb x0 x1 x2 x3 y0 y1 y2 y3 z0 z1 z2 z3
    obtain ⟨x0, x1, x2, x3⟩ := HXE2.out.c4
    obtain ⟨y0, y1, y2, y3⟩ := HYE2.out.c4
    obtain ⟨z0, z1, z2, z3⟩ := HUE2.out.c4
    go_wp2_with fail
    go_ret
    exact ⟨rfl, HE2.out⟩
  have i2t : inst t u = true := by simpa using i2
  have HI3 := Lib.hid (inst_trans HPLp.out HPLt.out HPLu.out i1t i2t)
  have HI1 := Lib.hid i1t
  have HI2 := Lib.hid i2t
  clear i1 i1t i2 i2t
  go_wp2_with fail
  refine (instance_any (p := p) (t := t) _ (MemW.keep HP.out HE0.out) (MemW.keep HT.out HE0.out) HPS.out HPO.out).mono ?_
  rintro e v1 ⟨rfl, hb⟩
  rw [HI1.out]
  have HE1 := Lib.hid (below_step HE0.out hb)
  have HXE1 := Lib.hid (HXE0.out.keep hb)
  have HYE1 := Lib.hid (HYE0.out.keep hb)
  have HUE1 := Lib.hid (HUE0.out.keep hb)
  clear hb x0 x1 x2 x3 y0 y1 y2 y3 z0 z1 z2 z3
  obtain ⟨x0, x1, x2, x3⟩ := HXE1.out.c4
  obtain ⟨y0, y1, y2, y3⟩ := HYE1.out.c4
  obtain ⟨z0, z1, z2, z3⟩ := HUE1.out.c4
  go_wp2_with fail
  refine (instance_any (p := t) (t := u) _ (MemW.keep HT.out HE1.out) (MemW.keep HUU.out HE1.out) HTS.out HTO.out).mono ?_
  rintro e v2 ⟨rfl, hb⟩
  rw [HI2.out]
  have HE2 := Lib.hid (below_step HE1.out hb)
  have HXE2 := Lib.hid (HXE1.out.keep hb)
  have HYE2 := Lib.hid (HYE1.out.keep hb)
  have HUE2 := Lib.hid (HUE1.out.keep hb)
  clear hb x0 x1 x2 x3 y0 y1 y2 y3 z0 z1 z2 z3
  obtain ⟨x0, x1, x2, x3⟩ := HXE2.out.c4
  obtain ⟨y0, y1, y2, y3⟩ := HYE2.out.c4
  obtain ⟨z0, z1, z2, z3⟩ := HUE2.out.c4
  go_wp2_with fail
  refine (instance_any (p := p) (t := u) _ (MemW.keep HP.out HE2.out) (MemW.keep HUU.out HE2.out) HPS.out HPO.out).mono ?_
  rintro e v3 ⟨rfl, hb⟩
  rw [HI3.out]
  have HE3 := Lib.hid (below_step HE2.out hb)
  have HXE3 := Lib.hid (HXE2.out.keep hb)
  have HYE3 := Lib.hid (HYE2.out.keep hb)
  have HUE3 := Lib.hid (HUE2.out.keep hb)
  clear hb x0 x1 x2 x3 y0 y1 y2 y3 z0 z1 z2 z3
  obtain ⟨x0, x1, x2, x3⟩ := HXE3.out.c4
  obtain ⟨y0, y1, y2, y3⟩ := HYE3.out.c4
  obtain ⟨z0, z1, z2, z3⟩ := HUE3.out.c4
  go_wp2_with fail
  go_ret
  exact ⟨rfl, HE3.out⟩
theorem three_le {p t u : Tm} {k : Nat} (h : p.wt + t.wt + u.wt ≤ k) : (Tm.alls [p, t, u]).length ≤ k := by
  have hal : (Tm.alls [p, t, u]).length = p.size + (t.size + u.size) := by
    rw [Tm.alls, Tm.alls, Tm.alls, Tm.alls, List.append_nil, List.length_append, List.length_append]; rfl
  have := p.size_wt
  have := t.size_wt
  have := u.size_wt
  omega
end Go.Proofs.Ytmadfkofmehfkaa
