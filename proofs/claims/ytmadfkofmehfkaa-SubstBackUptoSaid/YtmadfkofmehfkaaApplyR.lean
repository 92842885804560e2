/-
  subst.Apply at any list: a term with something else for its variables. No condition but how they lie, and how great they are.
-/
import Derived.Test.YtmadfkofmehfkaaApplyF
import Derived.Test.YtmadfkofmehfkaaRowB
import Derived.Test.YtmadfkofmehfkaaCanT
namespace Go.Proofs.Ytmadfkofmehfkaa
open Go.RowKit
attribute [local go_sem ↓] store_tmF
attribute [local go_sem] stOk_tmF
attribute [local go_sem] stB_eq stC_eq wr_drew wr_alloc wr_row

theorem RB.put0 {w : World} {B base q : Nat} {d : Array El} (h : RB B base q d w) {i : Nat} (hi : i < d.size) (e : El) (he : Mem (fun b => Nw B base w.heap.size b ∧ b ≠ q) w (.s 4 (Tm.rows e.t.args)) (.slice e.a e.n e.cap)) : RB B base q (d.setIfInBounds i e) (w.setCells q (i * 4) e.cells.toList) := by
  have := h.put hi e he
  rwa [Nat.zero_add] at this
theorem RB.wr0 {w : World} {B base q : Nat} {d : Array El} (h : RB B base q d w) {i : Nat} (hi : i < d.size) : WrO w q (i * 4) := by
  have := h.row.wr hi
  rwa [Nat.zero_add] at this
/-- So many elements are laid. -/
def LaidA (V : List (Int × Tm)) (ts : List Tm) (d : Array El) (k : Nat) : Prop := ∀ j x, j < k → ts[j]? = some x → d[j]!.t = apT V x
theorem LaidA.put {V : List (Int × Tm)} {ts : List Tm} {d : Array El} {k : Nat} (h : LaidA V ts d k) (hk : k < d.size) {x : Tm} (hx : ts[k]? = some x) (e : El) (he : e.t = apT V x) : LaidA V ts (d.setIfInBounds k e) (k + 1) := by
  intro j y hj hy
  by_cases hjk : j = k
  · subst hjk
    have e1 : (d.setIfInBounds j e)[j]! = e := by simp [hk]
    rw [e1, he]
    congr 1
    exact Option.some.inj (hx.symm.trans hy)
  · have e1 : (d.setIfInBounds k e)[j]! = d[j]! := by
      have hj' : j < d.size := by omega
      simp [hj', Ne.symm hjk]
    rw [e1]
    exact h j y (by omega) hy
theorem LaidA.all {V : List (Int × Tm)} {ts : List Tm} {d : Array El} (h : LaidA V ts d ts.length) (hd : d.size = ts.length) : d.toList.map (·.t) = apTs V ts := by
  rw [apTs_eq]
  refine List.ext_getElem (by simp [hd]) fun i h1 h2 => ?_
  have hi : i < ts.length := by simpa using h2
  have hi' : i < d.size := by omega
  have := h i ts[i] hi (List.getElem?_eq_getElem hi)
  simp only [List.getElem_map, Array.getElem_toList]
  rw [← this]
  simp [hi']
/-- What Apply's function tells of a variable. -/
def Found (V : List (Int × Tm)) (n : Int) (B : Nat) (e : Ending) (w' : World) : Prop :=
  match look V n with
  | some x => ∃ a m c, e = .returned (.tuple #[.agg #[.int .i64 x.kind, .string x.name, .int .i64 x.n, .slice a m c], .bool true]) ∧ Mem (· < B) w' (.s 4 (Tm.rows x.args)) (.slice a m c)
  | none => e = .returned (.tuple #[.agg #[.int .i64 0, .string ⟨#[]⟩, .int .i64 0, .slice none 0 0], .bool false])
set_option maxRecDepth 100000 in
set_option maxHeartbeats 20000000 in
theorem apply1_any {V : List (Int × Tm)} {n : Int} {q bn bc B : Nat} {ba : Option Addr} {w : World} (hq : w.cell? ⟨q, 0, none⟩ = some (.slice ba bn bc)) (hb : Mem (· < B) w (.s 5 (bindsT V)) (.slice ba bn bc)) (hB : B ≤ w.heap.size) :
    Calls Try.prog 38 #[.int .i64 n, .pointer (some ⟨q, 0, none⟩)] w fun e w' => Found V n B e w' ∧ Below w.heap.size w w' := by
  have HW1 := Lib.hid ((below_new w (.cells #[.int .i64 n] 3)).alloc (below_new w (.cells #[.int .i64 n] 3)).size (.cells #[.int .i64 0, .string ⟨#[]⟩, .int .i64 0, .slice none 0 0] 24))
  have HY := Lib.hid (World.size_alloc w (.cells #[.int .i64 n] 3) ▸ Bo.new (w.alloc (.cells #[.int .i64 n] 3)) 24 #[.int .i64 0, .string ⟨#[]⟩, .int .i64 0, .slice none 0 0])
  have HZ : Hid (((w.alloc (.cells #[.int .i64 n] 3)).alloc (.cells #[.int .i64 0, .string ⟨#[]⟩, .int .i64 0, .slice none 0 0] 24)).heap.size = w.heap.size + 2) := Lib.hid (by simp)
  have HNC : Hid (((w.alloc (.cells #[.int .i64 n] 3)).alloc (.cells #[.int .i64 0, .string ⟨#[]⟩, .int .i64 0, .slice none 0 0] 24)).cell? ⟨w.heap.size, 0, none⟩ = some (.int .i64 n)) := Lib.hid (((Bo.new w 3 #[.int .i64 n]).alloc (.cells #[.int .i64 0, .string ⟨#[]⟩, .int .i64 0, .slice none 0 0] 24)).cell (j := 0) rfl)
  have c1 := cell_below hq HW1.out
  have hql := World.block_lt_of_cell? w _ hq
  have HBD := Lib.hid (Mem.keep hb (Nat.le_refl _) (HW1.out.mono hB))
  have H0 := Lib.hid hB
  have HIX := Lib.hid (indexF_any HNC.out (Mem.mono HBD.out (fun b hb => Nat.lt_of_lt_of_le hb (Nat.le_trans hB HW1.out.size)) fun _ _ => rfl))
  have hbl := hb.len
  rw [bindsT_len] at hbl
  have hbc := hbl.2.1
  have hbm := hbl.2.2
  have HBL := Lib.hid hbl.1
  clear hq hb hB hbl
  cases hl : look V n with
  | some x =>
    obtain ⟨i0, hi1, hi2⟩ := look_idx hl
    have HFI := Lib.hid (firstI_at hi1 rfl hi2)
    rw [HFI.out] at HIX
    have hlt : i0 < bn := by
      have := (List.getElem?_eq_some_iff.1 hi1).1
      have := HBL.out; omega
    have hltz : (i0 : Int) < (bn : Int) := by omega
    have HI1 := Lib.hid hi1
    have HL := Lib.hid hl
    clear hi1 hi2 hl
    go_enter Try.func38, Try.ntmps38
    go_wp2_with fail
    refine HIX.out.mono ?_
    rintro e w4 ⟨rfl, hb4⟩
    have HB4 := Lib.hid (HW1.out.trans (hb4.mono HW1.out.size))
    have HY4 := Lib.hid (HY.out.keep hb4)
    have HD4 := Lib.hid (Mem.keep HBD.out (Nat.le_refl _) (hb4.mono (Nat.le_trans H0.out HW1.out.size)))
    have c4 := cell_below c1 hb4
    obtain ⟨b, o, y, ax, nx, capx, rfl, hbB, Hy, y0, y1, y2, y3, y4, GX⟩ := bindT_at HD4.out i0 hlt
    have hy : y = (n, x) := Option.some.inj (Hy.out.symm.trans HI1.out)
    subst hy
    simp only at y0 y1 y2 y3 GX
    have hz4 := HY4.out.lt
    have hwr : Wr w4 (w.heap.size + 1) 24 4 := HY4.out.wr
    have hni : ¬ (i0 : Int) < 0 := by omega
    clear hb4 c1
    go_wp2_with fail
    have HR := Lib.hid (HY4.out.row #[.int .i64 x.kind, .string x.name, .int .i64 x.n, .slice ax nx capx]).c4
    refine bodyPost_ret (v := .tuple #[.agg #[.int .i64 x.kind, .string x.name, .int .i64 x.n, .slice ax nx capx], .bool true]) (by simp [results, Try.results38, go_sem, HR.out]) rfl ⟨?_, below_setRow HB4.out (by omega) _⟩
    unfold Found
    rw [HL.out]
    exact ⟨ax, nx, capx, rfl, GX.out.mono (fun _ hb => hb) fun b' hb' => setRow_other _ _ b' _ (by have := H0.out; omega)⟩
  | none =>
    have HFI := Lib.hid (firstI_no (look_no hl))
    rw [HFI.out] at HIX
    have HL := Lib.hid hl
    clear hl
    go_enter Try.func38, Try.ntmps38
    go_wp2_with fail
    refine HIX.out.mono ?_
    rintro e w4 ⟨rfl, hb4⟩
    have HB4 := Lib.hid (HW1.out.trans (hb4.mono HW1.out.size))
    have HY4 := Lib.hid (HY.out.keep hb4)
    have hz4 := HY4.out.lt
    have hwr : Wr w4 (w.heap.size + 1) 24 4 := HY4.out.wr
    clear hb4 c1
    go_wp2_with fail
    have HR := Lib.hid (HY4.out.row #[.int .i64 0, .string ⟨#[]⟩, .int .i64 0, .slice none 0 0]).c4
    refine bodyPost_ret (v := .tuple #[.agg #[.int .i64 0, .string ⟨#[]⟩, .int .i64 0, .slice none 0 0], .bool false]) (by simp [results, Try.results38, go_sem, HR.out]) rfl ⟨?_, below_setRow HB4.out (by omega) _⟩
    unfold Found
    rw [HL.out]
end Go.Proofs.Ytmadfkofmehfkaa
