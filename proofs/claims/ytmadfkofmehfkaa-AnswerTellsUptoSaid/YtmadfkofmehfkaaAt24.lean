/-
  How an answer lies, and how great it is. Plain. No condition.
-/
import Derived.Test.YtmadfkofmehfkaaAt23
import Derived.Test.YtmadfkofmehfkaaAt13
namespace Go.Proofs.Ytmadfkofmehfkaa
open Go.RowKit

/-- How an answer lies. -/
def AnsW (w : World) (x : Ans) (ab : Option Addr) (nb cb : Nat) (ax : Option Addr) (nx cx : Nat) : Prop := MemW w (.s 4 (Tm.rows x.binds)) (.slice ab nb cb) ∧ MemW w (.s 4 (Tm.rows x.value.args)) (.slice ax nx cx)
theorem AnsW.keep {w w' : World} {x : Ans} {ab ax : Option Addr} {nb cb nx cx : Nat} (h : AnsW w x ab nb cb ax nx cx) (hb : Below w.heap.size w w') : AnsW w' x ab nb cb ax nx cx := ⟨MemW.keep h.1 hb, MemW.keep h.2 hb⟩
/-- Not too great, and of numbers that there are. -/
def Ans.fit (x : Ans) : Prop := (tupT x).ok ∧ (tupT x).size ≤ 100000
theorem Ans.fit.binds {x : Ans} (h : x.fit) {w : World} {ab ax : Option Addr} {nb cb nx cx : Nat} (hw : AnsW w x ab nb cb ax nx cx) : nb ≤ 100000 := by
  have h1 := hw.1.len.1
  rw [Tm.rows_len] at h1
  have h2 := h.2
  rw [Tm.size_eq] at h2
  have h5 : (tupT x).args = x.all := rfl
  rw [h5] at h2
  have h3 := Tm.len_args x.all
  have h4 : x.all.length = x.binds.length + 1 := by rw [Ans.all, List.length_append]; rfl
  omega
theorem Ans.fit.big {x : Ans} (h : x.fit) : (tupT x).size ≤ 1048576 := Nat.le_trans h.2 (by decide)
end Go.Proofs.Ytmadfkofmehfkaa

/-
  The reference's Tuple: an answer as a term. No condition but how it lies, and how great it is.
-/
namespace Go.Proofs.Ytmadfkofmehfkaa
open Go.RowKit
attribute [local go_sem ↓] store_tmU
attribute [local go_sem] stOk_tmU
attribute [local go_sem] stB_eq stC_eq wr_drew wr_alloc wr_row

theorem wr_cellF {w : World} {q n g j : Nat} {t : TypeId} {v : Value} (h : q ≠ g) : Wr (w.setCell ⟨g, j, none⟩ v) q t n = Wr w q t n := by
  refine propext ⟨?_, ?_⟩
  · rintro ⟨cs, h1, h2⟩
    exact ⟨cs, h1, (heap_setCell_other w ⟨g, j, none⟩ q v h).symm.trans h2⟩
  · rintro ⟨cs, h1, h2⟩
    exact ⟨cs, h1, (heap_setCell_other w ⟨g, j, none⟩ q v h).trans h2⟩
attribute [local go_sem] wr_cellF
set_option maxRecDepth 100000 in
set_option maxHeartbeats 20000000 in
theorem tuple3_any {x : Ans} {pb px : Option Addr} {npb cpb npx cpx : Nat} (w : World) (hx : AnsW w x pb npb cpb px npx cpx) (hn : npb ≤ 100000) :
    Calls Try.prog 23 #[.agg #[.slice pb npb cpb, .int .i64 x.value.kind, .string x.value.name, .int .i64 x.value.n, .slice px npx cpx]] w fun e w' => ∃ a n c, e = .returned (.agg #[.int .i64 1, .string ⟨#[]⟩, .int .i64 0, .slice a n c]) ∧ Below w.heap.size w w' ∧ MemW w' (.s 4 (Tm.rows x.all)) (.slice a n c) := by
  have HB1 := Lib.hid (((below_new w (.cells #[.slice pb npb cpb, .int .i64 x.value.kind, .string x.value.name, .int .i64 x.value.n, .slice px npx cpx] 48)).alloc (below_new w (.cells #[.slice pb npb cpb, .int .i64 x.value.kind, .string x.value.name, .int .i64 x.value.n, .slice px npx cpx] 48)).size (.cells #[.int .i64 0, .string ⟨#[]⟩, .int .i64 0, .slice none 0 0] 24)).alloc (by simp; omega) (.cells #[.int .i64 1, .string ⟨#[]⟩, .int .i64 0, .slice none 0 0] 24))
  have HX := Lib.hid (((Bo.new w 48 #[.slice pb npb cpb, .int .i64 x.value.kind, .string x.value.name, .int .i64 x.value.n, .slice px npx cpx]).alloc (.cells #[.int .i64 0, .string ⟨#[]⟩, .int .i64 0, .slice none 0 0] 24)).alloc (.cells #[.int .i64 1, .string ⟨#[]⟩, .int .i64 0, .slice none 0 0] 24))
  have HY := Lib.hid ((World.size_alloc w (.cells #[.slice pb npb cpb, .int .i64 x.value.kind, .string x.value.name, .int .i64 x.value.n, .slice px npx cpx] 48) ▸ Bo.new (w.alloc (.cells #[.slice pb npb cpb, .int .i64 x.value.kind, .string x.value.name, .int .i64 x.value.n, .slice px npx cpx] 48)) 24 #[.int .i64 0, .string ⟨#[]⟩, .int .i64 0, .slice none 0 0]).alloc (.cells #[.int .i64 1, .string ⟨#[]⟩, .int .i64 0, .slice none 0 0] 24))
  have HT : Hid (Bo (((w.alloc (.cells #[.slice pb npb cpb, .int .i64 x.value.kind, .string x.value.name, .int .i64 x.value.n, .slice px npx cpx] 48)).alloc (.cells #[.int .i64 0, .string ⟨#[]⟩, .int .i64 0, .slice none 0 0] 24)).alloc (.cells #[.int .i64 1, .string ⟨#[]⟩, .int .i64 0, .slice none 0 0] 24)) (w.heap.size + 2) 24 #[.int .i64 1, .string ⟨#[]⟩, .int .i64 0, .slice none 0 0]) := Lib.hid (by have := Bo.new ((w.alloc (.cells #[.slice pb npb cpb, .int .i64 x.value.kind, .string x.value.name, .int .i64 x.value.n, .slice px npx cpx] 48)).alloc (.cells #[.int .i64 0, .string ⟨#[]⟩, .int .i64 0, .slice none 0 0] 24)) 24 #[.int .i64 1, .string ⟨#[]⟩, .int .i64 0, .slice none 0 0]; rw [World.size_alloc, World.size_alloc] at this; exact this)
  have HZ : Hid ((((w.alloc (.cells #[.slice pb npb cpb, .int .i64 x.value.kind, .string x.value.name, .int .i64 x.value.n, .slice px npx cpx] 48)).alloc (.cells #[.int .i64 0, .string ⟨#[]⟩, .int .i64 0, .slice none 0 0] 24)).alloc (.cells #[.int .i64 1, .string ⟨#[]⟩, .int .i64 0, .slice none 0 0] 24)).heap.size = w.heap.size + 3) := Lib.hid (by simp)
  have HXW := Lib.hid hx
  have HMB : Hid (Mem (fun b => Nw w.heap.size (w.heap.size + 3) (((w.alloc (.cells #[.slice pb npb cpb, .int .i64 x.value.kind, .string x.value.name, .int .i64 x.value.n, .slice px npx cpx] 48)).alloc (.cells #[.int .i64 0, .string ⟨#[]⟩, .int .i64 0, .slice none 0 0] 24)).alloc (.cells #[.int .i64 1, .string ⟨#[]⟩, .int .i64 0, .slice none 0 0] 24)).heap.size b ∧ (Value.slice none 0 0).ownBlock ≠ some b) (((w.alloc (.cells #[.slice pb npb cpb, .int .i64 x.value.kind, .string x.value.name, .int .i64 x.value.n, .slice px npx cpx] 48)).alloc (.cells #[.int .i64 0, .string ⟨#[]⟩, .int .i64 0, .slice none 0 0] 24)).alloc (.cells #[.int .i64 1, .string ⟨#[]⟩, .int .i64 0, .slice none 0 0] 24)) (.s 4 (Tm.rows x.binds)) (.slice pb npb cpb)) := Lib.hid (hx.1.mono (fun b hb => ⟨⟨.inl hb, by have := HZ.out; omega⟩, fun e => by cases e⟩) fun b hb => HB1.out.block b hb)
  have hbl := hx.1.len.1
  rw [Tm.rows_len] at hbl
  have HBL : Hid ((Tm.rows x.binds).length ≤ 1048576) := Lib.hid (by rw [Tm.rows_len]; omega)
  have tok1 : True := trivial
  have x0 : (((w.alloc (.cells #[.slice pb npb cpb, .int .i64 x.value.kind, .string x.value.name, .int .i64 x.value.n, .slice px npx cpx] 48)).alloc (.cells #[.int .i64 0, .string ⟨#[]⟩, .int .i64 0, .slice none 0 0] 24)).alloc (.cells #[.int .i64 1, .string ⟨#[]⟩, .int .i64 0, .slice none 0 0] 24)).cell? ⟨w.heap.size, 0, none⟩ = some (.slice pb npb cpb) := HX.out.cell (j := 0) rfl
  have x1 : (((w.alloc (.cells #[.slice pb npb cpb, .int .i64 x.value.kind, .string x.value.name, .int .i64 x.value.n, .slice px npx cpx] 48)).alloc (.cells #[.int .i64 0, .string ⟨#[]⟩, .int .i64 0, .slice none 0 0] 24)).alloc (.cells #[.int .i64 1, .string ⟨#[]⟩, .int .i64 0, .slice none 0 0] 24)).cell? ⟨w.heap.size, 1, none⟩ = some (.int .i64 x.value.kind) := HX.out.cell (j := 1) rfl
  have x2 : (((w.alloc (.cells #[.slice pb npb cpb, .int .i64 x.value.kind, .string x.value.name, .int .i64 x.value.n, .slice px npx cpx] 48)).alloc (.cells #[.int .i64 0, .string ⟨#[]⟩, .int .i64 0, .slice none 0 0] 24)).alloc (.cells #[.int .i64 1, .string ⟨#[]⟩, .int .i64 0, .slice none 0 0] 24)).cell? ⟨w.heap.size, 2, none⟩ = some (.string x.value.name) := HX.out.cell (j := 2) rfl
  have x3 : (((w.alloc (.cells #[.slice pb npb cpb, .int .i64 x.value.kind, .string x.value.name, .int .i64 x.value.n, .slice px npx cpx] 48)).alloc (.cells #[.int .i64 0, .string ⟨#[]⟩, .int .i64 0, .slice none 0 0] 24)).alloc (.cells #[.int .i64 1, .string ⟨#[]⟩, .int .i64 0, .slice none 0 0] 24)).cell? ⟨w.heap.size, 3, none⟩ = some (.int .i64 x.value.n) := HX.out.cell (j := 3) rfl
  have x4 : (((w.alloc (.cells #[.slice pb npb cpb, .int .i64 x.value.kind, .string x.value.name, .int .i64 x.value.n, .slice px npx cpx] 48)).alloc (.cells #[.int .i64 0, .string ⟨#[]⟩, .int .i64 0, .slice none 0 0] 24)).alloc (.cells #[.int .i64 1, .string ⟨#[]⟩, .int .i64 0, .slice none 0 0] 24)).cell? ⟨w.heap.size, 4, none⟩ = some (.slice px npx cpx) := HX.out.cell (j := 4) rfl
  clear hx hbl hn
  go_enter Try.func23, Try.ntmps23
  go_wp2_with (first
    | (at_builtin
       have _t := tok1
       clear _t tok1
       refine wpList_append_D2 rfl _ _ rfl Try.underlying22 info_term5 rfl (by decide) rfl rfl (OwnD.nil w.heap.size (w.heap.size + 3) 24 4 _) HMB.out (by have := HBL.out; simp only [List.length_nil]; omega) (by have := HBL.out; simp only [List.length_nil]; omega) (by have := HZ.out; omega) ?_
       intro v3 w3 ho hg _
       have HG3 := Lib.hid (grown_below (Below.refl _ _) hg (Nat.le_refl _) (fun k hk => by cases hk))
       have HO3 := Lib.hid ho
       rw [List.nil_append] at HO3
       obtain ⟨a3, c3, rfl, _, _⟩ := HO3.out.form
       have HB3 := Lib.hid (HB1.out.trans (HG3.out.mono HB1.out.size))
       have HT3 := Lib.hid (HT.out.keep HG3.out)
       have HX3 := Lib.hid (HX.out.keep HG3.out)
       have HY3 := Lib.hid (HY.out.keep HG3.out)
       have hfr := HT3.out.frozen 3
       obtain ⟨t0, t1, t2, t3⟩ := HT3.out.c4
       have y0 : w3.cell? ⟨w.heap.size, 0, none⟩ = some (.slice pb npb cpb) := HX3.out.cell (j := 0) rfl
       have y1 : w3.cell? ⟨w.heap.size, 1, none⟩ = some (.int .i64 x.value.kind) := HX3.out.cell (j := 1) rfl
       have y2 : w3.cell? ⟨w.heap.size, 2, none⟩ = some (.string x.value.name) := HX3.out.cell (j := 2) rfl
       have y3 : w3.cell? ⟨w.heap.size, 3, none⟩ = some (.int .i64 x.value.n) := HX3.out.cell (j := 3) rfl
       have y4 : w3.cell? ⟨w.heap.size, 4, none⟩ = some (.slice px npx cpx) := HX3.out.cell (j := 4) rfl
       have hs3 := HT3.out.lt
       clear ho hg x0 x1 x2 x3 x4)
    | (at_builtin
       have HO4 := Lib.hid (HO3.out.cellAt (w.heap.size + 2) 3 (.slice a3 (Tm.rows x.binds).length c3) (by omega) (by omega))
       have hs4 : w3.heap.size = (w3.setCell ⟨w.heap.size + 2, 3, none⟩ (.slice a3 (Tm.rows x.binds).length c3)).heap.size := (World.size_setCell ..).symm
       have HXV : Hid (Mem (· < w.heap.size) (w3.setCell ⟨w.heap.size + 2, 3, none⟩ (.slice a3 (Tm.rows x.binds).length c3)) (.s 4 (Tm.rows x.value.args)) (.slice px npx cpx)) := Lib.hid ((Mem.keep HXW.out.2 (Nat.le_refl _) HB3.out).mono (fun _ hb => hb) fun b hb => heap_setCell_other w3 ⟨w.heap.size + 2, 3, none⟩ b _ (by show b ≠ w.heap.size + 2; omega))
       have HN5 := Lib.hid (own_one (e' := 24) x.value HO4.out (by omega) (HO4.out.old (by omega) (by omega) HXV.out))
       rw [← hs4] at HN5
       have HT4 : Hid (Bo ((w3.setCell ⟨w.heap.size + 2, 3, none⟩ (.slice a3 (Tm.rows x.binds).length c3)).alloc (.cells #[.int .i64 x.value.kind, .string x.value.name, .int .i64 x.value.n, .slice px npx cpx] 24)) (w.heap.size + 2) 24 #[.int .i64 1, .string ⟨#[]⟩, .int .i64 0, .slice a3 (Tm.rows x.binds).length c3]) := Lib.hid ((HT3.out.set 3 (.slice a3 (Tm.rows x.binds).length c3)).alloc (.cells #[.int .i64 x.value.kind, .string x.value.name, .int .i64 x.value.n, .slice px npx cpx] 24))
       have HY4 := Lib.hid ((HY3.out.far (g := w.heap.size + 2) 3 (.slice a3 (Tm.rows x.binds).length c3) (by omega)).alloc (.cells #[.int .i64 x.value.kind, .string x.value.name, .int .i64 x.value.n, .slice px npx cpx] 24))
       have hb4 : w.heap.size + 3 ≤ ((w3.setCell ⟨w.heap.size + 2, 3, none⟩ (.slice a3 (Tm.rows x.binds).length c3)).alloc (.cells #[.int .i64 x.value.kind, .string x.value.name, .int .i64 x.value.n, .slice px npx cpx] 24)).heap.size := by rw [World.size_alloc, ← hs4]; omega
       refine wpList_append_D2 rfl _ _ rfl Try.underlying22 info_term5 rfl (by decide) rfl rfl (HO4.out.alloc (.cells #[.int .i64 x.value.kind, .string x.value.name, .int .i64 x.value.n, .slice px npx cpx] 24)) HN5.out (by have := HBL.out; simp only [Tm.rows, List.length_cons, List.length_nil]; omega) (by have := HBL.out; simp only [Tm.rows, List.length_cons, List.length_nil]; omega) hb4 ?_
       intro v6 w6 ho hg _
       have HO6 := Lib.hid ho
       have hne : ∀ k, (Value.slice a3 (Tm.rows x.binds).length c3).ownBlock = some k → w.heap.size + 3 ≤ k := fun k hk => (HO4.out.lt k hk).1
       have HT6 := Lib.hid (HT4.out.grown hg (fun k hk => by have := hne k hk; omega))
       have HY6 := Lib.hid (HY4.out.grown hg (fun k hk => by have := hne k hk; omega))
       have HB6 := Lib.hid (grown_below ((HB3.out.setCell (p := ⟨w.heap.size + 2, 3, none⟩) (by show w.heap.size ≤ w.heap.size + 2; omega) (.slice a3 (Tm.rows x.binds).length c3)).alloc (by omega) (.cells #[.int .i64 x.value.kind, .string x.value.name, .int .i64 x.value.n, .slice px npx cpx] 24)) hg (Nat.le_refl _) (fun k hk => by have := hne k hk; omega))
       obtain ⟨a6, c6, rfl, _, _⟩ := HO6.out.form
       generalize hrr : (Tm.rows x.binds ++ Tm.rows [x.value]).length = rr at *
       have HRR := Lib.hid hrr
       clear hrr
       clear hfr t0 t1 t2 t3 y0 y1 y2 y3 y4 ho hg
       have hfr := HT6.out.frozen 3
       obtain ⟨t0, t1, t2, t3⟩ := HT6.out.c4
       have hwr : Wr w6 (w.heap.size + 1) 24 4 := HY6.out.wr
       have hz6 := HT6.out.lt))
  clear HO4 HN5 HT4 HY4 HXV HO3 HT3 HX3 HY3 HB3 HG3 hs4 HMB HX HY HT HB1 HXW
  go_wp2
  have HR := Lib.hid ((HY6.out.far (g := w.heap.size + 2) 3 (.slice a6 rr c6) (by omega)).row #[.int .i64 1, .string ⟨#[]⟩, .int .i64 0, .slice a6 rr c6]).c4
  refine bodyPost_ret (v := .agg #[.int .i64 1, .string ⟨#[]⟩, .int .i64 0, .slice a6 rr c6]) (by simp [results, Try.results23, go_sem, HR.out]) rfl ?_
  refine ⟨a6, rr, c6, rfl, below_setRow (HB6.out.setCell (p := ⟨w.heap.size + 2, 3, none⟩) (by show w.heap.size ≤ w.heap.size + 2; omega) _) (by omega) _, ?_⟩
  have hm := ((HO6.out.cellAt (w.heap.size + 2) 3 (.slice a6 rr c6) (by omega) (by omega)).row (w.heap.size + 1) #[.int .i64 1, .string ⟨#[]⟩, .int .i64 0, .slice a6 rr c6] (by omega) (by omega)).memW
  rw [Ans.all, Tm.rows_app]
  exact hm
end Go.Proofs.Ytmadfkofmehfkaa
