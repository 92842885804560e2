/-
  ty.Scheme: a type numbered anew, and how many variables it has. No condition but how it lies, and how great it is.
-/
import Derived.Test.YtemkpecagflafaaReplaced
import Derived.Test.YtemkpecagflafaaVarsTy
import Derived.Deep.RegionHeld3
namespace Go.Proofs.Ytemkpecagflafaa
open Go.RowKit
attribute [local go_sem ↓] store_type
attribute [local go_sem] stOk_type
attribute [local go_sem] stB_eq stC_eq wr_drew wr_alloc wr_row

theorem store_sch {dst : Option Nat} {ty : TypeId} {pos : String} {after : Array Edge} {guard : Option (Nat × Bool)} {x y : Operand} {a : Act} {w : World} {K : Act → World → Prop} {Q : Exit → Act → World → Prop} (h : StOk 75 5 w (a.eval x) (a.eval y)) :
    Oper.wp Try.prog { dst := dst, op := .store 75 x y, type := ty, pos := pos, after := after, guard := guard } a w K Q = K (a.put dst undef) (w.setRow (stB (a.eval x)) (stC (a.eval y))) := wp_store_T rfl (by kernel_rfl) h
theorem stOk_sch {w : World} {g m c : Nat} {k k0 n : Int} {s : ByteArray} {a : Option Addr} : StOk 75 5 w (.pointer (some ⟨g, 0, none⟩)) (.agg #[.int .i64 k0, .int .i64 k, .string s, .int .i64 n, .slice a m c]) = Wr w g 75 5 := stOk_eq rfl (by simp [Value.oneCell'])
attribute [local go_sem ↓] store_sch
attribute [local go_sem] stOk_sch

/-- What Scheme hands back: how many variables, and the type. -/
def GivesSch (B : Nat) (k : Int) (t : Tm) (w : World) (e : Ending) (w' : World) : Prop :=
  ∃ a n cap, e = .returned (.agg #[.int .i64 k, .int .i64 t.kind, .string t.name, .int .i64 t.n, .slice a n cap]) ∧ Below w.heap.size w w' ∧ Mem (Nw B w.heap.size w'.heap.size) w' (.s 4 (Tm.rows t.args)) (.slice a n cap)

set_option maxRecDepth 100000 in
set_option maxHeartbeats 2000000 in
theorem scheme_any {t : Tm} {B n cap : Nat} {a : Option Addr} {w : World} (hs : t.size ≤ 1048576) (h : Mem (· < B) w (.s 4 (Tm.rows t.args)) (.slice a n cap)) (hB : B ≤ w.heap.size) :
    Calls Try.prog 58 #[.agg #[.int .i64 t.kind, .string t.name, .int .i64 t.n, .slice a n cap]] w (GivesSch B (vrs 1 [] t.all).length (numT (idxI (vrs 1 [] t.all)) t) w) := by
  have HW1 := Lib.hid (((below_new w (.cells #[.int .i64 t.kind, .string t.name, .int .i64 t.n, .slice a n cap] 52)).alloc (by simp) (.cells #[.int .i64 0, .int .i64 0, .string ⟨#[]⟩, .int .i64 0, .slice none 0 0] 75)))
  have HX := Lib.hid ((Bo.new w 52 #[.int .i64 t.kind, .string t.name, .int .i64 t.n, .slice a n cap]).alloc (.cells #[.int .i64 0, .int .i64 0, .string ⟨#[]⟩, .int .i64 0, .slice none 0 0] 75))
  have HY := Lib.hid (World.size_alloc w (.cells #[.int .i64 t.kind, .string t.name, .int .i64 t.n, .slice a n cap] 52) ▸ Bo.new (w.alloc (.cells #[.int .i64 t.kind, .string t.name, .int .i64 t.n, .slice a n cap] 52)) 75 #[.int .i64 0, .int .i64 0, .string ⟨#[]⟩, .int .i64 0, .slice none 0 0])
  have HT := Lib.hid h
  have H0 := Lib.hid hB
  have HS := Lib.hid hs
  have HVR := Lib.hid (vars11_any _ (MemW.keep (h.mono (fun b hb => Nat.lt_of_lt_of_le hb hB) fun _ _ => rfl : MemW w _ _) HW1.out) hs)
  have hvl := vrs_len 1 [] t.all
  have hvs : (vrs 1 [] t.all).length ≤ 1048576 := by have : t.all.length = t.size := rfl; simp only [List.length_nil] at hvl; omega
  clear h hB hs hvl
  generalize vrs 1 [] t.all = V at *
  go_enter Try.func58, Try.ntmps58
  go_wp2_with (first
    | (go_at_call 60
       refine HVR.out.mono ?_
       rintro e w2 ⟨av, nv, cv, rfl, hb, hm⟩
       have hnl := hm.len
       rw [intRows_len] at hnl
       have HNL := Lib.hid hnl.1
       have hcv := hnl.2.1
       have hmv := hnl.2.2
       have HB2 := Lib.hid hb
       have HM2 : Hid (MemW w2 (.s 1 (intRows V)) (.slice av nv cv)) := Lib.hid (hm.mono (fun _ hb => hb.2) fun _ _ => rfl)
       have HX2 := Lib.hid (HX.out.keep hb)
       have HY2 := Lib.hid (HY.out.keep hb)
       clear hb hm hnl))
  have HQ3 := Lib.hid (Bo.new w2 22 #[.slice av nv cv])
  have HB3 := Lib.hid (below_new w2 (.cells #[.slice av nv cv] 22))
  obtain ⟨g0, g1, g2, g3⟩ := (HX2.out.alloc (.cells #[.slice av nv cv] 22)).c4
  have q0 : (w2.alloc (.cells #[.slice av nv cv] 22)).cell? ⟨w2.heap.size, 0, none⟩ = some (.slice av nv cv) := HQ3.out.cell (j := 0) rfl
  have hsz3 : B ≤ (w2.alloc (.cells #[.slice av nv cv] 22)).heap.size := Nat.le_trans H0.out (Nat.le_trans HW1.out.size (Nat.le_trans HB2.out.size HB3.out.size))
  have hb3 : Below w.heap.size w (w2.alloc (.cells #[.slice av nv cv] 22)) := (HW1.out.trans (HB2.out.mono HW1.out.size)).trans (HB3.out.mono (Nat.le_trans HW1.out.size HB2.out.size))
  have HBW := Lib.hid hb3
  have HC := Lib.hid (replacedS_any (V := V) 1048576 t B w2.heap.size n cap nv cv a av (w2.alloc (.cells #[.slice av nv cv] 22)).drew HS.out (Nat.le_refl _) q0 (MemW.drew (MemW.keep HM2.out HB3.out)) ((HT.out.keep (Nat.le_refl _) (hb3.mono H0.out)).drew) hsz3)
  clear hsz3 hb3
  have hz2 := HY2.out.lt
  go_region_held3 (fun w' => w'.cell? ⟨w.heap.size, 0, none⟩ = some (.int .i64 t.kind) ∧ w'.cell? ⟨w.heap.size, 1, none⟩ = some (.string t.name) ∧ w'.cell? ⟨w.heap.size, 2, none⟩ = some (.int .i64 t.n) ∧ w'.cell? ⟨w.heap.size, 3, none⟩ = some (.slice a n cap) ∧ w'.cell? ⟨w2.heap.size, 0, none⟩ = some (.slice av nv cv))
    ((repeat' apply And.intro) <;> (repeat (first | with_reducible assumption | with_reducible refine cell_drew ?_ | with_reducible refine cell_alloc _ ?_ | with_reducible refine cell_row_far _ ?_ (by omega) | with_reducible refine cell_below ?_ HB4.out)))
    (first
      | (go_at_call 89
         refine HC.out.mono ?_
         rintro e w4 ⟨a4, n4, cap4, rfl, hb, hm⟩
         have HB4 := Lib.hid (Below.one hb)
         have HM4 := Lib.hid hm
         have HY4 := Lib.hid ((HY2.out.alloc (.cells #[.slice av nv cv] 22)).keep (Below.one hb))
         have hwr : Wr w4 (w.heap.size + 1) 75 5 := HY4.out.wr
         clear hb hm))
  go_wp2
  have HR := Lib.hid (HY4.out.row #[.int .i64 nv, .int .i64 (numT (idxI V) t).kind, .string (numT (idxI V) t).name, .int .i64 (numT (idxI V) t).n, .slice a4 n4 cap4])
  have r0 := HR.out.cell (j := 0) (v := .int .i64 nv) rfl
  have r1 := HR.out.cell (j := 1) (v := .int .i64 (numT (idxI V) t).kind) rfl
  have r2 := HR.out.cell (j := 2) (v := .string (numT (idxI V) t).name) rfl
  have r3 := HR.out.cell (j := 3) (v := .int .i64 (numT (idxI V) t).n) rfl
  have r4 := HR.out.cell (j := 4) (v := .slice a4 n4 cap4) rfl
  refine bodyPost_ret (v := .agg #[.int .i64 nv, .int .i64 (numT (idxI V) t).kind, .string (numT (idxI V) t).name, .int .i64 (numT (idxI V) t).n, .slice a4 n4 cap4]) (by simp [results, Try.results58, go_sem, r0, r1, r2, r3, r4]) rfl ⟨a4, n4, cap4, by rw [HNL.out], below_setRow (HBW.out.trans (HB4.out.mono HBW.out.size)) (by omega) _, ?_⟩
  have h1 := HBW.out.size
  have h2 := H0.out
  have hm : ¬ Nw B (w2.alloc (.cells #[.slice av nv cv] 22)).drew.heap.size w4.heap.size (w.heap.size + 1) := fun hh => by
    have h3 : (w2.alloc (.cells #[.slice av nv cv] 22)).drew.heap.size = w2.heap.size + 1 := World.size_alloc _ _
    rcases hh.1 with h | h
    · omega
    · rw [h3] at h; omega
  exact (HM4.out.row _ _ hm).mono (fun b hb => ⟨hb.1.imp id fun h => Nat.le_trans h1 h, by rw [size_setRow]; exact hb.2⟩) fun _ _ => rfl
end Go.Proofs.Ytemkpecagflafaa
