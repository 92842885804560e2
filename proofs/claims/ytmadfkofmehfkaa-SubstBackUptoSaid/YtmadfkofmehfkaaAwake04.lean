/-
  Chapter 4's example, walked. No condition.
-/
import Derived.Test.YtmadfkofmehfkaaPlain4
namespace Go.Proofs.Ytmadfkofmehfkaa
open Go.RowKit Go.Maps
theorem store_tmW {dst : Option Nat} {ty : TypeId} {pos : String} {after : Array Edge} {guard : Option (Nat × Bool)} {x y : Operand} {a : Act} {w : World} {K : Act → World → Prop} {Q : Exit → Act → World → Prop} (h : StOk 24 4 w (a.eval x) (a.eval y)) :
    Oper.wp Try.prog { dst := dst, op := .store 24 x y, type := ty, pos := pos, after := after, guard := guard } a w K Q = K (a.put dst undef) (w.setRow (stB (a.eval x)) (stC (a.eval y))) := wp_store_T rfl (by kernel_rfl) h
theorem stOk_tmW {w : World} {g m c : Nat} {k n : Int} {s : ByteArray} {a : Option Addr} : StOk 24 4 w (.pointer (some ⟨g, 0, none⟩)) (.agg #[.int .i64 k, .string s, .int .i64 n, .slice a m c]) = Wr w g 24 4 := stOk_eq rfl (by simp [Value.oneCell'])
attribute [local go_sem ↓] store_tmW
attribute [local go_sem] stOk_tmW
attribute [local go_sem] stB_eq stC_eq wr_drew wr_alloc wr_row

def vA : Tm := .mk 3 ⟨#[]⟩ 0 []
def fA : Tm := .mk 2 ⟨#[]⟩ 5 []
def sA (x : Tm) : Tm := .mk 1 ⟨#[83]⟩ 0 [x]
theorem sA_ok {x : Tm} (h : x.ok) : (sA x).ok := by
  intro y hy
  rw [Tm.all_eq, Tm.alls_eq] at hy
  rcases List.mem_cons.1 hy with rfl | hy
  · show inI64 1 ∧ inI64 0
    unfold inI64; decide
  · obtain ⟨z, hz, hy'⟩ := List.mem_flatMap.1 hy
    have e : z = x := by simpa [sA, Tm.args] using hz
    rw [e] at hy'
    exact h y hy'
theorem leaf_ok {k n : Int} (hk : inI64 k) (hn : inI64 n) : (Tm.mk k ⟨#[]⟩ n []).ok := by
  intro y hy
  obtain rfl : y = Tm.mk k ⟨#[]⟩ n [] := by simpa [Tm.all, Tm.alls] using hy
  exact ⟨hk, hn⟩
theorem mtA : mt (sA vA) (sA fA) [] = (true, [(0, fA)]) := by kernel_rfl

set_option maxRecDepth 100000 in
set_option maxHeartbeats 2000000 in
theorem sA_any (x : Tm) (w : World) (hx : x.args = []) :
    Calls Try.prog 34 #[.agg #[.int .i64 x.kind, .string x.name, .int .i64 x.n, .slice none 0 0]] w fun e w' => ∃ q, e = .returned (.agg #[.int .i64 1, .string ⟨#[83]⟩, .int .i64 0, .slice (some ⟨q, 0, none⟩) 1 1]) ∧ Below w.heap.size w w' ∧ MemW w' (.s 4 (Tm.rows [x])) (.slice (some ⟨q, 0, none⟩) 1 1) := by
  have HB0 := Lib.hid ((below_new w (.cells #[.int .i64 x.kind, .string x.name, .int .i64 x.n, .slice none 0 0] 24)).alloc (by simp) (.cells #[.int .i64 0, .string ⟨#[]⟩, .int .i64 0, .slice none 0 0] 24))
  have HX := Lib.hid ((Bo.new w 24 #[.int .i64 x.kind, .string x.name, .int .i64 x.n, .slice none 0 0]).alloc (.cells #[.int .i64 0, .string ⟨#[]⟩, .int .i64 0, .slice none 0 0] 24))
  have HY := Lib.hid (World.size_alloc w (.cells #[.int .i64 x.kind, .string x.name, .int .i64 x.n, .slice none 0 0] 24) ▸ Bo.new (w.alloc (.cells #[.int .i64 x.kind, .string x.name, .int .i64 x.n, .slice none 0 0] 24)) 24 #[.int .i64 0, .string ⟨#[]⟩, .int .i64 0, .slice none 0 0])
  have HZ : Hid (((w.alloc (.cells #[.int .i64 x.kind, .string x.name, .int .i64 x.n, .slice none 0 0] 24)).alloc (.cells #[.int .i64 0, .string ⟨#[]⟩, .int .i64 0, .slice none 0 0] 24)).heap.size = w.heap.size + 2) := Lib.hid (by simp)
  obtain ⟨x0, x1, x2, x3⟩ := HX.out.c4
  have HM : Hid (OwnD 0 (w.heap.size + 2) 24 4 (((w.alloc (.cells #[.int .i64 x.kind, .string x.name, .int .i64 x.n, .slice none 0 0] 24)).alloc (.cells #[.int .i64 0, .string ⟨#[]⟩, .int .i64 0, .slice none 0 0] 24)).alloc (.cells #[.int .i64 x.kind, .string x.name, .int .i64 x.n, .slice none 0 0] 24)) (.slice (some ⟨w.heap.size + 2, 0, none⟩) 1 1) (Tm.rows [x])) := Lib.hid (by
    have := tm_one (base := w.heap.size + 2) (e := 24) (w := (w.alloc (.cells #[.int .i64 x.kind, .string x.name, .int .i64 x.n, .slice none 0 0] 24)).alloc (.cells #[.int .i64 0, .string ⟨#[]⟩, .int .i64 0, .slice none 0 0] 24)) (B := 0) x (a := none) (n := 0) (cap := 0) (by rw [hx, Tm.rows]; exact .e _ _ _ (by decide)) (by rw [HZ.out]; exact Nat.le_refl _)
    rw [HZ.out] at this
    exact this)
  have HY3 := Lib.hid (HY.out.alloc (.cells #[.int .i64 x.kind, .string x.name, .int .i64 x.n, .slice none 0 0] 24))
  have HB3 := Lib.hid (HB0.out.alloc HB0.out.size (.cells #[.int .i64 x.kind, .string x.name, .int .i64 x.n, .slice none 0 0] 24))
  have hwr : Wr (((w.alloc (.cells #[.int .i64 x.kind, .string x.name, .int .i64 x.n, .slice none 0 0] 24)).alloc (.cells #[.int .i64 0, .string ⟨#[]⟩, .int .i64 0, .slice none 0 0] 24)).alloc (.cells #[.int .i64 x.kind, .string x.name, .int .i64 x.n, .slice none 0 0] 24)) (w.heap.size + 1) 24 4 := HY3.out.wr
  clear hx
  go_enter Try.func34, Try.ntmps34
  go_wp2
  have HR := Lib.hid (HY3.out.row #[.int .i64 1, .string ⟨#[83]⟩, .int .i64 0, .slice (some ⟨w.heap.size + 2, 0, none⟩) 1 1]).c4
  refine bodyPost_ret (v := .agg #[.int .i64 1, .string ⟨#[83]⟩, .int .i64 0, .slice (some ⟨w.heap.size + 2, 0, none⟩) 1 1]) (by simp [results, Try.results34, go_sem, HR.out]) rfl ?_
  exact ⟨w.heap.size + 2, rfl, below_setRow HB3.out (by omega) _, (HM.out.row (w.heap.size + 1) _ (by omega) (Nat.zero_le _)).memW⟩

set_option maxRecDepth 100000 in
set_option maxHeartbeats 20000000 in
theorem awake04_any (w : World) : Calls Try.prog 7 #[] w fun e w' => e = .returned (.bool true) ∧ Below w.heap.size w w' := by
  go_enter Try.func7, Try.ntmps7
  go_wp2_with fail
  refine (sA_any vA _ rfl).mono ?_
  rintro e w1 ⟨q1, rfl, hb1, hm1⟩
  have HB1 := Lib.hid hb1
  have HM1 := Lib.hid hm1
  clear hb1 hm1
  go_wp2_with fail
  refine (sA_any fA _ rfl).mono ?_
  rintro e w2 ⟨q2, rfl, hb2, hm2⟩
  have HB2 := Lib.hid (HB1.out.trans (hb2.mono HB1.out.size))
  have HM1' := Lib.hid (MemW.keep HM1.out hb2)
  have HM2 := Lib.hid hm2
  clear hb2 hm2 HM1 HB1
  go_wp2_with fail
  refine (matchS_any (p := sA vA) (t := sA fA) w2 HM1'.out HM2.out (by decide) (sA_ok (leaf_ok (by unfold inI64; decide) (by unfold inI64; decide)))).mono ?_
  rintro e w3 ⟨hb3, _, h3⟩
  rw [mtA] at h3
  obtain ⟨l, a, n, c, rfl, hp, hm⟩ := h3 rfl
  have hl : l = [(0, fA)] := List.perm_singleton.1 hp
  subst hl
  have HB3 := Lib.hid (HB2.out.trans (hb3.mono HB2.out.size))
  obtain rfl : 1 = n := hm.len.1
  have hnc := hm.len.2.1
  have hcm := hm.len.2.2
  obtain ⟨b, o, rfl, _, _, cs, h2, hc⟩ := Mem.at hm 0 (by decide)
  have h2' : All2 (Mem (· < w3.heap.size) w3) (bindT (0, fA)) cs := h2
  have hcell : w3.cell? ⟨b, o + 3, none⟩ = some (.int .i64 5) := by
    unfold bindT at h2'
    cases h2' with
    | cons g0 h2' => cases h2' with
      | cons g1 h2' => cases h2' with
        | cons g2 h2' => cases h2' with
          | cons g3 h2' =>
            have := hc 3 (by simp)
            have e3 := g3.val
            simp only [Nat.zero_mul, Nat.add_zero] at this
            rw [this]
            simp only [List.getElem_cons_succ, List.getElem_cons_zero]
            rw [e3]
  clear hb3 hp h3 hm h2 h2' hc HM1' HM2 HB2
  go_wp2_with fail
  go_ret
  exact ⟨rfl, HB3.out⟩
end Go.Proofs.Ytmadfkofmehfkaa
