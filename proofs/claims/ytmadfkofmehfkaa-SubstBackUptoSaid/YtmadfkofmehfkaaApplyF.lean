/-
  subst.Apply's functions: what a list has for a variable. No condition but how it lies.
-/
import Derived.Test.YtmadfkofmehfkaaApT
import Derived.Test.YtmadfkofmehfkaaGivesT
namespace Go.Proofs.Ytmadfkofmehfkaa
open Go.RowKit
theorem store_tmF {dst : Option Nat} {ty : TypeId} {pos : String} {after : Array Edge} {guard : Option (Nat × Bool)} {x y : Operand} {a : Act} {w : World} {K : Act → World → Prop} {Q : Exit → Act → World → Prop} (h : StOk 24 4 w (a.eval x) (a.eval y)) :
    Oper.wp Try.prog { dst := dst, op := .store 24 x y, type := ty, pos := pos, after := after, guard := guard } a w K Q = K (a.put dst undef) (w.setRow (stB (a.eval x)) (stC (a.eval y))) := wp_store_T rfl (by kernel_rfl) h
theorem stOk_tmF {w : World} {g m c : Nat} {k n : Int} {s : ByteArray} {a : Option Addr} : StOk 24 4 w (.pointer (some ⟨g, 0, none⟩)) (.agg #[.int .i64 k, .string s, .int .i64 n, .slice a m c]) = Wr w g 24 4 := stOk_eq rfl (by simp [Value.oneCell'])
attribute [local go_sem ↓] store_tmF
attribute [local go_sem] stOk_tmF
attribute [local go_sem] stB_eq stC_eq wr_drew wr_alloc wr_row

set_option maxRecDepth 100000 in
set_option maxHeartbeats 2000000 in
theorem apply11_any {k n : Int} {qn : Nat} {y : Tm} {a : Option Addr} {m c : Nat} {w : World} (hq : w.cell? ⟨qn, 0, none⟩ = some (.int .i64 n)) :
    Calls Try.prog 40 #[.agg #[.int .i64 k, .int .i64 y.kind, .string y.name, .int .i64 y.n, .slice a m c], .pointer (some ⟨qn, 0, none⟩)] w fun e w' => e = .returned (.bool (k == n)) ∧ Below w.heap.size w w' := by
  have HB := Lib.hid (below_new w (.cells #[.int .i64 k, .int .i64 y.kind, .string y.name, .int .i64 y.n, .slice a m c] 33))
  have HX := Lib.hid (Bo.new w 33 #[.int .i64 k, .int .i64 y.kind, .string y.name, .int .i64 y.n, .slice a m c])
  have c1 := cell_below hq HB.out
  have hl := World.block_lt_of_cell? w _ hq
  go_enter Try.func40, Try.ntmps40
  go_wp2
  go_ret
  exact ⟨rfl, HB.out⟩
/-- Where a list has a number first; -1. -/
def firstI (l : List (Int × Tm)) (n : Int) : Int := if l.any (fun x => x.1 == n) then (l.findIdx (fun x => x.1 == n) : Int) else -1
theorem firstI_at {l : List (Int × Tm)} {n : Int} {k : Nat} {x : Int × Tm} (hx : l[k]? = some x) (h : x.1 = n) (hn : ∀ j y, j < k → l[j]? = some y → y.1 ≠ n) : firstI l n = k := by
  have hk := (List.getElem?_eq_some_iff.1 hx).1
  have e := (List.getElem?_eq_some_iff.1 hx).2
  have ha : l.any (fun x => x.1 == n) = true := List.any_eq_true.2 ⟨x, List.mem_of_getElem? hx, by simpa using h⟩
  rw [firstI, if_pos ha]
  have : l.findIdx (fun x => x.1 == n) = k := (List.findIdx_eq hk).2 ⟨by rw [e]; simpa using h, fun j hj => by
    have := hn j l[j] hj (List.getElem?_eq_getElem (by omega))
    simpa using this⟩
  rw [this]
theorem firstI_no {l : List (Int × Tm)} {n : Int} (hn : ∀ y ∈ l, y.1 ≠ n) : firstI l n = -1 := by
  have ha : l.any (fun x => x.1 == n) = false := by
    rw [Bool.eq_false_iff]
    intro h
    obtain ⟨y, hy, e⟩ := List.any_eq_true.1 h
    exact hn y hy (by simpa using e)
  rw [firstI, ha]; rfl
set_option maxRecDepth 100000 in
set_option maxHeartbeats 20000000 in
theorem indexF_any {l : List (Int × Tm)} {n : Int} {qn bn bc : Nat} {ba : Option Addr} {w : World} (hq : w.cell? ⟨qn, 0, none⟩ = some (.int .i64 n)) (hb : MemW w (.s 5 (bindsT l)) (.slice ba bn bc)) :
    Calls Try.prog 39 #[.slice ba bn bc, .func (.func 40) #[] #[.pointer (some ⟨qn, 0, none⟩)]] w fun e w' => e = .returned (.int .i64 (firstI l n)) ∧ Below w.heap.size w w' := by
  have hl := hb.len
  rw [bindsT_len] at hl
  have HL := Lib.hid hl.1
  have hcap := hl.2.1
  have hmx := hl.2.2
  have H := Lib.hid hb
  have HQ := Lib.hid hq
  clear hl hb hq
  go_enter Try.func39, Try.ntmps39
  go_wp2
  go_loopw [5, 8] (fun _ i wr => ∃ k : Nat, k ≤ bn ∧ i = .int .i64 k ∧ Hid (Below w.heap.size w wr) ∧ Hid (∀ j y, j < k → l[j]? = some y → y.1 ≠ n)) (fun _ i _ => bn - (intOf i).toNat)
  case atStart => exact ⟨0, Nat.zero_le _, rfl, Lib.hid (Below.refl _ _), Lib.hid (fun j y hj => absurd hj (Nat.not_lt_zero _))⟩
  case round =>
    obtain ⟨k, hk, rfl, HB, HN⟩ := hrel
    by_cases hlt : k < bn
    · have hltz : (k : Int) < (bn : Int) := by omega
      obtain ⟨b, o, y, ax, nx, capx, rfl, hbB, Hy, y0, y1, y2, y3, y4, GX⟩ := bindT_at (MemW.keep H.out HB.out) k hlt
      obtain ⟨vk, yt⟩ := y
      simp only at y0 y1 y2 y3 GX
      have HC := Lib.hid (apply11_any (k := vk) (y := yt) (a := ax) (m := nx) (c := capx) (cell_below HQ.out HB.out))
      by_cases he : vk = n
      · have HF := Lib.hid (firstI_at Hy.out he HN.out)
        have e2 : (vk == n) = true := by rw [beq_iff_eq]; exact he
        rw [e2] at HC
        clear he e2
        go_wp2_with fail
        refine HC.out.mono ?_
        rintro e w4 ⟨rfl, hb⟩
        have HB4 := Lib.hid (HB.out.trans (hb.mono HB.out.size))
        clear hb
        go_wp2_with fail
        go_ret
        exact ⟨by rw [HF.out]; rfl, HB4.out⟩
      · have HN2 : Hid (∀ j y, j < k + 1 → l[j]? = some y → y.1 ≠ n) := Lib.hid fun j y hj hy => by
          by_cases e : j = k
          · subst e
            rw [Hy.out] at hy
            rw [← Option.some.inj hy]; exact he
          · exact HN.out j y (by omega) hy
        have e2 : (vk == n) = false := by rw [beq_eq_false_iff_ne]; exact he
        rw [e2] at HC
        clear he e2
        go_wp2_with fail
        refine HC.out.mono ?_
        rintro e w4 ⟨rfl, hb⟩
        have HB4 := Lib.hid (HB.out.trans (hb.mono HB.out.size))
        clear hb
        go_wp2_with fail
        go_roundw
        case rel => exact ⟨k + 1, by omega, by go_num, HB4, HN2⟩
        case measure => simp [intOf]; omega
    · obtain rfl : k = bn := by omega
      have hltz : ¬ (k : Int) < (k : Int) := by omega
      have HF := Lib.hid (firstI_no (l := l) (n := n) (fun y hy => by
        obtain ⟨j, hj, rfl⟩ := List.getElem_of_mem hy
        exact HN.out j _ (by have := HL.out; omega) (List.getElem?_eq_getElem hj)))
      go_wp2_with fail
      go_ret
      exact ⟨by rw [HF.out]; rfl, HB.out⟩
end Go.Proofs.Ytmadfkofmehfkaa
