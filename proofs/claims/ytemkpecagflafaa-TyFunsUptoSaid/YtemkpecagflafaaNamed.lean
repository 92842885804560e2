/-
  Named of a variable: what stands for its name, or itself. No condition but how the arguments lie.
-/
import Derived.Test.YtemkpecagflafaaSames
namespace Go.Proofs.Ytemkpecagflafaa
open Go.RowKit
attribute [local go_sem ↓] store_type
attribute [local go_sem] stOk_type
attribute [local go_sem] stB_eq stC_eq wr_drew wr_alloc wr_row
attribute [local go_sem] toList_beq

/-- What stands for a variable's name. -/
def namedV (names : List ByteArray) (by_ : List Tm) (t : Tm) : Option Tm := if 0 ≤ idxI names t.name then by_[(idxI names t.name).toNat]? else none

theorem idxI_lt {α : Type} [BEq α] (l : List α) (s : α) : idxI l s < l.length ∨ idxI l s = -1 := by
  unfold idxI
  split
  · rename_i h
    left
    obtain ⟨x, hx, hs⟩ := List.any_eq_true.1 h
    have := List.findIdx_lt_length_of_exists (p := (s == ·)) ⟨x, hx, hs⟩
    omega
  · right; rfl
theorem idxI_ge' {α : Type} [BEq α] (l : List α) (s : α) : -1 ≤ idxI l s := by
  unfold idxI; split <;> omega

/-- What the closure hands back. -/
def GivesN (B : Nat) (r : Option Tm) (w : World) (e : Ending) (w' : World) : Prop :=
  Below w.heap.size w w' ∧
  match r with
  | none => e = .returned (.tuple #[.agg #[.int .i64 0, .string ⟨#[]⟩, .int .i64 0, .slice none 0 0], .bool false])
  | some u => ∃ a n cap, e = .returned (.tuple #[.agg #[.int .i64 u.kind, .string u.name, .int .i64 u.n, .slice a n cap], .bool true]) ∧ Mem (· < B) w' (.s 4 (Tm.rows u.args)) (.slice a n cap)

set_option maxRecDepth 100000 in
set_option maxHeartbeats 2000000 in
theorem named1_any {names : List ByteArray} {by_ : List Tm} {t : Tm} {B n cap nn nc bn bc q1 q2 : Nat} {a na ba : Option Addr} {w : World} (h1 : w.cell? ⟨q1, 0, none⟩ = some (.slice na nn nc)) (h2 : w.cell? ⟨q2, 0, none⟩ = some (.slice ba bn bc)) (hN : MemW w (.s 1 (strRows names)) (.slice na nn nc)) (hB : Mem (· < B) w (.s 4 (Tm.rows by_)) (.slice ba bn bc)) (hBw : B ≤ w.heap.size) (hnn : nn ≤ 1048576) :
    Calls Try.prog 90 #[.agg #[.int .i64 t.kind, .string t.name, .int .i64 t.n, .slice a n cap], .pointer (some ⟨q1, 0, none⟩), .pointer (some ⟨q2, 0, none⟩)] w (GivesN B (namedV names by_ t) w) := by
  have hl := hB.len
  rw [Tm.rows_len] at hl
  have HL := Lib.hid hl.1
  have hcap := hl.2.1
  have hmx := hl.2.2
  have hnl : names.length = nn := by have := (Mem.len hN).1; rw [strRows_len] at this; exact this
  have hi1 := idxI_ge' names t.name
  have hi2 := idxI_lt names t.name
  have HN := Lib.hid hN
  have HB := Lib.hid hB
  have H0 := Lib.hid hBw
  have q1l := World.block_lt_of_cell? w _ h1
  have q2l := World.block_lt_of_cell? w _ h2
  have HV : Hid (namedV names by_ t = if 0 ≤ idxI names t.name then by_[(idxI names t.name).toNat]? else none) := Lib.hid rfl
  have HI : ∀ (w' : World), MemW w' (.s 1 (strRows names)) (.slice na nn nc) → Calls Try.prog 91 #[.slice na nn nc, .string t.name] w' fun e w2 => e = .returned (.int .i64 (idxI names t.name)) ∧ w' = w2 := fun w' h => index_str_any t.name w' h
  have HI := Lib.hid HI
  have hlen : (names.length : Int) ≤ 1048576 := by omega
  clear hl hN hB hBw hnl
  generalize idxI names t.name = i at *
  have hib : i ≤ 1048576 := by omega
  clear hi2 hlen
  have HW1 := Lib.hid (((below_new w (.cells #[.int .i64 t.kind, .string t.name, .int .i64 t.n, .slice a n cap] 52)).alloc (by simp) (.cells #[.int .i64 0, .string ⟨#[]⟩, .int .i64 0, .slice none 0 0] 52)))
  have c1 := cell_below h1 HW1.out
  have c2 := cell_below h2 HW1.out
  clear h1 h2
  have HY := Lib.hid (World.size_alloc w (.cells #[.int .i64 t.kind, .string t.name, .int .i64 t.n, .slice a n cap] 52) ▸ Bo.new (w.alloc (.cells #[.int .i64 t.kind, .string t.name, .int .i64 t.n, .slice a n cap] 52)) 52 #[.int .i64 0, .string ⟨#[]⟩, .int .i64 0, .slice none 0 0])
  by_cases hneg : i < 0
  · have HF : Hid (namedV names by_ t = none) := Lib.hid (by rw [HV.out, if_neg (by omega)])
    go_enter Try.func90, Try.ntmps90
    go_wp2_with (first | (go_at_call 91 ; refine (HI.out _ (MemW.keep HN.out HW1.out)).mono ?_; rintro e w2 ⟨rfl, rfl⟩))
    refine bodyPost_ret (v := .tuple #[.agg #[.int .i64 0, .string ⟨#[]⟩, .int .i64 0, .slice none 0 0], .bool false]) (by simp [results, Try.results90, go_sem]) rfl ?_
    rw [HF.out]
    exact ⟨by first | exact HW1.out | exact (Below.refl _ _).alloc (Nat.le_refl _) _, rfl⟩
  · by_cases hge : (bn : Int) ≤ i
    · have HF : Hid (namedV names by_ t = none) := Lib.hid (by rw [HV.out, if_pos (by omega), List.getElem?_eq_none (by rw [HL.out]; omega)])
      go_enter Try.func90, Try.ntmps90
      go_wp2_with (first | (go_at_call 91 ; refine (HI.out _ (MemW.keep HN.out HW1.out)).mono ?_; rintro e w2 ⟨rfl, rfl⟩))
      refine bodyPost_ret (v := .tuple #[.agg #[.int .i64 0, .string ⟨#[]⟩, .int .i64 0, .slice none 0 0], .bool false]) (by simp [results, Try.results90, go_sem]) rfl ?_
      rw [HF.out]
      exact ⟨by exact HW1.out, rfl⟩
    · obtain ⟨k, rfl⟩ : ∃ k : Nat, i = k := ⟨i.toNat, by omega⟩
      obtain ⟨b, o, x, ax, nx, capx, rfl, hbB, Hx, x0, x1, x2, x3, GX⟩ := tm_at HB.out k (by omega)
      have s0 := cell_below x0 HW1.out
      have s1 := cell_below x1 HW1.out
      have s2 := cell_below x2 HW1.out
      have s3 := cell_below x3 HW1.out
      clear x0 x1 x2 x3
      have HF : Hid (namedV names by_ t = some x) := Lib.hid (by rw [HV.out, if_pos (by omega), Int.toNat_natCast]; exact Hx.out)
      have hk0 : (0 : Int) ≤ (k : Int) := by omega
      have hkn : (k : Int) < bn := by omega
      go_enter Try.func90, Try.ntmps90
      go_wp2_with (first | (go_at_call 91 ; refine (HI.out _ (MemW.keep HN.out HW1.out)).mono ?_; rintro e w2 ⟨rfl, rfl⟩))
      refine bodyPost_ret (v := .tuple #[.agg #[.int .i64 x.kind, .string x.name, .int .i64 x.n, .slice ax nx capx], .bool true]) (by simp [results, Try.results90, go_sem]) rfl ?_
      rw [HF.out]
      have hb := (below_new w (.cells #[.int .i64 t.kind, .string t.name, .int .i64 t.n, .slice a n cap] 52)).alloc (by simp) (.cells #[.int .i64 x.kind, .string x.name, .int .i64 x.n, .slice ax nx capx] 52)
      exact ⟨hb, ax, nx, capx, rfl, GX.out.keep (Nat.le_refl _) (hb.mono H0.out)⟩

/-- What Named and replaced hand back. -/
def GivesR (B : Nat) (u : Tm) (w : World) (e : Ending) (w' : World) : Prop :=
  ∃ a n cap, e = .returned (.agg #[.int .i64 u.kind, .string u.name, .int .i64 u.n, .slice a n cap]) ∧ Below w.heap.size w w' ∧ Mem (· < B) w' (.s 4 (Tm.rows u.args)) (.slice a n cap)

set_option maxRecDepth 100000 in
set_option maxHeartbeats 2000000 in
theorem replaced1_any {names : List ByteArray} {by_ : List Tm} {t : Tm} {B n cap nn nc bn bc q1 q2 : Nat} {a na ba : Option Addr} {w : World} (hk : t.kind = 1) (ht : Mem (· < B) w (.s 4 (Tm.rows t.args)) (.slice a n cap)) (h1 : w.cell? ⟨q1, 0, none⟩ = some (.slice na nn nc)) (h2 : w.cell? ⟨q2, 0, none⟩ = some (.slice ba bn bc)) (hN : MemW w (.s 1 (strRows names)) (.slice na nn nc)) (hB : Mem (· < B) w (.s 4 (Tm.rows by_)) (.slice ba bn bc)) (hBw : B ≤ w.heap.size) (hnn : nn ≤ 1048576) :
    Calls Try.prog 89 #[.agg #[.int .i64 t.kind, .string t.name, .int .i64 t.n, .slice a n cap], .func (.func 90) #[] #[.pointer (some ⟨q1, 0, none⟩), .pointer (some ⟨q2, 0, none⟩)]] w (GivesR B ((namedV names by_ t).getD t) w) := by
  have HW1 := Lib.hid (((below_new w (.cells #[.int .i64 t.kind, .string t.name, .int .i64 t.n, .slice a n cap] 52)).alloc (by simp) (.cells #[.int .i64 0, .string ⟨#[]⟩, .int .i64 0, .slice none 0 0] 52)))
  have HX := Lib.hid ((Bo.new w 52 #[.int .i64 t.kind, .string t.name, .int .i64 t.n, .slice a n cap]).alloc (.cells #[.int .i64 0, .string ⟨#[]⟩, .int .i64 0, .slice none 0 0] 52))
  have HY := Lib.hid (World.size_alloc w (.cells #[.int .i64 t.kind, .string t.name, .int .i64 t.n, .slice a n cap] 52) ▸ Bo.new (w.alloc (.cells #[.int .i64 t.kind, .string t.name, .int .i64 t.n, .slice a n cap] 52)) 52 #[.int .i64 0, .string ⟨#[]⟩, .int .i64 0, .slice none 0 0])
  have HC := Lib.hid (named1_any (t := t) (n := n) (cap := cap) (a := a) (cell_below h1 HW1.out) (cell_below h2 HW1.out) (MemW.keep hN HW1.out) (hB.keep (Nat.le_refl _) (HW1.out.mono hBw)) (Nat.le_trans hBw HW1.out.size) hnn)
  have HT := Lib.hid ht
  have H0 := Lib.hid hBw
  have e1 : (t.kind == 1) = true := by rw [beq_iff_eq]; exact hk
  clear h1 h2 hN hB hBw hk ht
  generalize hv : namedV names by_ t = v at *
  clear hv
  cases v with
  | none =>
    go_enter Try.func89, Try.ntmps89
    go_wp2_with (first | (go_at_call 90 ; refine HC.out.mono ?_; rintro e w2 ⟨hb, rfl⟩; have HB2 := Lib.hid hb; clear hb; have HX2 := Lib.hid (HX.out.keep HB2.out); have HY2 := Lib.hid (HY.out.keep HB2.out); obtain ⟨g0, g1, g2, g3⟩ := HX2.out.c4; have hwr : Wr w2 (w.heap.size + 1) 52 4 := HY2.out.wr; have hz1 := HX2.out.lt; have hz2 := HY2.out.lt))
    have HR := Lib.hid (fun (o : Obj) => ((HY2.out.alloc o).row #[.int .i64 t.kind, .string t.name, .int .i64 t.n, .slice a n cap]).c4)
    refine bodyPost_ret (v := .agg #[.int .i64 t.kind, .string t.name, .int .i64 t.n, .slice a n cap]) (by simp [results, Try.results89, go_sem, HR.out]) rfl ⟨a, n, cap, rfl, below_setRow ((HW1.out.trans (HB2.out.mono HW1.out.size)).alloc (Nat.le_trans HW1.out.size HB2.out.size) _) (by omega) _, ?_⟩
    exact (HT.out.keep (Nat.le_refl _) (((HW1.out.trans (HB2.out.mono HW1.out.size)).alloc (Nat.le_trans HW1.out.size HB2.out.size) _).mono H0.out)).row _ _ (show ¬ w.heap.size + 1 < B by have := H0.out; omega)
  | some u =>
    go_enter Try.func89, Try.ntmps89
    go_wp2_with (first | (go_at_call 90 ; refine HC.out.mono ?_; rintro e w2 ⟨hb, a2, n2, cap2, rfl, hm⟩; have HB2 := Lib.hid hb; have HM2 := Lib.hid hm; clear hb hm; have HY2 := Lib.hid (HY.out.keep HB2.out); have hwr : Wr w2 (w.heap.size + 1) 52 4 := HY2.out.wr; have hz2 := HY2.out.lt))
    have HR := Lib.hid (fun (o : Obj) => ((HY2.out.alloc o).row #[.int .i64 u.kind, .string u.name, .int .i64 u.n, .slice a2 n2 cap2]).c4)
    refine bodyPost_ret (v := .agg #[.int .i64 u.kind, .string u.name, .int .i64 u.n, .slice a2 n2 cap2]) (by simp [results, Try.results89, go_sem, HR.out]) rfl ⟨a2, n2, cap2, rfl, below_setRow ((HW1.out.trans (HB2.out.mono HW1.out.size)).alloc (Nat.le_trans HW1.out.size HB2.out.size) _) (by omega) _, ?_⟩
    exact (HM2.out.keep (Nat.le_refl _) ((below_new w2 _).mono (Nat.le_trans H0.out (Nat.le_trans HW1.out.size HB2.out.size)))).row _ _ (show ¬ w.heap.size + 1 < B by have := H0.out; omega)

set_option maxRecDepth 100000 in
set_option maxHeartbeats 2000000 in
theorem named_any {names : List ByteArray} {by_ : List Tm} {t : Tm} {B n cap nn nc bn bc : Nat} {a na ba : Option Addr} {w : World} (hk : t.kind = 1) (ht : Mem (· < B) w (.s 4 (Tm.rows t.args)) (.slice a n cap)) (hN : MemW w (.s 1 (strRows names)) (.slice na nn nc)) (hB : Mem (· < B) w (.s 4 (Tm.rows by_)) (.slice ba bn bc)) (hBw : B ≤ w.heap.size) (hnn : nn ≤ 1048576) :
    Calls Try.prog 46 #[.agg #[.int .i64 t.kind, .string t.name, .int .i64 t.n, .slice a n cap], .slice na nn nc, .slice ba bn bc] w (GivesR B ((namedV names by_ t).getD t) w) := by
  have o1 : Obj := .cells #[.int .i64 t.kind, .string t.name, .int .i64 t.n, .slice a n cap] 52
  have HW1 := Lib.hid ((((below_new w (.cells #[.int .i64 t.kind, .string t.name, .int .i64 t.n, .slice a n cap] 52)).alloc (by simp) (.cells #[.slice na nn nc] 47)).alloc (by simp; omega) (.cells #[.slice ba bn bc] 50)).alloc (by simp; omega) (.cells #[.int .i64 0, .string ⟨#[]⟩, .int .i64 0, .slice none 0 0] 52))
  have HQ1 := Lib.hid (((World.size_alloc w (.cells #[.int .i64 t.kind, .string t.name, .int .i64 t.n, .slice a n cap] 52) ▸ Bo.new (w.alloc (.cells #[.int .i64 t.kind, .string t.name, .int .i64 t.n, .slice a n cap] 52)) 47 #[.slice na nn nc] : Bo _ (w.heap.size + 1) _ _).alloc (.cells #[.slice ba bn bc] 50)).alloc (.cells #[.int .i64 0, .string ⟨#[]⟩, .int .i64 0, .slice none 0 0] 52))
  have HQ2 : Hid (Bo ((((w.alloc (.cells #[.int .i64 t.kind, .string t.name, .int .i64 t.n, .slice a n cap] 52)).alloc (.cells #[.slice na nn nc] 47)).alloc (.cells #[.slice ba bn bc] 50)).alloc (.cells #[.int .i64 0, .string ⟨#[]⟩, .int .i64 0, .slice none 0 0] 52)) (w.heap.size + 1 + 1) 50 #[.slice ba bn bc]) := by
    have := (Bo.new ((w.alloc (.cells #[.int .i64 t.kind, .string t.name, .int .i64 t.n, .slice a n cap] 52)).alloc (.cells #[.slice na nn nc] 47)) 50 #[.slice ba bn bc]).alloc (.cells #[.int .i64 0, .string ⟨#[]⟩, .int .i64 0, .slice none 0 0] 52)
    rw [World.size_alloc, World.size_alloc] at this
    exact this
  have HQ3 : Hid (Bo ((((w.alloc (.cells #[.int .i64 t.kind, .string t.name, .int .i64 t.n, .slice a n cap] 52)).alloc (.cells #[.slice na nn nc] 47)).alloc (.cells #[.slice ba bn bc] 50)).alloc (.cells #[.int .i64 0, .string ⟨#[]⟩, .int .i64 0, .slice none 0 0] 52)) (w.heap.size + 1 + 1 + 1) 52 #[.int .i64 0, .string ⟨#[]⟩, .int .i64 0, .slice none 0 0]) := by
    have := Bo.new (((w.alloc (.cells #[.int .i64 t.kind, .string t.name, .int .i64 t.n, .slice a n cap] 52)).alloc (.cells #[.slice na nn nc] 47)).alloc (.cells #[.slice ba bn bc] 50)) 52 #[.int .i64 0, .string ⟨#[]⟩, .int .i64 0, .slice none 0 0]
    rw [World.size_alloc, World.size_alloc, World.size_alloc] at this
    exact this
  have HC := Lib.hid (replaced1_any hk (ht.keep (Nat.le_refl _) (HW1.out.mono hBw)) (HQ1.out.cell (j := 0) rfl) (HQ2.out.cell (j := 0) rfl) (MemW.keep hN HW1.out) (hB.keep (Nat.le_refl _) (HW1.out.mono hBw)) (Nat.le_trans hBw HW1.out.size) hnn)
  have H0 := Lib.hid hBw
  clear hk ht hN hB hBw o1
  generalize (namedV names by_ t).getD t = u at *
  go_enter Try.func46, Try.ntmps46
  go_wp2_with (first | (go_at_call 89 ; refine HC.out.mono ?_; rintro e w2 ⟨a2, n2, cap2, rfl, hb, hm⟩; have HB2 := Lib.hid hb; have HM2 := Lib.hid hm; clear hb hm; have HY2 := Lib.hid (HQ3.out.keep HB2.out); have hwr : Wr w2 (w.heap.size + 1 + 1 + 1) 52 4 := HY2.out.wr; have hz2 := HY2.out.lt))
  have HR := Lib.hid (HY2.out.row #[.int .i64 u.kind, .string u.name, .int .i64 u.n, .slice a2 n2 cap2]).c4
  refine bodyPost_ret (v := .agg #[.int .i64 u.kind, .string u.name, .int .i64 u.n, .slice a2 n2 cap2]) (by simp [results, Try.results46, go_sem, HR.out]) rfl ⟨a2, n2, cap2, rfl, below_setRow (HW1.out.trans (HB2.out.mono HW1.out.size)) (by omega) _, ?_⟩
  exact HM2.out.row _ _ (show ¬ w.heap.size + 1 + 1 + 1 < B by have := H0.out; omega)
end Go.Proofs.Ytemkpecagflafaa
