/-
  Fun: a function's type. No condition but how the arguments lie.
-/
import Derived.Test.YtemkpecagflafaaTm
import Derived.StillTailTactics
import Derived.Deep.RegionHeld3
namespace Go.Proofs.Ytemkpecagflafaa
open Go.RowKit

/-- A function's type of these arguments. -/
def funT : List Tm → Tm → Tm
  | [], to => to
  | a :: l, to => Tm.mk 3 ⟨#[]⟩ 0 [a, funT l to]
/-- A type (a term) is handed back; it leads to what was led to, or to what is new. -/
def GivesT (B : Nat) (t : Tm) (w : World) (e : Ending) (w' : World) : Prop :=
  ∃ a n cap, e = .returned (.agg #[.int .i64 t.kind, .string t.name, .int .i64 t.n, .slice a n cap]) ∧ Below w.heap.size w w' ∧ Mem (Nw B w.heap.size w'.heap.size) w' (.s 4 (Tm.rows t.args)) (.slice a n cap)

theorem store_type {dst : Option Nat} {ty : TypeId} {pos : String} {after : Array Edge} {guard : Option (Nat × Bool)} {x y : Operand} {a : Act} {w : World} {K : Act → World → Prop} {Q : Exit → Act → World → Prop} (h : StOk 52 4 w (a.eval x) (a.eval y)) :
    Oper.wp Try.prog { dst := dst, op := .store 52 x y, type := ty, pos := pos, after := after, guard := guard } a w K Q = K (a.put dst undef) (w.setRow (stB (a.eval x)) (stC (a.eval y))) := wp_store_T rfl (by kernel_rfl) h
theorem stOk_type {w : World} {g m c : Nat} {k n : Int} {s : ByteArray} {a : Option Addr} : StOk 52 4 w (.pointer (some ⟨g, 0, none⟩)) (.agg #[.int .i64 k, .string s, .int .i64 n, .slice a m c]) = Wr w g 52 4 := stOk_eq rfl (by simp [Value.oneCell'])
attribute [local go_sem ↓] store_type
attribute [local go_sem] stOk_type
attribute [local go_sem] stB_eq stC_eq wr_drew wr_alloc wr_row
set_option maxRecDepth 100000 in
set_option maxHeartbeats 2000000 in
theorem fun09_any (l : List Tm) : ∀ (to : Tm) (B n cap n' cap' : Nat) (a a' : Option Addr) (w : World), Mem (· < B) w (.s 4 (Tm.rows l)) (.slice a n cap) → Mem (· < B) w (.s 4 (Tm.rows to.args)) (.slice a' n' cap') → B ≤ w.heap.size →
    Calls Try.prog 44 #[.slice a n cap, .agg #[.int .i64 to.kind, .string to.name, .int .i64 to.n, .slice a' n' cap']] w (GivesT B (funT l to) w) := by
  induction l with
  | nil =>
    intro to B n cap n' cap' a a' w h h' hB
    obtain rfl : n = 0 := by have := h.len.1; rw [Tm.rows_len] at this; exact this.symm
    have H := Lib.hid h'
    have H0 := Lib.hid hB
    clear h h' hB
    go_enter Try.func44, Try.ntmps44
    go_wp2
    exact bodyPost_ret (v := .agg #[.int .i64 to.kind, .string to.name, .int .i64 to.n, .slice a' n' cap']) (by simp [results, Try.results44, go_sem]) rfl ⟨a', n', cap', rfl, (below_new _ _).alloc (by simp) _, H.out.nw H0.out ((below_new _ _).alloc (by simp) _) _⟩
  | cons t l ih =>
    intro to B n cap n' cap' a a' w h h' hB
    have IH := Lib.hid ih
    clear ih
    have hl := h.len
    rw [Tm.rows_len] at hl
    obtain ⟨b, o, x, ax, nx, capx, rfl, hbB, Hx, x0, x1, x2, x3, GX⟩ := tm_at h 0 (by rw [← hl.1]; simp)
    obtain rfl : t = x := by have := Hx.out; simpa using this
    rw [Nat.zero_mul, Nat.add_zero] at x0 x1 x2 x3
    obtain ⟨m, rfl⟩ : ∃ m, n = m + 1 := ⟨l.length, by rw [← hl.1]; rfl⟩
    have HH := Lib.hid (show Mem (· < B) w (.s 4 (Tm.rows l)) (.slice (some ⟨b, o + 4, none⟩) m (cap - 1)) by
      have := h.drop 1 (by omega); rw [Tm.rows, List.drop_succ_cons, List.drop_zero] at this; exact this)
    have H' := Lib.hid h'
    have H0 := Lib.hid hB
    have hcap := hl.2.1
    have hmx := hl.2.2
    have HL := Lib.hid (show l.length = m by have := hl.1; simpa using this)
    clear hl h h' hB
    have hbw : b < w.heap.size := Nat.lt_of_lt_of_le hbB H0.out
    by_cases hc1 : cap = 1
    · obtain rfl : m = 0 := by omega
      subst hc1
      have HM : Hid (Mem (· < B) w (.s 4 (Tm.rows l)) (.slice (some ⟨b, o, none⟩) 0 0)) := by
        have hl0 : l = [] := List.eq_nil_of_length_eq_zero HL.out
        rw [hl0, Tm.rows]
        exact .e _ _ _ (by omega)
      clear HH
      go_enter Try.func44, Try.ntmps44
      have HB1 := Lib.hid (((below_new w (.cells #[.int .i64 to.kind, .string to.name, .int .i64 to.n, .slice a' n' cap'] 52)).alloc (by simp) (.cells #[.int .i64 0, .string ⟨#[]⟩, .int .i64 0, .slice none 0 0] 52)))
      have HY := Lib.hid (World.size_alloc w (.cells #[.int .i64 to.kind, .string to.name, .int .i64 to.n, .slice a' n' cap'] 52) ▸ Bo.new (w.alloc (.cells #[.int .i64 to.kind, .string to.name, .int .i64 to.n, .slice a' n' cap'] 52)) 52 #[.int .i64 0, .string ⟨#[]⟩, .int .i64 0, .slice none 0 0])
      have HX := Lib.hid ((Bx.new w #[.int .i64 to.kind, .string to.name, .int .i64 to.n, .slice a' n' cap'] 52).alloc (.cells #[.int .i64 0, .string ⟨#[]⟩, .int .i64 0, .slice none 0 0] 52))
      have s0 := cell_below x0 HB1.out
      have r0 := HX.out.2 0 (by simp)
      have r1 := HX.out.2 1 (by simp)
      have r2 := HX.out.2 2 (by simp)
      have r3 := HX.out.2 3 (by simp)
      simp only [List.getElem_cons_succ, List.getElem_cons_zero] at r0 r1 r2 r3
      have s1 := cell_below x1 HB1.out
      have s2 := cell_below x2 HB1.out
      have s3 := cell_below x3 HB1.out
      clear x0 x1 x2 x3
      have H2 := Lib.hid (HB1.out.trans ((below_drew _).mono HB1.out.size))
      go_wp2
      go_region_held3 (fun w' => w'.cell? ⟨b, o, none⟩ = some (.int .i64 t.kind) ∧ w'.cell? ⟨b, o + 1, none⟩ = some (.string t.name) ∧ w'.cell? ⟨b, o + 2, none⟩ = some (.int .i64 t.n) ∧ w'.cell? ⟨b, o + 3, none⟩ = some (.slice ax nx capx) ∧ w'.cell? ⟨w.heap.size, 0, none⟩ = some (.int .i64 to.kind) ∧ w'.cell? ⟨w.heap.size, 1, none⟩ = some (.string to.name) ∧ w'.cell? ⟨w.heap.size, 2, none⟩ = some (.int .i64 to.n) ∧ w'.cell? ⟨w.heap.size, 3, none⟩ = some (.slice a' n' cap'))
        ((repeat' apply And.intro) <;> (repeat (first | with_reducible assumption | with_reducible refine cell_drew ?_ | with_reducible refine cell_alloc _ ?_ | with_reducible refine cell_row_far _ ?_ (by omega) | with_reducible refine cell_below ?_ HB2.out)))
        (first | (go_at_call 44
                  refine (IH.out to B _ _ n' cap' _ a' _ (HM.out.keep (Nat.le_refl _) (H2.out.mono H0.out)) (H'.out.keep (Nat.le_refl _) (H2.out.mono H0.out)) (Nat.le_trans H0.out HB1.out.size)).mono ?_
                  rintro e w2 ⟨a2, n2, cap2, rfl, hb, hm⟩
                  have HB2 := Lib.hid (Below.one hb)
                  have HM2 := Lib.hid hm
                  clear hb hm
                  have HY2 := Lib.hid (HY.out.keep HB2.out)
                  have hwr : Wr w2 (w.heap.size + 1) 52 4 := HY2.out.wr
                  have hz : w.heap.size + 1 < w2.heap.size := HY2.out.lt))
      have HRW := Lib.hid (fun (cs : Array Value) => (HY2.out.alloc (.cells cs 52)).row #[.int .i64 3, .string ⟨#[]⟩, .int .i64 0, .slice (some ⟨w2.heap.size, 0, none⟩) 2 2])
      have HBF := Lib.hid (HB1.out.trans (HB2.out.mono HB1.out.size))
      have HMF := Lib.hid (OwnD.mem (OwnD.built (B := B) (base := w.heap.size + 2) (e := 52) (w := w2) (rs := Tm.rows [t, funT l to]) (css := [[.int .i64 t.kind, .string t.name, .int .i64 t.n, .slice ax nx capx], [.int .i64 (funT l to).kind, .string (funT l to).name, .int .i64 (funT l to).n, .slice a2 n2 cap2]])
        (by
          rw [Tm.rows, Tm.rows, Tm.rows]
          exact .cons ⟨rfl, row_mk t (GX.out.nw H0.out HBF.out _)⟩ (.cons ⟨rfl, row_mk _ (HM2.out.mono (fun b hb => ⟨hb.1.imp id fun h => by rw [show (World.heap _).size = w.heap.size + 2 by simp] at h; exact h, hb.2⟩) fun _ _ => rfl)⟩ .nil)) (by omega) 2 (by rw [Tm.rows_len]; rfl) (by decide) #[.int .i64 t.kind, .string t.name, .int .i64 t.n, .slice ax nx capx, .int .i64 (funT l to).kind, .string (funT l to).name, .int .i64 (funT l to).n, .slice a2 n2 cap2] rfl))
      go_wp2
      refine bodyPost_ret (v := .agg #[.int .i64 3, .string ⟨#[]⟩, .int .i64 0, .slice (some ⟨w2.heap.size, 0, none⟩) 2 2]) (by simp [results, Try.results44, go_sem, (HRW.out _).cell (j := 0) rfl, (HRW.out _).cell (j := 1) rfl, (HRW.out _).cell (j := 2) rfl, (HRW.out _).cell (j := 3) rfl]) rfl ⟨_, _, _, rfl, below_setRow (HBF.out.alloc HBF.out.size _) (by omega) _, ?_⟩
      refine (HMF.out.row _ _ (fun h => by rcases h.1 with h | h <;> have := H0.out <;> omega)).mono (fun b hb => ⟨hb.1.imp id fun h => by omega, by rw [size_setRow]; exact hb.2⟩) fun _ _ => rfl
    · have i1 : (1 : Int) ≤ (m : Int) + 1 := by omega
      have i2 : (m : Int) + 1 ≤ (cap : Int) := by omega
      have HM := HH
      go_enter Try.func44, Try.ntmps44
      have HB1 := Lib.hid (((below_new w (.cells #[.int .i64 to.kind, .string to.name, .int .i64 to.n, .slice a' n' cap'] 52)).alloc (by simp) (.cells #[.int .i64 0, .string ⟨#[]⟩, .int .i64 0, .slice none 0 0] 52)))
      have HY := Lib.hid (World.size_alloc w (.cells #[.int .i64 to.kind, .string to.name, .int .i64 to.n, .slice a' n' cap'] 52) ▸ Bo.new (w.alloc (.cells #[.int .i64 to.kind, .string to.name, .int .i64 to.n, .slice a' n' cap'] 52)) 52 #[.int .i64 0, .string ⟨#[]⟩, .int .i64 0, .slice none 0 0])
      have HX := Lib.hid ((Bx.new w #[.int .i64 to.kind, .string to.name, .int .i64 to.n, .slice a' n' cap'] 52).alloc (.cells #[.int .i64 0, .string ⟨#[]⟩, .int .i64 0, .slice none 0 0] 52))
      have s0 := cell_below x0 HB1.out
      have r0 := HX.out.2 0 (by simp)
      have r1 := HX.out.2 1 (by simp)
      have r2 := HX.out.2 2 (by simp)
      have r3 := HX.out.2 3 (by simp)
      simp only [List.getElem_cons_succ, List.getElem_cons_zero] at r0 r1 r2 r3
      have s1 := cell_below x1 HB1.out
      have s2 := cell_below x2 HB1.out
      have s3 := cell_below x3 HB1.out
      clear x0 x1 x2 x3
      have H2 := Lib.hid (HB1.out.trans ((below_drew _).mono HB1.out.size))
      go_wp2
      go_region_held3 (fun w' => w'.cell? ⟨b, o, none⟩ = some (.int .i64 t.kind) ∧ w'.cell? ⟨b, o + 1, none⟩ = some (.string t.name) ∧ w'.cell? ⟨b, o + 2, none⟩ = some (.int .i64 t.n) ∧ w'.cell? ⟨b, o + 3, none⟩ = some (.slice ax nx capx) ∧ w'.cell? ⟨w.heap.size, 0, none⟩ = some (.int .i64 to.kind) ∧ w'.cell? ⟨w.heap.size, 1, none⟩ = some (.string to.name) ∧ w'.cell? ⟨w.heap.size, 2, none⟩ = some (.int .i64 to.n) ∧ w'.cell? ⟨w.heap.size, 3, none⟩ = some (.slice a' n' cap'))
        ((repeat' apply And.intro) <;> (repeat (first | with_reducible assumption | with_reducible refine cell_drew ?_ | with_reducible refine cell_alloc _ ?_ | with_reducible refine cell_row_far _ ?_ (by omega) | with_reducible refine cell_below ?_ HB2.out)))
        (first | (go_at_call 44
                  refine (IH.out to B _ _ n' cap' _ a' _ (HM.out.keep (Nat.le_refl _) (H2.out.mono H0.out)) (H'.out.keep (Nat.le_refl _) (H2.out.mono H0.out)) (Nat.le_trans H0.out HB1.out.size)).mono ?_
                  rintro e w2 ⟨a2, n2, cap2, rfl, hb, hm⟩
                  have HB2 := Lib.hid (Below.one hb)
                  have HM2 := Lib.hid hm
                  clear hb hm
                  have HY2 := Lib.hid (HY.out.keep HB2.out)
                  have hwr : Wr w2 (w.heap.size + 1) 52 4 := HY2.out.wr
                  have hz : w.heap.size + 1 < w2.heap.size := HY2.out.lt))
      have HRW := Lib.hid (fun (cs : Array Value) => (HY2.out.alloc (.cells cs 52)).row #[.int .i64 3, .string ⟨#[]⟩, .int .i64 0, .slice (some ⟨w2.heap.size, 0, none⟩) 2 2])
      have HBF := Lib.hid (HB1.out.trans (HB2.out.mono HB1.out.size))
      have HMF := Lib.hid (OwnD.mem (OwnD.built (B := B) (base := w.heap.size + 2) (e := 52) (w := w2) (rs := Tm.rows [t, funT l to]) (css := [[.int .i64 t.kind, .string t.name, .int .i64 t.n, .slice ax nx capx], [.int .i64 (funT l to).kind, .string (funT l to).name, .int .i64 (funT l to).n, .slice a2 n2 cap2]])
        (by
          rw [Tm.rows, Tm.rows, Tm.rows]
          exact .cons ⟨rfl, row_mk t (GX.out.nw H0.out HBF.out _)⟩ (.cons ⟨rfl, row_mk _ (HM2.out.mono (fun b hb => ⟨hb.1.imp id fun h => by rw [show (World.heap _).size = w.heap.size + 2 by simp] at h; exact h, hb.2⟩) fun _ _ => rfl)⟩ .nil)) (by omega) 2 (by rw [Tm.rows_len]; rfl) (by decide) #[.int .i64 t.kind, .string t.name, .int .i64 t.n, .slice ax nx capx, .int .i64 (funT l to).kind, .string (funT l to).name, .int .i64 (funT l to).n, .slice a2 n2 cap2] rfl))
      go_wp2
      refine bodyPost_ret (v := .agg #[.int .i64 3, .string ⟨#[]⟩, .int .i64 0, .slice (some ⟨w2.heap.size, 0, none⟩) 2 2]) (by simp [results, Try.results44, go_sem, (HRW.out _).cell (j := 0) rfl, (HRW.out _).cell (j := 1) rfl, (HRW.out _).cell (j := 2) rfl, (HRW.out _).cell (j := 3) rfl]) rfl ⟨_, _, _, rfl, below_setRow (HBF.out.alloc HBF.out.size _) (by omega) _, ?_⟩
      refine (HMF.out.row _ _ (fun h => by rcases h.1 with h | h <;> have := H0.out <;> omega)).mono (fun b hb => ⟨hb.1.imp id fun h => by omega, by rw [size_setRow]; exact hb.2⟩) fun _ _ => rfl

/-- Two types, written down as a slice of two, beside a box that is written. -/
theorem two_mem {B q0 : Nat} {w : World} (t u : Tm) {a a' : Option Addr} {n n' cap cap' : Nat} (e : TypeId) (h : Mem (Nw B q0 w.heap.size) w (.s 4 (Tm.rows t.args)) (.slice a n cap)) (h' : Mem (Nw B q0 w.heap.size) w (.s 4 (Tm.rows u.args)) (.slice a' n' cap')) (hb : q0 ≤ w.heap.size) :
    Mem (Nw B q0 (w.heap.size + 1)) (w.alloc (.cells #[.int .i64 t.kind, .string t.name, .int .i64 t.n, .slice a n cap, .int .i64 u.kind, .string u.name, .int .i64 u.n, .slice a' n' cap'] e)) (.s 4 (Tm.rows [t, u])) (.slice (some ⟨w.heap.size, 0, none⟩) 2 2) := by
  have := OwnD.mem (OwnD.built (B := B) (base := q0) (e := e) (w := w) (rs := Tm.rows [t, u]) (css := [[.int .i64 t.kind, .string t.name, .int .i64 t.n, .slice a n cap], [.int .i64 u.kind, .string u.name, .int .i64 u.n, .slice a' n' cap']])
      (by rw [Tm.rows, Tm.rows, Tm.rows]; exact .cons ⟨rfl, row_mk t h⟩ (.cons ⟨rfl, row_mk u h'⟩ .nil)) hb 2 (by rw [Tm.rows_len]; rfl) (by decide) #[.int .i64 t.kind, .string t.name, .int .i64 t.n, .slice a n cap, .int .i64 u.kind, .string u.name, .int .i64 u.n, .slice a' n' cap'] rfl)
  rw [World.size_alloc] at this
  exact this

theorem funT_drop (l : List Tm) (to : Tm) (j : Nat) (x : Tm) (h : l[j]? = some x) : funT (l.drop j) to = .mk 3 ⟨#[]⟩ 0 [x, funT (l.drop (j + 1)) to] := by
  obtain ⟨hj, rfl⟩ := List.getElem?_eq_some_iff.1 h
  rw [List.drop_eq_getElem_cons hj, funT]

set_option maxRecDepth 100000 in
set_option maxHeartbeats 2000000 in
theorem fun_any {l : List Tm} {to : Tm} {B n cap n' cap' : Nat} {a a' : Option Addr} {w : World} (h : Mem (· < B) w (.s 4 (Tm.rows l)) (.slice a n cap)) (h' : Mem (· < B) w (.s 4 (Tm.rows to.args)) (.slice a' n' cap')) (hB : B ≤ w.heap.size) :
    Calls Try.prog 41 #[.slice a n cap, .agg #[.int .i64 to.kind, .string to.name, .int .i64 to.n, .slice a' n' cap']] w (GivesT B (funT l to) w) := by
  have hl := h.len
  rw [Tm.rows_len] at hl
  have HL := Lib.hid hl.1
  have hcap := hl.2.1
  have hmx := hl.2.2
  have H := Lib.hid h
  have H' := Lib.hid h'
  have H0 := Lib.hid hB
  clear hl h h' hB
  go_enter Try.func41, Try.ntmps41
  go_wp2
  go_loopw [5] (fun i wr => ∃ (k : Nat) (z : Int), k ≤ n ∧ z = (k : Int) - 1 ∧ i = .int .i64 z ∧ Hid (Below w.heap.size w wr) ∧ Hid (∃ a1 n1 c1, Bo wr w.heap.size 52 #[.int .i64 (funT (l.drop k) to).kind, .string (funT (l.drop k) to).name, .int .i64 (funT (l.drop k) to).n, .slice a1 n1 c1] ∧ Mem (Nw B (w.heap.size + 2) wr.heap.size) wr (.s 4 (Tm.rows (funT (l.drop k) to).args)) (.slice a1 n1 c1)) ∧ Hid (Bo wr (w.heap.size + 1) 52 #[.int .i64 0, .string ⟨#[]⟩, .int .i64 0, .slice none 0 0])) (fun i _ => (intOf i + 1).toNat)
  case atStart =>
    refine ⟨n, (n : Int) - 1, Nat.le_refl _, rfl, rfl, (below_new _ _).alloc (by simp) _, ?_, ?_⟩
    · rw [List.drop_of_length_le (by rw [HL.out]; exact Nat.le_refl _)]
      exact ⟨a', n', cap', (Bo.new _ _ _).alloc _, H'.out.nw H0.out ((below_new _ _).alloc (by simp) _) _⟩
    · exact World.size_alloc w _ ▸ Bo.new _ _ _
  case round =>
    obtain ⟨k, z, hk, hz, rfl, HB, HT, HY⟩ := hrel
    cases k with
    | zero =>
      obtain rfl : z = -1 := by omega
      obtain ⟨a1, n1, c1, hbo, hm⟩ := HT.out
      rw [List.drop_zero] at hbo hm
      have HBo := Lib.hid hbo
      have HM := Lib.hid hm
      obtain ⟨g0, g1, g2, g3⟩ := hbo.c4
      have hwr : Wr wr (w.heap.size + 1) 52 4 := HY.out.wr
      clear hbo hm hz hk
      have HR := Lib.hid (HY.out.row #[.int .i64 (funT l to).kind, .string (funT l to).name, .int .i64 (funT l to).n, .slice a1 n1 c1])
      go_wp2
      refine bodyPost_ret (v := .agg #[.int .i64 (funT l to).kind, .string (funT l to).name, .int .i64 (funT l to).n, .slice a1 n1 c1]) (by simp [results, Try.results41, go_sem, HR.out.c4]) rfl ⟨_, _, _, rfl, below_setRow HB.out (by omega) _, ?_⟩
      have hlt := HY.out.lt
      exact (HM.out.row _ _ (fun h => by rcases h.1 with h | h <;> have := H0.out <;> omega)).mono (fun b hb => ⟨hb.1.imp id fun h => by omega, by rw [size_setRow]; exact hb.2⟩) fun _ _ => rfl
    | succ j =>
      obtain rfl : z = (j : Int) := by omega
      obtain ⟨a1, n1, c1, hbo, hm⟩ := HT.out
      obtain ⟨b, o, x, ax, nx, capx, rfl, hbB, Hx, x0, x1, x2, x3, GX⟩ := tm_at (H.out.keep (Nat.le_refl _) (HB.out.mono H0.out)) j (by omega)
      have HF := Lib.hid (funT_drop l to j x Hx.out)
      have HBo := Lib.hid hbo
      have HM := Lib.hid hm
      generalize funT (l.drop (j + 1)) to = u at *
      obtain ⟨g0, g1, g2, g3⟩ := hbo.c4
      have hwr : Wr wr w.heap.size 52 4 := HBo.out.wr
      have hj1 : (j : Int) < n := by omega
      have hj0 : (0 : Int) ≤ (j : Int) := by omega
      clear hbo hm hz hk HT
      go_wp2
      go_still_tail 5, (by kernel_rfl)
      change wpList _ _ _ _ _ wr.drew
      go_wp2
      go_roundw
      case rel =>
        have hlt := HY.out.lt
        refine ⟨j, (j : Int) - 1, by omega, rfl, rfl, below_drewN (below_setRow (HB.out.alloc HB.out.size _) (Nat.le_refl _) _) 1, ⟨some ⟨wr.heap.size, 0, none⟩, 2, 2, ?_, ?_⟩, ?_⟩
        · rw [HF.out]
          exact (HBo.out.alloc _).row _
        · rw [HF.out]
          have h1 : Mem (Nw B (w.heap.size + 2) wr.heap.size) wr (.s 4 (Tm.rows x.args)) (.slice ax nx capx) := GX.out.mono (fun b hb => ⟨.inl hb, by have := H0.out; omega⟩) fun _ _ => rfl
          have h2 := two_mem x u 52 h1 HM.out (by omega)
          exact (h2.row w.heap.size #[.int .i64 3, .string ⟨#[]⟩, .int .i64 0, .slice (some ⟨wr.heap.size, 0, none⟩) 2 2] (fun h => by rcases h.1 with h | h <;> have := H0.out <;> omega)).mono (fun b hb => ⟨hb.1, by rw [size_setRow]; show b < (World.alloc _ _).heap.size; rw [World.size_alloc]; exact hb.2⟩) fun _ _ => rfl
        · exact (HY.out.alloc _).rowFar _ (show w.heap.size + 1 ≠ w.heap.size by omega)
      case measure => simp [intOf]
end Go.Proofs.Ytemkpecagflafaa
