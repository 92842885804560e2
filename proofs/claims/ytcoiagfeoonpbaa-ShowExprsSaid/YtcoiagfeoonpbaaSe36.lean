/-
  slices.EqualFunc at what a module holds: where each pair is alike, all are. No condition but how they lie.
-/
import Derived.Test.YtcoiagfeoonpbaaSe34
import Derived.Test.YtcoiagfeoonpbaaSe35
namespace Go.Proofs.Ytcoiagfeoonpbaa
open Go.RowKit
theorem all2_at {α β : Type} {R : α → β → Prop} : ∀ {l : List α} {m : List β} (_ : All2 R l m) {k : Nat} {x : α} {y : β} (_ : l[k]? = some x) (_ : m[k]? = some y), R x y
  | _, _, .nil, k, x, y, h, _ => by simp at h
  | _, _, .cons h t, 0, x, y, hx, hy => by simp at hx hy; subst hx; subst hy; exact h
  | _, _, .cons _ t, k + 1, x, y, hx, hy => all2_at t (by simpa using hx) (by simpa using hy)
theorem MemW.keepB {x : At} {y : Value} {w w' : World} (h : MemW w x y) (hb : Below w.heap.size w w') : MemW w' x y := h.keep hb
section
variable {S : Nat → Prop} {w : World} {a : Option Addr} {m c : Nat}
theorem ex_atT {l : List Ex} (h : Mem S w (.s 6 (Ex.rows l)) (.slice a m c)) (i : Nat) (hi : i < l.length) :
    ∃ b o x a1 m1 c1, a = some ⟨b, o, none⟩ ∧ S b ∧ Hid (l[i]? = some x) ∧ w.cell? ⟨b, o + i * 6, none⟩ = some (.int .i64 x.kind) ∧ w.cell? ⟨b, o + i * 6 + 1, none⟩ = some (.string x.name) ∧ w.cell? ⟨b, o + i * 6 + 2, none⟩ = some (.int .i64 x.n) ∧ w.cell? ⟨b, o + i * 6 + 3, none⟩ = some (.slice a1 m1 c1) ∧ w.cell? ⟨b, o + i * 6 + 4, none⟩ = some (.int .i64 x.line) ∧ w.cell? ⟨b, o + i * 6 + 5, none⟩ = some (.int .i64 x.col) ∧ Mem S w (.s 6 (Ex.rows x.args)) (.slice a1 m1 c1) := ex_atS h i hi
theorem tm_atT {l : List Tm} (h : MemW w (.s 4 (Tm.rows l)) (.slice a m c)) (i : Nat) (hi : i < l.length) :
    ∃ b o x a1 m1 c1, a = some ⟨b, o, none⟩ ∧ b < w.heap.size ∧ Hid (l[i]? = some x) ∧ w.cell? ⟨b, o + i * 4, none⟩ = some (.int .i64 x.kind) ∧ w.cell? ⟨b, o + i * 4 + 1, none⟩ = some (.string x.name) ∧ w.cell? ⟨b, o + i * 4 + 2, none⟩ = some (.int .i64 x.n) ∧ w.cell? ⟨b, o + i * 4 + 3, none⟩ = some (.slice a1 m1 c1) ∧ MemW w (.s 4 (Tm.rows x.args)) (.slice a1 m1 c1) := by
  obtain ⟨b, o, x, a1, m1, c1, g0, g1, g2, g3, g4, g5, g6, g7⟩ := Tms.at (show Tms w l a m c from h) i (by have h1 := (Tms.len (show Tms w l a m c from h)).1; omega)
  exact ⟨b, o, x, a1, m1, c1, g0, g1, g2, g3, g4, g5, g6, g7.out⟩
end
def TmS (x y : Tm) : Prop := x = y
set_option maxRecDepth 100000 in
set_option maxHeartbeats 20000000 in
theorem eqE {l1 l2 : List Ex} (hR : All2 (SamE false) l1 l2)
    (IH : ∀ x y, x ∈ l1 → (SamE false) x y → ∀ (px0 : Option Addr) (nx0 kx0 : Nat) (py0 : Option Addr) (ny0 ky0 : Nat) (w : World), MemW w (.s 6 (Ex.rows x.args)) (.slice px0 nx0 kx0) → MemW w (.s 6 (Ex.rows y.args)) (.slice py0 ny0 ky0) → Calls Try.prog 10 #[.agg #[.int .i64 x.kind, .string x.name, .int .i64 x.n, .slice px0 nx0 kx0, .int .i64 x.line, .int .i64 x.col], .agg #[.int .i64 y.kind, .string y.name, .int .i64 y.n, .slice py0 ny0 ky0, .int .i64 y.line, .int .i64 y.col]] w fun e w' => e = .returned (.bool true) ∧ Below w.heap.size w w')
    {a1 a2 : Option Addr} {n1 n2 c1 c2 : Nat} (w : World) (h1 : MemW w (.s 6 (Ex.rows l1)) (.slice a1 n1 c1)) (h2 : MemW w (.s 6 (Ex.rows l2)) (.slice a2 n2 c2)) :
    Calls Try.prog 32 #[.slice a1 n1 c1, .slice a2 n2 c2, .func (.func 10) #[] #[]] w fun e w' => e = .returned (.bool true) ∧ Below w.heap.size w w' := by
  have l1' := h1.len
  have l2' := h2.len
  have HI := Lib.hid IH
  have HR := Lib.hid hR
  have H1 := Lib.hid h1
  have H2 := Lib.hid h2
  have L1 : Hid (l1.length = n1) := Lib.hid (by have h := l1'.1; rw [Ex.rows_len] at h; exact h)
  have L2 : Hid (l2.length = n2) := Lib.hid (by have h := l2'.1; rw [Ex.rows_len] at h; exact h)
  have k1 := l1'.2.1
  have k2 := l1'.2.2
  have k3 := l2'.2.1
  have k4 := l2'.2.2
  obtain rfl : n1 = n2 := by have := hR.len; have := L1.out; have := L2.out; omega
  clear h1 h2 l1' l2' IH hR
  go_enter Try.func32, Try.ntmps32
  go_wp2
  go_loopw [7, 17] (fun _ i wr => ∃ k : Nat, k ≤ n1 ∧ i = .int .i64 k ∧ Hid (Below w.heap.size w wr)) (fun _ i _ => n1 - (intOf i).toNat)
  case atStart => exact ⟨0, Nat.zero_le _, rfl, Lib.hid (Below.refl _ _)⟩
  case round =>
    obtain ⟨k, hk, rfl, HB⟩ := hrel
    by_cases hlt : k < n1
    · have hltz : (k : Int) < (n1 : Int) := by omega
      obtain ⟨b1, o1, x, px0, nx0, kx0, rfl, bx, HX, x0, x1, x2, x3, x4, x5, gx0⟩ := ex_atT (MemW.keepB H1.out HB.out) k (by have := L1.out; omega)
      obtain ⟨b2, o2, y, py0, ny0, ky0, rfl, by', HY, y0, y1, y2, y3, y4, y5, gy0⟩ := ex_atT (MemW.keepB H2.out HB.out) k (by have := L2.out; omega)
      have HC := Lib.hid (HI.out x y (mem_of_at HX.out) (all2_at HR.out HX.out HY.out) px0 nx0 kx0 py0 ny0 ky0 ((wr.alloc (.cells #[.int .i64 x.kind, .string x.name, .int .i64 x.n, .slice px0 nx0 kx0, .int .i64 x.line, .int .i64 x.col] 27)).alloc (.cells #[.int .i64 y.kind, .string y.name, .int .i64 y.n, .slice py0 ny0 ky0, .int .i64 y.line, .int .i64 y.col] 27)) (MemW.alloc (MemW.alloc gx0 _) _) (MemW.alloc (MemW.alloc gy0 _) _))
      have bn1 : b1 ≠ wr.heap.size := Nat.ne_of_lt bx
      have bn2 : b2 ≠ wr.heap.size := Nat.ne_of_lt by'
      have HBA := Lib.hid ((below_new wr (.cells #[.int .i64 x.kind, .string x.name, .int .i64 x.n, .slice px0 nx0 kx0, .int .i64 x.line, .int .i64 x.col] 27)).alloc (below_new wr (.cells #[.int .i64 x.kind, .string x.name, .int .i64 x.n, .slice px0 nx0 kx0, .int .i64 x.line, .int .i64 x.col] 27)).size (.cells #[.int .i64 y.kind, .string y.name, .int .i64 y.n, .slice py0 ny0 ky0, .int .i64 y.line, .int .i64 y.col] 27))
      clear gx0 gy0
      go_wp2_with (fail)
      refine HC.out.mono ?_
      rintro e w4 ⟨rfl, hb4⟩
      have HB4 := Lib.hid (HB.out.trans (((HBA.out).trans (hb4.mono HBA.out.size)).mono HB.out.size))
      clear hb4
      go_wp2_with (fail)
      go_roundw
      case rel => exact ⟨k + 1, by omega, by go_num, HB4⟩
      case measure => simp [intOf]; omega
    · obtain rfl : k = n1 := by omega
      have hltz : ¬ (k : Int) < (k : Int) := by omega
      go_wp2
      go_ret
      exact ⟨rfl, HB.out⟩
set_option maxRecDepth 100000 in
set_option maxHeartbeats 20000000 in
theorem eqT {l1 l2 : List Tm} (hR : All2 TmS l1 l2)
    (IH : ∀ x y, x ∈ l1 → TmS x y → ∀ (px0 : Option Addr) (nx0 kx0 : Nat) (py0 : Option Addr) (ny0 ky0 : Nat) (w : World), MemW w (.s 4 (Tm.rows x.args)) (.slice px0 nx0 kx0) → MemW w (.s 4 (Tm.rows y.args)) (.slice py0 ny0 ky0) → Calls Try.prog 15 #[.agg #[.int .i64 x.kind, .string x.name, .int .i64 x.n, .slice px0 nx0 kx0], .agg #[.int .i64 y.kind, .string y.name, .int .i64 y.n, .slice py0 ny0 ky0]] w fun e w' => e = .returned (.bool true) ∧ Below w.heap.size w w')
    {a1 a2 : Option Addr} {n1 n2 c1 c2 : Nat} (w : World) (h1 : MemW w (.s 4 (Tm.rows l1)) (.slice a1 n1 c1)) (h2 : MemW w (.s 4 (Tm.rows l2)) (.slice a2 n2 c2)) :
    Calls Try.prog 36 #[.slice a1 n1 c1, .slice a2 n2 c2, .func (.func 15) #[] #[]] w fun e w' => e = .returned (.bool true) ∧ Below w.heap.size w w' := by
  have l1' := h1.len
  have l2' := h2.len
  have HI := Lib.hid IH
  have HR := Lib.hid hR
  have H1 := Lib.hid h1
  have H2 := Lib.hid h2
  have L1 : Hid (l1.length = n1) := Lib.hid (by have h := l1'.1; rw [Tm.rows_len] at h; exact h)
  have L2 : Hid (l2.length = n2) := Lib.hid (by have h := l2'.1; rw [Tm.rows_len] at h; exact h)
  have k1 := l1'.2.1
  have k2 := l1'.2.2
  have k3 := l2'.2.1
  have k4 := l2'.2.2
  obtain rfl : n1 = n2 := by have := hR.len; have := L1.out; have := L2.out; omega
  clear h1 h2 l1' l2' IH hR
  go_enter Try.func36, Try.ntmps36
  go_wp2
  go_loopw [7, 17] (fun _ i wr => ∃ k : Nat, k ≤ n1 ∧ i = .int .i64 k ∧ Hid (Below w.heap.size w wr)) (fun _ i _ => n1 - (intOf i).toNat)
  case atStart => exact ⟨0, Nat.zero_le _, rfl, Lib.hid (Below.refl _ _)⟩
  case round =>
    obtain ⟨k, hk, rfl, HB⟩ := hrel
    by_cases hlt : k < n1
    · have hltz : (k : Int) < (n1 : Int) := by omega
      obtain ⟨b1, o1, x, px0, nx0, kx0, rfl, bx, HX, x0, x1, x2, x3, gx0⟩ := tm_atT (MemW.keepB H1.out HB.out) k (by have := L1.out; omega)
      obtain ⟨b2, o2, y, py0, ny0, ky0, rfl, by', HY, y0, y1, y2, y3, gy0⟩ := tm_atT (MemW.keepB H2.out HB.out) k (by have := L2.out; omega)
      have HC := Lib.hid (HI.out x y (mem_of_at HX.out) (all2_at HR.out HX.out HY.out) px0 nx0 kx0 py0 ny0 ky0 ((wr.alloc (.cells #[.int .i64 x.kind, .string x.name, .int .i64 x.n, .slice px0 nx0 kx0] 39)).alloc (.cells #[.int .i64 y.kind, .string y.name, .int .i64 y.n, .slice py0 ny0 ky0] 39)) (MemW.alloc (MemW.alloc gx0 _) _) (MemW.alloc (MemW.alloc gy0 _) _))
      have bn1 : b1 ≠ wr.heap.size := Nat.ne_of_lt bx
      have bn2 : b2 ≠ wr.heap.size := Nat.ne_of_lt by'
      have HBA := Lib.hid ((below_new wr (.cells #[.int .i64 x.kind, .string x.name, .int .i64 x.n, .slice px0 nx0 kx0] 39)).alloc (below_new wr (.cells #[.int .i64 x.kind, .string x.name, .int .i64 x.n, .slice px0 nx0 kx0] 39)).size (.cells #[.int .i64 y.kind, .string y.name, .int .i64 y.n, .slice py0 ny0 ky0] 39))
      clear gx0 gy0
      go_wp2_with (fail)
      refine HC.out.mono ?_
      rintro e w4 ⟨rfl, hb4⟩
      have HB4 := Lib.hid (HB.out.trans (((HBA.out).trans (hb4.mono HBA.out.size)).mono HB.out.size))
      clear hb4
      go_wp2_with (fail)
      go_roundw
      case rel => exact ⟨k + 1, by omega, by go_num, HB4⟩
      case measure => simp [intOf]; omega
    · obtain rfl : k = n1 := by omega
      have hltz : ¬ (k : Int) < (k : Int) := by omega
      go_wp2
      go_ret
      exact ⟨rfl, HB.out⟩
end Go.Proofs.Ytcoiagfeoonpbaa

/-
  ast.Same, module.SameType: true on what is alike. No condition but how they lie.
-/
namespace Go.Proofs.Ytcoiagfeoonpbaa
open Go.RowKit
theorem all2_of {α β : Type} {R : α → β → Prop} : ∀ (l : List α) (m : List β), l.length = m.length → (∀ i (h1 : i < l.length) (h2 : i < m.length), R l[i] m[i]) → All2 R l m
  | [], [], _, _ => .nil
  | [], _ :: _, h, _ => by simp at h
  | _ :: _, [], h, _ => by simp at h
  | x :: l, y :: m, h, g => .cons (g 0 (by simp) (by simp)) (all2_of l m (by simpa using h) fun i h1 h2 => by have := g (i + 1) (by simp; omega) (by simp; omega); simpa using this)
attribute [local go_sem] toList_beq
set_option maxRecDepth 100000 in
set_option maxHeartbeats 20000000 in
theorem same_ast (m : Nat) : ∀ (x y : Ex), SizeOf.sizeOf x ≤ m → SamE false x y → ∀ (a : Option Addr) (n c : Nat) (a' : Option Addr) (n' c' : Nat) (w : World), MemW w (.s 6 (Ex.rows x.args)) (.slice a n c) → MemW w (.s 6 (Ex.rows y.args)) (.slice a' n' c') →
    Calls Try.prog 10 #[.agg #[.int .i64 x.kind, .string x.name, .int .i64 x.n, .slice a n c, .int .i64 x.line, .int .i64 x.col], .agg #[.int .i64 y.kind, .string y.name, .int .i64 y.n, .slice a' n' c', .int .i64 y.line, .int .i64 y.col]] w fun e w' => e = .returned (.bool true) ∧ Below w.heap.size w w' := by
  induction m with
  | zero => intro x y h; cases x; simp at h
  | succ m ih =>
  intro x y hm hs a n c a' n' c' w h1 h2
  cases hs with
  | mk k s nn xs ys l co l' co' hl ha hp =>
  have HE := Lib.hid (fun (w2 : World) (g1 : MemW w2 (.s 6 (Ex.rows xs)) (.slice a n c)) (g2 : MemW w2 (.s 6 (Ex.rows ys)) (.slice a' n' c')) => eqE (all2_of xs ys hl ha) (fun x y hx hr => ih x y (by have h3 := List.sizeOf_lt_of_mem hx; simp at hm; omega) hr) w2 g1 g2)
  have H1 : Hid (MemW w (.s 6 (Ex.rows xs)) (.slice a n c)) := Lib.hid h1
  have H2 : Hid (MemW w (.s 6 (Ex.rows ys)) (.slice a' n' c')) := Lib.hid h2
  clear ih hm ha hp h1 h2 hl
  simp only [Ex.kind, Ex.name, Ex.n, Ex.line, Ex.col]
  go_enter Try.func10, Try.ntmps10
  go_wp2_with (fail)
  have HB := Lib.hid ((below_new w (.cells #[.int .i64 k, .string s, .int .i64 nn, .slice a n c, .int .i64 l, .int .i64 co] 27)).alloc (by rw [World.size_alloc]; omega) (.cells #[.int .i64 k, .string s, .int .i64 nn, .slice a' n' c', .int .i64 l', .int .i64 co'] 27))
  refine (HE.out _ (H1.out.keep HB.out) (H2.out.keep HB.out)).mono ?_
  rintro e w4 ⟨rfl, hb4⟩
  have HB4 := Lib.hid (HB.out.trans (hb4.mono HB.out.size))
  clear hb4
  go_wp2_with (fail)
  go_ret
  exact ⟨rfl, HB4.out⟩
end Go.Proofs.Ytcoiagfeoonpbaa
