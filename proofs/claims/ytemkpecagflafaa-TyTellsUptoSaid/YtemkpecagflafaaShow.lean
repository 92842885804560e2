/-
  Show of a type: as a text. No condition but how it lies, and how long its names are.
-/
import Derived.Test.YtemkpecagflafaaSames
import Derived.Test.YtemkpecagflafaaOpenTm
import Derived.Test.YtemkpecagflafaaRev
import Derived.StillTailTactics
import Derived.Deep.RegionHeld3
namespace Go.Proofs.Ytemkpecagflafaa
open Go.RowKit
attribute [local go_sem] toList_beq conv_one

def brk (is : Bool) (s : ByteArray) : ByteArray := if is then ⟨#[40]⟩ ++ s ++ ⟨#[41]⟩ else s
/-- Whether a type stands in brackets as an argument. -/
def tightT (t : Tm) : Bool := t.kind == 3 || t.kind == 2 && 0 < t.args.length
def digB (n : Int) : ByteArray := ⟨(digs n).toArray⟩
mutual
/-- A type as a text. -/
def showT : Tm → ByteArray
  | .mk k s n ts => if k = 1 then (if 0 ≤ n ∧ n < 26 then ⟨#[UInt8.ofNat (97 + n).toNat]⟩ else ⟨#[116]⟩ ++ digB n) else if k = 2 then s ++ showArgs ts else if k = 3 ∧ ts.length = 2 then showFun ts else ⟨#[63]⟩
def showArgs : List Tm → ByteArray
  | [] => ⟨#[]⟩
  | t :: ts => ⟨#[32]⟩ ++ brk (tightT t) (showT t) ++ showArgs ts
def showFun : List Tm → ByteArray
  | [] => ⟨#[]⟩
  | t :: ts => brk (t.kind == 3) (showT t) ++ showTo ts
def showTo : List Tm → ByteArray
  | [] => ⟨#[]⟩
  | t :: _ => ⟨#[32, 45, 62, 32]⟩ ++ showT t
end

set_option maxRecDepth 100000 in
set_option maxHeartbeats 2000000 in
theorem brackets_any (is : Bool) (s : ByteArray) (w : World) (hs : (s.size : Int) ≤ 1000000000) : Calls Try.prog 98 #[.bool is, .string s] w fun e w' => e = .returned (.string (brk is s)) ∧ w = w' := by
  cases is
  · go_enter Try.func98, Try.ntmps98
    go_wp2
    go_ret
    exact ⟨rfl, rfl⟩
  · go_enter Try.func98, Try.ntmps98
    go_wp2
    go_ret
    exact ⟨rfl, rfl⟩

set_option maxRecDepth 100000 in
set_option maxHeartbeats 2000000 in
theorem show_letter {t : Tm} {n cap : Nat} {a : Option Addr} (w : World) (hk : t.kind = 1) (h0 : 0 ≤ t.n) (h1 : t.n < 26) :
    Calls Try.prog 53 #[.agg #[.int .i64 t.kind, .string t.name, .int .i64 t.n, .slice a n cap]] w fun e w' => e = .returned (.string (showT t)) ∧ Below w.heap.size w w' := by
  have HF : Hid (showT t = ⟨#[UInt8.ofNat (97 + t.n).toNat]⟩) := Lib.hid (by rw [← t.eta, showT, if_pos hk, if_pos ⟨h0, h1⟩]; rfl)
  have e1 : (t.kind == 1) = true := by rw [beq_iff_eq]; exact hk
  clear hk
  generalize t.n = m at *
  generalize showT t = s at *
  have hconv := conv_one (w.alloc (.cells #[.int .i64 t.kind, .string t.name, .int .i64 m, .slice a n cap] 52)) (97 + m)
  rw [World.size_alloc] at hconv
  go_enter Try.func53, Try.ntmps53
  go_wp2
  go_ret
  exact ⟨ret_str (by rw [HF.out]), (below_new _ _).alloc (by simp) _⟩

/-- What is known of Show at a type. -/
def ShowAt (x : Tm) : Prop := ∀ (w : World) (a : Option Addr) (n cap : Nat), MemW w (.s 4 (Tm.rows x.args)) (.slice a n cap) →
  Calls Try.prog 53 #[.agg #[.int .i64 x.kind, .string x.name, .int .i64 x.n, .slice a n cap]] w fun e w' => e = .returned (.string (showT x)) ∧ Below w.heap.size w w'

theorem brk_size (is : Bool) (s : ByteArray) : (brk is s).size ≤ s.size + 2 := by
  cases is
  · simp [brk]
  · simp [brk, ByteArray.size_append]; show 1 + s.size + 1 ≤ _; omega
set_option maxRecDepth 100000 in
set_option maxHeartbeats 2000000 in
theorem show_fun {t x y : Tm} {n cap : Nat} {a : Option Addr} (w : World) (hk : t.kind = 3) (ha : t.args = [x, y]) (h : MemW w (.s 4 (Tm.rows t.args)) (.slice a n cap)) (hx : ShowAt x) (hy : ShowAt y) (sx : (showT x).size ≤ 100000000) (sy : (showT y).size ≤ 100000000) :
    Calls Try.prog 53 #[.agg #[.int .i64 t.kind, .string t.name, .int .i64 t.n, .slice a n cap]] w fun e w' => e = .returned (.string (showT t)) ∧ Below w.heap.size w w' := by
  have HF : Hid (showT t = brk (x.kind == 3) (showT x) ++ (⟨#[32, 45, 62, 32]⟩ ++ showT y)) := Lib.hid (by rw [← t.eta, showT, hk, ha, if_neg (by decide), if_neg (by decide), if_pos ⟨rfl, rfl⟩, showFun, showTo])
  have e1 : (t.kind == 1) = false := by rw [hk]; rfl
  have e2 : (t.kind == 2) = false := by rw [hk]; rfl
  have e3 : (t.kind == 3) = true := by rw [hk]; rfl
  rw [ha] at h
  obtain rfl : n = 2 := (Tms.len h).1.symm
  obtain ⟨b, o, x', ax, nx, capx, rfl, hbB, Hx, x0, x1, x2, x3, GX⟩ := tm_at h 0 (by omega)
  obtain rfl : x = x' := by have := Hx.out; simpa using this
  obtain ⟨b', o', y', ay, ny, capy, e', hbB', Hy, y0, y1, y2, y3, GY⟩ := tm_at h 1 (by omega)
  cases e'
  obtain rfl : y = y' := by have := Hy.out; simpa using this
  rw [Nat.zero_mul, Nat.add_zero] at x0 x1 x2 x3
  rw [Nat.one_mul] at y0 y1 y2 y3
  have SX := Lib.hid hx
  have SY := Lib.hid hy
  have hzb := brk_size (x.kind == 3) (showT x)
  have HBx := Lib.hid (fun (w : World) => brackets_any (x.kind == 3) (showT x) w (by omega))
  have hcap := (Tms.len h).2
  clear hk ha hx hy h Hx Hy
  generalize hc : (x.kind == 3) = c at *
  generalize hbk : brk c (showT x) = bxx at *
  have iz1 : (bxx.size : Int) ≤ 1000000000 := by omega
  have iz2 : ((showT y).size : Int) ≤ 1000000000 := by omega
  have iz3 : ((showT x).size : Int) ≤ 1000000000 := by omega
  have iq1 : ¬ (9223372036854775807 < bxx.size + 4) := by omega
  have iq2 : ¬ (9223372036854775807 < bxx.size + 4 + (showT y).size) := by omega
  clear hbk hzb sx sy
  generalize showT t = s at *
  have HW := Lib.hid (below_new w (.cells #[.int .i64 t.kind, .string t.name, .int .i64 t.n, .slice (some ⟨b, o, none⟩) 2 cap] 52))
  have HX := Lib.hid (Bo.new w 52 #[.int .i64 t.kind, .string t.name, .int .i64 t.n, .slice (some ⟨b, o, none⟩) 2 cap]).c4
  have g3 := HX.out.2.2.2
  have tok1 : True := trivial
  have p0 := cell_below x0 HW.out
  have p1 := cell_below x1 HW.out
  have p2 := cell_below x2 HW.out
  have p3 := cell_below x3 HW.out
  have r0 := cell_below y0 HW.out
  have r1 := cell_below y1 HW.out
  have r2 := cell_below y2 HW.out
  have r3 := cell_below y3 HW.out
  clear x0 x1 x2 x3 y0 y1 y2 y3
  go_enter Try.func53, Try.ntmps53
  go_wp2
  go_region_held3 (fun w' => w'.cell? ⟨w.heap.size, 3, none⟩ = some (.slice (some ⟨b, o, none⟩) 2 cap) ∧ w'.cell? ⟨b, o, none⟩ = some (.int .i64 x.kind) ∧ w'.cell? ⟨b, o + 1, none⟩ = some (.string x.name) ∧ w'.cell? ⟨b, o + 2, none⟩ = some (.int .i64 x.n) ∧ w'.cell? ⟨b, o + 3, none⟩ = some (.slice ax nx capx) ∧ w'.cell? ⟨b, o + 4, none⟩ = some (.int .i64 y.kind) ∧ w'.cell? ⟨b, o + 4 + 1, none⟩ = some (.string y.name) ∧ w'.cell? ⟨b, o + 4 + 2, none⟩ = some (.int .i64 y.n) ∧ w'.cell? ⟨b, o + 4 + 3, none⟩ = some (.slice ay ny capy))
    ((repeat' apply And.intro) <;> (repeat (first | with_reducible assumption | with_reducible refine cell_drew ?_ | with_reducible refine cell_alloc _ ?_ | with_reducible refine cell_row_far _ ?_ (by omega) | with_reducible refine cell_below ?_ HB2.out | with_reducible refine cell_below ?_ HB3.out)))
    (first
      | (go_at_call 53
         have _t := tok1
         refine (SX.out _ ax nx capx (MemW.drew (MemW.keep GX.out HW.out))).mono ?_
         rintro e w2 ⟨rfl, hb⟩
         have HB2 := Lib.hid (Below.one hb)
         clear hb tok1 _t)
      | (go_at_call 98
         refine (HBx.out _).mono ?_
         rintro e w3 ⟨rfl, rfl⟩)
      | (go_at_call 53
         refine (SY.out _ ay ny capy (MemW.keep (MemW.keep GY.out HW.out) HB2.out)).mono ?_
         rintro e w3 ⟨rfl, hb⟩
         have HB3 := Lib.hid hb
         clear hb))
  go_wp2
  go_ret
  exact ⟨ret_str (by rw [HF.out, ByteArray.append_assoc]), HW.out.trans ((HB2.out.trans (HB3.out.mono HB2.out.size)).mono HW.out.size)⟩
end Go.Proofs.Ytemkpecagflafaa
