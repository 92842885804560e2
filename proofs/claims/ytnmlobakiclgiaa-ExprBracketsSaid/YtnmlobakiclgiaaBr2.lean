/-
 ExprBrackets: it answers true. No condition but sizes.
-/
import Derived.Test.YtnmlobakiclgiaaEx25
import Derived.Test.YtnmlobakiclgiaaBr1
import Derived.Deep.Cut
namespace Go.Proofs.Ytnmlobakiclgiaa
open Go.RowKit

theorem memW_nwB {base : Nat} {x : At} {y : Value} {w : World} (h : Mem (Nw 0 base w.heap.size) w x y) : MemW w x y := h.mono (fun _ hb => hb.2) fun _ _ => rfl
theorem sameE_B {x y : Ex} (h : SamE false x y) {n n' cap cap' : Nat} {a a' : Option Addr} (w : World) (h1 : MemW w (.s 6 (Ex.rows x.args)) (.slice a n cap)) (h2 : MemW w (.s 6 (Ex.rows y.args)) (.slice a' n' cap')) :
  Calls Try.prog 9 #[.agg #[.int .i64 x.kind, .string x.name, .int .i64 x.n, .slice a n cap, .int .i64 x.line, .int .i64 x.col], .agg #[.int .i64 y.kind, .string y.name, .int .i64 y.n, .slice a' n' cap', .int .i64 y.line, .int .i64 y.col], .bool false] w fun e w' => e = .returned (.bool true) ∧ Below w.heap.size w w' :=
 sameE_any h n n' cap cap' a a' w h1 h2
theorem app_data (a b : ByteArray) : (a ++ b).data.toList = a.data.toList ++ b.data.toList := by rw [ByteArray.data_append, Array.toList_append]
theorem app_size (a b : ByteArray) : (a ++ b).size = a.size + b.size := ByteArray.size_append
theorem br_data (s : ByteArray) : ((⟨#[40]⟩ : ByteArray) ++ s ++ ⟨#[10, 41]⟩).data.toList = 40 :: (s.data.toList ++ 10 :: [41]) := by rw [app_data, app_data]; rfl
theorem br_size (s : ByteArray) : ((⟨#[40]⟩ : ByteArray) ++ s ++ ⟨#[10, 41]⟩).size = s.size + 3 := by rw [app_size, app_size]; show 1 + s.size + 2 = _; omega
theorem op_size (op : ByteArray) : (opT op).size = 2 * op.size + 7 := by unfold opT; rw [app_size, app_size, app_size, app_size]; show 2 + op.size + 3 + op.size + 2 = _; omega
/-- The two parts of what is parsed. -/
theorem ex_two {x p q : Ex} {base : Nat} {w : World} {a : Option Addr} {m c : Nat} (hx : x.args = [p, q]) (h : Mem (Nw 0 base w.heap.size) w (.s 6 (Ex.rows x.args)) (.slice a m c)) :
  ∃ b o, a = some ⟨b, o, none⟩ ∧ m = 2 ∧ b < w.heap.size ∧ 2 ≤ c ∧ c ≤ 9223372036854775807 ∧ w.cell? ⟨b, o, none⟩ = some (.int .i64 p.kind) ∧ w.cell? ⟨b, o + 1, none⟩ = some (.string p.name) ∧ w.cell? ⟨b, o + 6, none⟩ = some (.int .i64 q.kind) ∧ w.cell? ⟨b, o + 6 + 1, none⟩ = some (.string q.name) := by
 rw [hx] at h
 obtain ⟨b, o, x0, a0, m0, c0, rfl, hx0, p0, p1, p2, p3, p4, p5, _⟩ := ex_at h 0 (by simp)
 obtain ⟨b', o', x1, a1, m1, c1, hab, hx1, q0, q1, q2, q3, q4, q5, _⟩ := ex_at h 1 (by simp)
 cases hab
 have e0 : p = x0 := by have h := hx0.out; simpa using h
 have e1 : q = x1 := by have h := hx1.out; simpa using h
 subst e0
 subst e1
 have hl := h.len
 rw [Ex.rows_len] at hl
 have hbl : b < w.heap.size := by
  obtain ⟨_, _, h1, h2, _⟩ := Mem.at h 0 (by rw [Ex.rows_len]; simp)
  cases h1
  exact h2.2
 simp only [Nat.zero_mul, Nat.add_zero, Nat.one_mul] at p0 p1 q0 q1
 have h2 : m = 2 := by have := hl.1; simp at this; omega
 exact ⟨b, o, rfl, h2, hbl, by omega, hl.2.2, p0, p1, q0, q1⟩
set_option maxRecDepth 100000 in
set_option maxHeartbeats 20000000 in
theorem exprBrackets_any (s op : ByteArray) (w : World) (_hs : s.size ≤ maxLen) (_ho : op.size ≤ maxLen) : Calls Try.prog 4 #[.string s, .string op] w fun e w' => e = .returned (.bool true) ∧ Below w.heap.size w w' := by
 have H := Lib.hid True.intro
 have HF : Hid (FarB w.heap.size w.heap.size w w) := Lib.hid (FarB.refl _ _ _)
 go_enter Try.func4, Try.ntmps4
 go_wp2_with (fail)
 refine (awake06_any _).mono ?_
 rintro _ w1 ⟨rfl, hb⟩
 replace HF := kF HF hb
 have hs1 := hb.size
 clear hb
 by_cases hbig : 1000 < s.size
 ·
  have hb3 : ((1000 : Int) < (s.size : Int)) = True := by simp; omega
  go_wp2_with (fail)
  go_ret
  exact ⟨rfl, belB HF.out⟩
 by_cases hbig2 : 3 < op.size
 ·
  have hb3 : ((1000 : Int) < (s.size : Int)) = False := by simp; omega
  have hb4 : ((3 : Int) < (op.size : Int)) = True := by simp; omega
  go_wp2_with (fail)
  go_ret
  exact ⟨rfl, belB HF.out⟩
 have hb3 : ((1000 : Int) < (s.size : Int)) = False := by simp; omega
 have hb4 : ((3 : Int) < (op.size : Int)) = False := by simp; omega
 have hs3 : (1 : Int) + (s.size : Int) ≤ 4000 := by omega
 obtain ⟨rp, hrp⟩ : ∃ rp, parseE s = rp := ⟨_, rfl⟩
 obtain ⟨rq, hrq⟩ : ∃ rq, parseE ((⟨#[40]⟩ : ByteArray) ++ s ++ ⟨#[10, 41]⟩) = rq := ⟨_, rfl⟩
 have HRP := Lib.hid hrp
 have HRQ := Lib.hid hrq
 clear hrp hrq
 go_wp2_with (fail)
 cases rp with
 | ok x =>
  have HBP := Lib.hid (brack_parse (by omega) (br_data s) HRP.out)
  cases rq with
  | ok y =>
   have HSM : Hid (SamE false x y) := by
    rcases HBP.out with ⟨y', hy, hs⟩ | ⟨⟨l, c, hb⟩, _⟩
    · rw [HRQ.out] at hy; cases hy; exact hs
    · rw [HRQ.out] at hb; cases hb
   clear HBP
   have hpp := parse_any s w1 (by omega)
   rw [HRP.out] at hpp
   refine hpp.mono ?_
   clear hpp
   rintro _ w2 ⟨ax, mx, cx, rfl, hb, hm⟩
   replace HF := kF HF hb
   have hs2 := hb.size
   clear hb
   have HMx := Lib.hid hm
   clear hm
   simp only [exV]
   go_upto_region 6 with (fail)
   generalize ee : World.alloc w2 _ = w3_1
   have hq1 := sizeA ee
   replace HF := fA HF ee
   replace HMx := mA HMx ee
   have HBe := nB ee (w2.heap.size)
   clear ee
   generalize ee : World.alloc w3_1 _ = w3
   have hq2 := sizeA ee
   replace HF := fA HF ee
   replace HBe := bA HBe ee
   replace HMx := mA HMx ee
   have HBf := nB ee (w2.heap.size + 1)
   clear ee
   have hsa3 : w3.heap.size = w2.heap.size + 2 := by omega
   clear hq1 hq2
   have ec := kc6 HBe; have fc := kc3 HBf
   have hI := i01_0 w2 w3
   have hZ := i012 w2
   go_wp2_with (fail)
   have hpp := parse_any ((⟨#[40]⟩ : ByteArray) ++ s ++ ⟨#[10, 41]⟩) w3 (by rw [br_size]; omega)
   rw [HRQ.out] at hpp
   clear ec fc
   refine hpp.mono ?_
   clear hpp
   rintro _ w4 ⟨ay, my, cy, rfl, hb, hm⟩
   replace HBe := kB HBe hb
   replace HBf := kB HBf hb
   replace HMx := kM HMx hb
   replace HF := kF HF hb
   have hs4 := hb.size
   clear hb
   have HMy := Lib.hid hm
   clear hm
   simp only [exV]
   clear hI hZ
   have ec := kc6 HBe; have fc := kc3 HBf
   have hI := i01_0 w2 w4
   go_upto_region 7 with (fail)
   clear ec fc
   generalize ee : World.alloc w4 _ = w5_1
   have hq1 := sizeA ee
   replace HF := fA HF ee
   replace HBe := bA HBe ee
   replace HBf := bA HBf ee
   replace HMx := mA HMx ee
   replace HMy := mA HMy ee
   have HBb := nB ee (w4.heap.size)
   clear ee
   generalize ee : World.alloc w5_1 _ = w5
   have hq2 := sizeA ee
   replace HF := fA HF ee
   replace HBe := bA HBe ee
   replace HBf := bA HBf ee
   replace HBb := bA HBb ee
   replace HMx := mA HMx ee
   replace HMy := mA HMy ee
   have HBg := nB ee (w4.heap.size + 1)
   clear ee
   have hsa5 : w5.heap.size = w4.heap.size + 2 := by omega
   clear hq1 hq2
   clear hI
   have ec := kc6 HBe; have fc := kc3 HBf; have bc := kc6 HBb; have gc := kc3 HBg
   have hI := i01_01_0 w2 w4 w5
   have hZ := i01_012 w2 w4
   go_wp2_with (fail)
   clear ec fc bc gc
   refine (sameE_B HSM.out _ (memW_nwB HMx.out) (memW_nwB HMy.out)).mono ?_
   rintro _ w6 ⟨rfl, hb⟩
   replace HBe := kB HBe hb
   replace HBf := kB HBf hb
   replace HBb := kB HBb hb
   replace HBg := kB HBg hb
   replace HMx := kM HMx hb
   replace HMy := kM HMy hb
   replace HF := kF HF hb
   have hs6 := hb.size
   clear hb
   clear hI hZ
   have ec := kc6 HBe; have fc := kc3 HBf; have bc := kc6 HBb; have gc := kc3 HBg
   have hI := i01_01_0 w2 w4 w6
   go_upto_region 9 with (fail)
   clear ec fc bc gc
   clear hI
   clear HBe HBf HBb HBg
   clear HMx HMy
   by_cases h_or : op = ⟨#[63]⟩
   ·
    subst h_or
    go_wp2_with (fail)
    refine (binds_any _ _).mono ?_
    rintro _ _ ⟨rfl, rfl⟩
    rw [show bindsE ⟨#[63]⟩ = 1 from by decide]
    go_wp2_with (fail)
    have hpp := parse_any (opT ⟨#[63]⟩) w6 (by rw [op_size]; decide)
    rw [p_or] at hpp
    refine hpp.mono ?_
    clear hpp
    rintro _ w7 ⟨ax, mx, cx, rfl, hb, hm⟩
    replace HF := kF HF hb
    have hs7 := hb.size
    clear hb
    have HMx := Lib.hid hm
    clear hm
    simp only [exV]
    obtain ⟨bx, ox, rfl, rfl, hbl, hcx, hmx, p0, p1, q0, q1⟩ := ex_two (x := e_or) rfl HMx.out
    clear HMx
    have P0 := Lib.hid p0
    have P1 := Lib.hid p1
    have Q0 := Lib.hid q0
    have Q1 := Lib.hid q1
    clear p0 p1 q0 q1
    simp only [e_or, Ex.kind, Ex.name, Ex.n, Ex.line, Ex.col] at P0 P1 Q0 Q1 ⊢
    have p0 := P0.out
    have p1 := P1.out
    have q0 := Q0.out
    have q1 := Q1.out
    clear P0 P1 Q0 Q1
    have hbn : bx ≠ w7.heap.size := Nat.ne_of_lt hbl
    have hbn1 : bx ≠ w7.heap.size + 1 := by omega
    have HBW := Lib.hid (belB HF.out)
    go_wp2_with (fail)
    go_ret
    exact ⟨rfl, (HBW.out.alloc HBW.out.size _).alloc (by rw [World.size_alloc]; have := HBW.out.size; omega) _⟩
   by_cases h_eq : op = ⟨#[61, 61]⟩
   ·
    subst h_eq
    go_wp2_with (fail)
    refine (binds_any _ _).mono ?_
    rintro _ _ ⟨rfl, rfl⟩
    rw [show bindsE ⟨#[61, 61]⟩ = 2 from by decide]
    go_wp2_with (fail)
    have hpp := parse_any (opT ⟨#[61, 61]⟩) w6 (by rw [op_size]; decide)
    rw [p_eq] at hpp
    refine hpp.mono ?_
    clear hpp
    rintro _ w7 ⟨rfl, hb⟩
    replace HF := kF HF hb
    have hs7 := hb.size
    clear hb
    have HBW := Lib.hid (belB HF.out)
    go_wp2_with (fail)
    go_ret
    exact ⟨rfl, (HBW.out.alloc HBW.out.size _).alloc (by rw [World.size_alloc]; have := HBW.out.size; omega) _⟩
   by_cases h_lt : op = ⟨#[60]⟩
   ·
    subst h_lt
    go_wp2_with (fail)
    refine (binds_any _ _).mono ?_
    rintro _ _ ⟨rfl, rfl⟩
    rw [show bindsE ⟨#[60]⟩ = 2 from by decide]
    go_wp2_with (fail)
    have hpp := parse_any (opT ⟨#[60]⟩) w6 (by rw [op_size]; decide)
    rw [p_lt] at hpp
    refine hpp.mono ?_
    clear hpp
    rintro _ w7 ⟨rfl, hb⟩
    replace HF := kF HF hb
    have hs7 := hb.size
    clear hb
    have HBW := Lib.hid (belB HF.out)
    go_wp2_with (fail)
    go_ret
    exact ⟨rfl, (HBW.out.alloc HBW.out.size _).alloc (by rw [World.size_alloc]; have := HBW.out.size; omega) _⟩
   by_cases h_add : op = ⟨#[43]⟩
   ·
    subst h_add
    go_wp2_with (fail)
    refine (binds_any _ _).mono ?_
    rintro _ _ ⟨rfl, rfl⟩
    rw [show bindsE ⟨#[43]⟩ = 3 from by decide]
    go_wp2_with (fail)
    have hpp := parse_any (opT ⟨#[43]⟩) w6 (by rw [op_size]; decide)
    rw [p_add] at hpp
    refine hpp.mono ?_
    clear hpp
    rintro _ w7 ⟨ax, mx, cx, rfl, hb, hm⟩
    replace HF := kF HF hb
    have hs7 := hb.size
    clear hb
    have HMx := Lib.hid hm
    clear hm
    simp only [exV]
    obtain ⟨bx, ox, rfl, rfl, hbl, hcx, hmx, p0, p1, q0, q1⟩ := ex_two (x := e_add) rfl HMx.out
    clear HMx
    have P0 := Lib.hid p0
    have P1 := Lib.hid p1
    have Q0 := Lib.hid q0
    have Q1 := Lib.hid q1
    clear p0 p1 q0 q1
    simp only [e_add, Ex.kind, Ex.name, Ex.n, Ex.line, Ex.col] at P0 P1 Q0 Q1 ⊢
    have p0 := P0.out
    have p1 := P1.out
    have q0 := Q0.out
    have q1 := Q1.out
    clear P0 P1 Q0 Q1
    have hbn : bx ≠ w7.heap.size := Nat.ne_of_lt hbl
    have hbn1 : bx ≠ w7.heap.size + 1 := by omega
    have HBW := Lib.hid (belB HF.out)
    go_wp2_with (fail)
    go_ret
    exact ⟨rfl, (HBW.out.alloc HBW.out.size _).alloc (by rw [World.size_alloc]; have := HBW.out.size; omega) _⟩
   by_cases h_sub : op = ⟨#[45]⟩
   ·
    subst h_sub
    go_wp2_with (fail)
    refine (binds_any _ _).mono ?_
    rintro _ _ ⟨rfl, rfl⟩
    rw [show bindsE ⟨#[45]⟩ = 3 from by decide]
    go_wp2_with (fail)
    have hpp := parse_any (opT ⟨#[45]⟩) w6 (by rw [op_size]; decide)
    rw [p_sub] at hpp
    refine hpp.mono ?_
    clear hpp
    rintro _ w7 ⟨ax, mx, cx, rfl, hb, hm⟩
    replace HF := kF HF hb
    have hs7 := hb.size
    clear hb
    have HMx := Lib.hid hm
    clear hm
    simp only [exV]
    obtain ⟨bx, ox, rfl, rfl, hbl, hcx, hmx, p0, p1, q0, q1⟩ := ex_two (x := e_sub) rfl HMx.out
    clear HMx
    have P0 := Lib.hid p0
    have P1 := Lib.hid p1
    have Q0 := Lib.hid q0
    have Q1 := Lib.hid q1
    clear p0 p1 q0 q1
    simp only [e_sub, Ex.kind, Ex.name, Ex.n, Ex.line, Ex.col] at P0 P1 Q0 Q1 ⊢
    have p0 := P0.out
    have p1 := P1.out
    have q0 := Q0.out
    have q1 := Q1.out
    clear P0 P1 Q0 Q1
    have hbn : bx ≠ w7.heap.size := Nat.ne_of_lt hbl
    have hbn1 : bx ≠ w7.heap.size + 1 := by omega
    have HBW := Lib.hid (belB HF.out)
    go_wp2_with (fail)
    go_ret
    exact ⟨rfl, (HBW.out.alloc HBW.out.size _).alloc (by rw [World.size_alloc]; have := HBW.out.size; omega) _⟩
   by_cases h_mul : op = ⟨#[42]⟩
   ·
    subst h_mul
    go_wp2_with (fail)
    refine (binds_any _ _).mono ?_
    rintro _ _ ⟨rfl, rfl⟩
    rw [show bindsE ⟨#[42]⟩ = 4 from by decide]
    go_wp2_with (fail)
    have hpp := parse_any (opT ⟨#[42]⟩) w6 (by rw [op_size]; decide)
    rw [p_mul] at hpp
    refine hpp.mono ?_
    clear hpp
    rintro _ w7 ⟨ax, mx, cx, rfl, hb, hm⟩
    replace HF := kF HF hb
    have hs7 := hb.size
    clear hb
    have HMx := Lib.hid hm
    clear hm
    simp only [exV]
    obtain ⟨bx, ox, rfl, rfl, hbl, hcx, hmx, p0, p1, q0, q1⟩ := ex_two (x := e_mul) rfl HMx.out
    clear HMx
    have P0 := Lib.hid p0
    have P1 := Lib.hid p1
    have Q0 := Lib.hid q0
    have Q1 := Lib.hid q1
    clear p0 p1 q0 q1
    simp only [e_mul, Ex.kind, Ex.name, Ex.n, Ex.line, Ex.col] at P0 P1 Q0 Q1 ⊢
    have p0 := P0.out
    have p1 := P1.out
    have q0 := Q0.out
    have q1 := Q1.out
    clear P0 P1 Q0 Q1
    have hbn : bx ≠ w7.heap.size := Nat.ne_of_lt hbl
    have hbn1 : bx ≠ w7.heap.size + 1 := by omega
    have HBW := Lib.hid (belB HF.out)
    go_wp2_with (fail)
    go_ret
    exact ⟨rfl, (HBW.out.alloc HBW.out.size _).alloc (by rw [World.size_alloc]; have := HBW.out.size; omega) _⟩
   have hb0 : bindsE op = 0 := by unfold bindsE wOr; rw [if_neg h_or, if_neg (fun h => h.elim h_eq h_lt), if_neg (fun h => h.elim h_add h_sub), if_neg h_mul]
   go_wp2_with (fail)
   refine (binds_any _ _).mono ?_
   rintro _ _ ⟨rfl, rfl⟩
   rw [hb0]
   go_wp2_with (fail)
   obtain ⟨rx, hrx⟩ : ∃ rx, parseE (opT op) = rx := ⟨_, rfl⟩
   have HRX := Lib.hid hrx
   clear hrx
   cases rx with
   | ok x =>
    have hpp := parse_any (opT op) w6 (by rw [op_size]; omega)
    rw [HRX.out] at hpp
    refine hpp.mono ?_
    clear hpp
    rintro _ w7 ⟨ax, mx, cx, rfl, hb, hm⟩
    replace HF := kF HF hb
    have hs7 := hb.size
    clear hb
    have HMx := Lib.hid hm
    clear hm
    simp only [exV]
    have HBW := Lib.hid (belB HF.out)
    go_wp2_with (fail)
    go_ret
    exact ⟨rfl, (HBW.out.alloc HBW.out.size _).alloc (by rw [World.size_alloc]; have := HBW.out.size; omega) _⟩
   | bad kx lx cx =>
    have hpp := parse_any (opT op) w6 (by rw [op_size]; omega)
    rw [HRX.out] at hpp
    refine hpp.mono ?_
    clear hpp
    rintro _ w7 ⟨rfl, hb⟩
    replace HF := kF HF hb
    have hs7 := hb.size
    clear hb
    have HBW := Lib.hid (belB HF.out)
    go_wp2_with (fail)
    go_ret
    exact ⟨rfl, (HBW.out.alloc HBW.out.size _).alloc (by rw [World.size_alloc]; have := HBW.out.size; omega) _⟩
  | bad kq lq cq =>
   have HDP : Hid (40 ≤ dpN s ∧ kq = 1) := by
    rcases HBP.out with ⟨y', hy, hs⟩ | ⟨⟨l, c, hb⟩, hd⟩
    · rw [HRQ.out] at hy; cases hy
    · rw [HRQ.out] at hb; cases hb; exact ⟨hd, rfl⟩
   clear HBP
   obtain rfl := HDP.out.2
   have hpp := parse_any s w1 (by omega)
   rw [HRP.out] at hpp
   refine hpp.mono ?_
   clear hpp
   rintro _ w2 ⟨ax, mx, cx, rfl, hb, hm⟩
   replace HF := kF HF hb
   have hs2 := hb.size
   clear hb
   have HMx := Lib.hid hm
   clear hm
   simp only [exV]
   go_upto_region 6 with (fail)
   generalize ee : World.alloc w2 _ = w3_1
   have hq1 := sizeA ee
   replace HF := fA HF ee
   replace HMx := mA HMx ee
   have HBe := nB ee (w2.heap.size)
   clear ee
   generalize ee : World.alloc w3_1 _ = w3
   have hq2 := sizeA ee
   replace HF := fA HF ee
   replace HBe := bA HBe ee
   replace HMx := mA HMx ee
   have HBf := nB ee (w2.heap.size + 1)
   clear ee
   have hsa3 : w3.heap.size = w2.heap.size + 2 := by omega
   clear hq1 hq2
   have ec := kc6 HBe; have fc := kc3 HBf
   have hI := i01_0 w2 w3
   have hZ := i012 w2
   go_wp2_with (fail)
   have hpp := parse_any ((⟨#[40]⟩ : ByteArray) ++ s ++ ⟨#[10, 41]⟩) w3 (by rw [br_size]; omega)
   rw [HRQ.out] at hpp
   clear ec fc
   refine hpp.mono ?_
   clear hpp
   rintro _ w4 ⟨rfl, hb⟩
   replace HBe := kB HBe hb
   replace HBf := kB HBf hb
   replace HMx := kM HMx hb
   replace HF := kF HF hb
   have hs4 := hb.size
   clear hb
   clear hI hZ
   have ec := kc6 HBe; have fc := kc3 HBf
   have hI := i01_0 w2 w4
   go_upto_region 7 with (fail)
   clear ec fc
   generalize ee : World.alloc w4 _ = w5_1
   have hq1 := sizeA ee
   replace HF := fA HF ee
   replace HBe := bA HBe ee
   replace HBf := bA HBf ee
   replace HMx := mA HMx ee
   have HBb := nB ee (w4.heap.size)
   clear ee
   generalize ee : World.alloc w5_1 _ = w5
   have hq2 := sizeA ee
   replace HF := fA HF ee
   replace HBe := bA HBe ee
   replace HBf := bA HBf ee
   replace HBb := bA HBb ee
   replace HMx := mA HMx ee
   have HBg := nB ee (w4.heap.size + 1)
   clear ee
   have hsa5 : w5.heap.size = w4.heap.size + 2 := by omega
   clear hq1 hq2
   clear hI
   have ec := kc6 HBe; have fc := kc3 HBf; have bc := kc6 HBb; have gc := kc3 HBg
   have hI := i01_01_0 w2 w4 w5
   have hZ := i01_012 w2 w4
   have hdp : ((dpN s : Int) < 40) = False := by have := HDP.out; simp; omega
   go_wp2_with (fail)
   refine (depth_any s _ (by unfold maxLen; omega)).mono ?_
   rintro _ _ ⟨rfl, rfl⟩
   go_upto_region 9 with (fail)
   clear ec fc bc gc
   clear hI hZ
   clear HBe HBf HBb HBg
   clear HMx
   by_cases h_or : op = ⟨#[63]⟩
   ·
    subst h_or
    go_wp2_with (fail)
    refine (binds_any _ _).mono ?_
    rintro _ _ ⟨rfl, rfl⟩
    rw [show bindsE ⟨#[63]⟩ = 1 from by decide]
    go_wp2_with (fail)
    have hpp := parse_any (opT ⟨#[63]⟩) w5 (by rw [op_size]; decide)
    rw [p_or] at hpp
    refine hpp.mono ?_
    clear hpp
    rintro _ w6 ⟨ax, mx, cx, rfl, hb, hm⟩
    replace HF := kF HF hb
    have hs6 := hb.size
    clear hb
    have HMx := Lib.hid hm
    clear hm
    simp only [exV]
    obtain ⟨bx, ox, rfl, rfl, hbl, hcx, hmx, p0, p1, q0, q1⟩ := ex_two (x := e_or) rfl HMx.out
    clear HMx
    have P0 := Lib.hid p0
    have P1 := Lib.hid p1
    have Q0 := Lib.hid q0
    have Q1 := Lib.hid q1
    clear p0 p1 q0 q1
    simp only [e_or, Ex.kind, Ex.name, Ex.n, Ex.line, Ex.col] at P0 P1 Q0 Q1 ⊢
    have p0 := P0.out
    have p1 := P1.out
    have q0 := Q0.out
    have q1 := Q1.out
    clear P0 P1 Q0 Q1
    have hbn : bx ≠ w6.heap.size := Nat.ne_of_lt hbl
    have hbn1 : bx ≠ w6.heap.size + 1 := by omega
    have HBW := Lib.hid (belB HF.out)
    go_wp2_with (fail)
    go_ret
    exact ⟨rfl, (HBW.out.alloc HBW.out.size _).alloc (by rw [World.size_alloc]; have := HBW.out.size; omega) _⟩
   by_cases h_eq : op = ⟨#[61, 61]⟩
   ·
    subst h_eq
    go_wp2_with (fail)
    refine (binds_any _ _).mono ?_
    rintro _ _ ⟨rfl, rfl⟩
    rw [show bindsE ⟨#[61, 61]⟩ = 2 from by decide]
    go_wp2_with (fail)
    have hpp := parse_any (opT ⟨#[61, 61]⟩) w5 (by rw [op_size]; decide)
    rw [p_eq] at hpp
    refine hpp.mono ?_
    clear hpp
    rintro _ w6 ⟨rfl, hb⟩
    replace HF := kF HF hb
    have hs6 := hb.size
    clear hb
    have HBW := Lib.hid (belB HF.out)
    go_wp2_with (fail)
    go_ret
    exact ⟨rfl, (HBW.out.alloc HBW.out.size _).alloc (by rw [World.size_alloc]; have := HBW.out.size; omega) _⟩
   by_cases h_lt : op = ⟨#[60]⟩
   ·
    subst h_lt
    go_wp2_with (fail)
    refine (binds_any _ _).mono ?_
    rintro _ _ ⟨rfl, rfl⟩
    rw [show bindsE ⟨#[60]⟩ = 2 from by decide]
    go_wp2_with (fail)
    have hpp := parse_any (opT ⟨#[60]⟩) w5 (by rw [op_size]; decide)
    rw [p_lt] at hpp
    refine hpp.mono ?_
    clear hpp
    rintro _ w6 ⟨rfl, hb⟩
    replace HF := kF HF hb
    have hs6 := hb.size
    clear hb
    have HBW := Lib.hid (belB HF.out)
    go_wp2_with (fail)
    go_ret
    exact ⟨rfl, (HBW.out.alloc HBW.out.size _).alloc (by rw [World.size_alloc]; have := HBW.out.size; omega) _⟩
   by_cases h_add : op = ⟨#[43]⟩
   ·
    subst h_add
    go_wp2_with (fail)
    refine (binds_any _ _).mono ?_
    rintro _ _ ⟨rfl, rfl⟩
    rw [show bindsE ⟨#[43]⟩ = 3 from by decide]
    go_wp2_with (fail)
    have hpp := parse_any (opT ⟨#[43]⟩) w5 (by rw [op_size]; decide)
    rw [p_add] at hpp
    refine hpp.mono ?_
    clear hpp
    rintro _ w6 ⟨ax, mx, cx, rfl, hb, hm⟩
    replace HF := kF HF hb
    have hs6 := hb.size
    clear hb
    have HMx := Lib.hid hm
    clear hm
    simp only [exV]
    obtain ⟨bx, ox, rfl, rfl, hbl, hcx, hmx, p0, p1, q0, q1⟩ := ex_two (x := e_add) rfl HMx.out
    clear HMx
    have P0 := Lib.hid p0
    have P1 := Lib.hid p1
    have Q0 := Lib.hid q0
    have Q1 := Lib.hid q1
    clear p0 p1 q0 q1
    simp only [e_add, Ex.kind, Ex.name, Ex.n, Ex.line, Ex.col] at P0 P1 Q0 Q1 ⊢
    have p0 := P0.out
    have p1 := P1.out
    have q0 := Q0.out
    have q1 := Q1.out
    clear P0 P1 Q0 Q1
    have hbn : bx ≠ w6.heap.size := Nat.ne_of_lt hbl
    have hbn1 : bx ≠ w6.heap.size + 1 := by omega
    have HBW := Lib.hid (belB HF.out)
    go_wp2_with (fail)
    go_ret
    exact ⟨rfl, (HBW.out.alloc HBW.out.size _).alloc (by rw [World.size_alloc]; have := HBW.out.size; omega) _⟩
   by_cases h_sub : op = ⟨#[45]⟩
   ·
    subst h_sub
    go_wp2_with (fail)
    refine (binds_any _ _).mono ?_
    rintro _ _ ⟨rfl, rfl⟩
    rw [show bindsE ⟨#[45]⟩ = 3 from by decide]
    go_wp2_with (fail)
    have hpp := parse_any (opT ⟨#[45]⟩) w5 (by rw [op_size]; decide)
    rw [p_sub] at hpp
    refine hpp.mono ?_
    clear hpp
    rintro _ w6 ⟨ax, mx, cx, rfl, hb, hm⟩
    replace HF := kF HF hb
    have hs6 := hb.size
    clear hb
    have HMx := Lib.hid hm
    clear hm
    simp only [exV]
    obtain ⟨bx, ox, rfl, rfl, hbl, hcx, hmx, p0, p1, q0, q1⟩ := ex_two (x := e_sub) rfl HMx.out
    clear HMx
    have P0 := Lib.hid p0
    have P1 := Lib.hid p1
    have Q0 := Lib.hid q0
    have Q1 := Lib.hid q1
    clear p0 p1 q0 q1
    simp only [e_sub, Ex.kind, Ex.name, Ex.n, Ex.line, Ex.col] at P0 P1 Q0 Q1 ⊢
    have p0 := P0.out
    have p1 := P1.out
    have q0 := Q0.out
    have q1 := Q1.out
    clear P0 P1 Q0 Q1
    have hbn : bx ≠ w6.heap.size := Nat.ne_of_lt hbl
    have hbn1 : bx ≠ w6.heap.size + 1 := by omega
    have HBW := Lib.hid (belB HF.out)
    go_wp2_with (fail)
    go_ret
    exact ⟨rfl, (HBW.out.alloc HBW.out.size _).alloc (by rw [World.size_alloc]; have := HBW.out.size; omega) _⟩
   by_cases h_mul : op = ⟨#[42]⟩
   ·
    subst h_mul
    go_wp2_with (fail)
    refine (binds_any _ _).mono ?_
    rintro _ _ ⟨rfl, rfl⟩
    rw [show bindsE ⟨#[42]⟩ = 4 from by decide]
    go_wp2_with (fail)
    have hpp := parse_any (opT ⟨#[42]⟩) w5 (by rw [op_size]; decide)
    rw [p_mul] at hpp
    refine hpp.mono ?_
    clear hpp
    rintro _ w6 ⟨ax, mx, cx, rfl, hb, hm⟩
    replace HF := kF HF hb
    have hs6 := hb.size
    clear hb
    have HMx := Lib.hid hm
    clear hm
    simp only [exV]
    obtain ⟨bx, ox, rfl, rfl, hbl, hcx, hmx, p0, p1, q0, q1⟩ := ex_two (x := e_mul) rfl HMx.out
    clear HMx
    have P0 := Lib.hid p0
    have P1 := Lib.hid p1
    have Q0 := Lib.hid q0
    have Q1 := Lib.hid q1
    clear p0 p1 q0 q1
    simp only [e_mul, Ex.kind, Ex.name, Ex.n, Ex.line, Ex.col] at P0 P1 Q0 Q1 ⊢
    have p0 := P0.out
    have p1 := P1.out
    have q0 := Q0.out
    have q1 := Q1.out
    clear P0 P1 Q0 Q1
    have hbn : bx ≠ w6.heap.size := Nat.ne_of_lt hbl
    have hbn1 : bx ≠ w6.heap.size + 1 := by omega
    have HBW := Lib.hid (belB HF.out)
    go_wp2_with (fail)
    go_ret
    exact ⟨rfl, (HBW.out.alloc HBW.out.size _).alloc (by rw [World.size_alloc]; have := HBW.out.size; omega) _⟩
   have hb0 : bindsE op = 0 := by unfold bindsE wOr; rw [if_neg h_or, if_neg (fun h => h.elim h_eq h_lt), if_neg (fun h => h.elim h_add h_sub), if_neg h_mul]
   go_wp2_with (fail)
   refine (binds_any _ _).mono ?_
   rintro _ _ ⟨rfl, rfl⟩
   rw [hb0]
   go_wp2_with (fail)
   obtain ⟨rx, hrx⟩ : ∃ rx, parseE (opT op) = rx := ⟨_, rfl⟩
   have HRX := Lib.hid hrx
   clear hrx
   cases rx with
   | ok x =>
    have hpp := parse_any (opT op) w5 (by rw [op_size]; omega)
    rw [HRX.out] at hpp
    refine hpp.mono ?_
    clear hpp
    rintro _ w6 ⟨ax, mx, cx, rfl, hb, hm⟩
    replace HF := kF HF hb
    have hs6 := hb.size
    clear hb
    have HMx := Lib.hid hm
    clear hm
    simp only [exV]
    have HBW := Lib.hid (belB HF.out)
    go_wp2_with (fail)
    go_ret
    exact ⟨rfl, (HBW.out.alloc HBW.out.size _).alloc (by rw [World.size_alloc]; have := HBW.out.size; omega) _⟩
   | bad kx lx cx =>
    have hpp := parse_any (opT op) w5 (by rw [op_size]; omega)
    rw [HRX.out] at hpp
    refine hpp.mono ?_
    clear hpp
    rintro _ w6 ⟨rfl, hb⟩
    replace HF := kF HF hb
    have hs6 := hb.size
    clear hb
    have HBW := Lib.hid (belB HF.out)
    go_wp2_with (fail)
    go_ret
    exact ⟨rfl, (HBW.out.alloc HBW.out.size _).alloc (by rw [World.size_alloc]; have := HBW.out.size; omega) _⟩
 | bad kk l_ c_ =>
  cases rq with
  | ok y =>
   have hpp := parse_any s w1 (by omega)
   rw [HRP.out] at hpp
   refine hpp.mono ?_
   clear hpp
   rintro _ w2 ⟨rfl, hb⟩
   replace HF := kF HF hb
   have hs2 := hb.size
   clear hb
   go_upto_region 6 with (fail)
   generalize ee : World.alloc w2 _ = w3_1
   have hq1 := sizeA ee
   replace HF := fA HF ee
   have HBe := nB ee (w2.heap.size)
   clear ee
   generalize ee : World.alloc w3_1 _ = w3
   have hq2 := sizeA ee
   replace HF := fA HF ee
   replace HBe := bA HBe ee
   have HBf := nB ee (w2.heap.size + 1)
   clear ee
   have hsa3 : w3.heap.size = w2.heap.size + 2 := by omega
   clear hq1 hq2
   have ec := kc6 HBe; have fc := kc3 HBf
   have hI := i01_0 w2 w3
   have hZ := i012 w2
   go_wp2_with (fail)
   have hpp := parse_any ((⟨#[40]⟩ : ByteArray) ++ s ++ ⟨#[10, 41]⟩) w3 (by rw [br_size]; omega)
   rw [HRQ.out] at hpp
   clear ec fc
   refine hpp.mono ?_
   clear hpp
   rintro _ w4 ⟨ay, my, cy, rfl, hb, hm⟩
   replace HBe := kB HBe hb
   replace HBf := kB HBf hb
   replace HF := kF HF hb
   have hs4 := hb.size
   clear hb
   have HMy := Lib.hid hm
   clear hm
   simp only [exV]
   clear hI hZ
   have ec := kc6 HBe; have fc := kc3 HBf
   have hI := i01_0 w2 w4
   go_upto_region 7 with (fail)
   clear ec fc
   generalize ee : World.alloc w4 _ = w5_1
   have hq1 := sizeA ee
   replace HF := fA HF ee
   replace HBe := bA HBe ee
   replace HBf := bA HBf ee
   replace HMy := mA HMy ee
   have HBb := nB ee (w4.heap.size)
   clear ee
   generalize ee : World.alloc w5_1 _ = w5
   have hq2 := sizeA ee
   replace HF := fA HF ee
   replace HBe := bA HBe ee
   replace HBf := bA HBf ee
   replace HBb := bA HBb ee
   replace HMy := mA HMy ee
   have HBg := nB ee (w4.heap.size + 1)
   clear ee
   have hsa5 : w5.heap.size = w4.heap.size + 2 := by omega
   clear hq1 hq2
   clear hI
   have ec := kc6 HBe; have fc := kc3 HBf; have bc := kc6 HBb; have gc := kc3 HBg
   have hI := i01_01_0 w2 w4 w5
   have hZ := i01_012 w2 w4
   have hkk : (kk == 0) = false := by have h := bad_kind HRP.out; simpa using h
   go_upto_region 9 with (fail)
   clear ec fc bc gc
   clear hI hZ
   clear HBe HBf HBb HBg
   clear HMy
   by_cases h_or : op = ⟨#[63]⟩
   ·
    subst h_or
    go_wp2_with (fail)
    refine (binds_any _ _).mono ?_
    rintro _ _ ⟨rfl, rfl⟩
    rw [show bindsE ⟨#[63]⟩ = 1 from by decide]
    go_wp2_with (fail)
    have hpp := parse_any (opT ⟨#[63]⟩) w5 (by rw [op_size]; decide)
    rw [p_or] at hpp
    refine hpp.mono ?_
    clear hpp
    rintro _ w6 ⟨ax, mx, cx, rfl, hb, hm⟩
    replace HF := kF HF hb
    have hs6 := hb.size
    clear hb
    have HMx := Lib.hid hm
    clear hm
    simp only [exV]
    obtain ⟨bx, ox, rfl, rfl, hbl, hcx, hmx, p0, p1, q0, q1⟩ := ex_two (x := e_or) rfl HMx.out
    clear HMx
    have P0 := Lib.hid p0
    have P1 := Lib.hid p1
    have Q0 := Lib.hid q0
    have Q1 := Lib.hid q1
    clear p0 p1 q0 q1
    simp only [e_or, Ex.kind, Ex.name, Ex.n, Ex.line, Ex.col] at P0 P1 Q0 Q1 ⊢
    have p0 := P0.out
    have p1 := P1.out
    have q0 := Q0.out
    have q1 := Q1.out
    clear P0 P1 Q0 Q1
    have hbn : bx ≠ w6.heap.size := Nat.ne_of_lt hbl
    have hbn1 : bx ≠ w6.heap.size + 1 := by omega
    have HBW := Lib.hid (belB HF.out)
    go_wp2_with (fail)
    go_ret
    exact ⟨rfl, (HBW.out.alloc HBW.out.size _).alloc (by rw [World.size_alloc]; have := HBW.out.size; omega) _⟩
   by_cases h_eq : op = ⟨#[61, 61]⟩
   ·
    subst h_eq
    go_wp2_with (fail)
    refine (binds_any _ _).mono ?_
    rintro _ _ ⟨rfl, rfl⟩
    rw [show bindsE ⟨#[61, 61]⟩ = 2 from by decide]
    go_wp2_with (fail)
    have hpp := parse_any (opT ⟨#[61, 61]⟩) w5 (by rw [op_size]; decide)
    rw [p_eq] at hpp
    refine hpp.mono ?_
    clear hpp
    rintro _ w6 ⟨rfl, hb⟩
    replace HF := kF HF hb
    have hs6 := hb.size
    clear hb
    have HBW := Lib.hid (belB HF.out)
    go_wp2_with (fail)
    go_ret
    exact ⟨rfl, (HBW.out.alloc HBW.out.size _).alloc (by rw [World.size_alloc]; have := HBW.out.size; omega) _⟩
   by_cases h_lt : op = ⟨#[60]⟩
   ·
    subst h_lt
    go_wp2_with (fail)
    refine (binds_any _ _).mono ?_
    rintro _ _ ⟨rfl, rfl⟩
    rw [show bindsE ⟨#[60]⟩ = 2 from by decide]
    go_wp2_with (fail)
    have hpp := parse_any (opT ⟨#[60]⟩) w5 (by rw [op_size]; decide)
    rw [p_lt] at hpp
    refine hpp.mono ?_
    clear hpp
    rintro _ w6 ⟨rfl, hb⟩
    replace HF := kF HF hb
    have hs6 := hb.size
    clear hb
    have HBW := Lib.hid (belB HF.out)
    go_wp2_with (fail)
    go_ret
    exact ⟨rfl, (HBW.out.alloc HBW.out.size _).alloc (by rw [World.size_alloc]; have := HBW.out.size; omega) _⟩
   by_cases h_add : op = ⟨#[43]⟩
   ·
    subst h_add
    go_wp2_with (fail)
    refine (binds_any _ _).mono ?_
    rintro _ _ ⟨rfl, rfl⟩
    rw [show bindsE ⟨#[43]⟩ = 3 from by decide]
    go_wp2_with (fail)
    have hpp := parse_any (opT ⟨#[43]⟩) w5 (by rw [op_size]; decide)
    rw [p_add] at hpp
    refine hpp.mono ?_
    clear hpp
    rintro _ w6 ⟨ax, mx, cx, rfl, hb, hm⟩
    replace HF := kF HF hb
    have hs6 := hb.size
    clear hb
    have HMx := Lib.hid hm
    clear hm
    simp only [exV]
    obtain ⟨bx, ox, rfl, rfl, hbl, hcx, hmx, p0, p1, q0, q1⟩ := ex_two (x := e_add) rfl HMx.out
    clear HMx
    have P0 := Lib.hid p0
    have P1 := Lib.hid p1
    have Q0 := Lib.hid q0
    have Q1 := Lib.hid q1
    clear p0 p1 q0 q1
    simp only [e_add, Ex.kind, Ex.name, Ex.n, Ex.line, Ex.col] at P0 P1 Q0 Q1 ⊢
    have p0 := P0.out
    have p1 := P1.out
    have q0 := Q0.out
    have q1 := Q1.out
    clear P0 P1 Q0 Q1
    have hbn : bx ≠ w6.heap.size := Nat.ne_of_lt hbl
    have hbn1 : bx ≠ w6.heap.size + 1 := by omega
    have HBW := Lib.hid (belB HF.out)
    go_wp2_with (fail)
    go_ret
    exact ⟨rfl, (HBW.out.alloc HBW.out.size _).alloc (by rw [World.size_alloc]; have := HBW.out.size; omega) _⟩
   by_cases h_sub : op = ⟨#[45]⟩
   ·
    subst h_sub
    go_wp2_with (fail)
    refine (binds_any _ _).mono ?_
    rintro _ _ ⟨rfl, rfl⟩
    rw [show bindsE ⟨#[45]⟩ = 3 from by decide]
    go_wp2_with (fail)
    have hpp := parse_any (opT ⟨#[45]⟩) w5 (by rw [op_size]; decide)
    rw [p_sub] at hpp
    refine hpp.mono ?_
    clear hpp
    rintro _ w6 ⟨ax, mx, cx, rfl, hb, hm⟩
    replace HF := kF HF hb
    have hs6 := hb.size
    clear hb
    have HMx := Lib.hid hm
    clear hm
    simp only [exV]
    obtain ⟨bx, ox, rfl, rfl, hbl, hcx, hmx, p0, p1, q0, q1⟩ := ex_two (x := e_sub) rfl HMx.out
    clear HMx
    have P0 := Lib.hid p0
    have P1 := Lib.hid p1
    have Q0 := Lib.hid q0
    have Q1 := Lib.hid q1
    clear p0 p1 q0 q1
    simp only [e_sub, Ex.kind, Ex.name, Ex.n, Ex.line, Ex.col] at P0 P1 Q0 Q1 ⊢
    have p0 := P0.out
    have p1 := P1.out
    have q0 := Q0.out
    have q1 := Q1.out
    clear P0 P1 Q0 Q1
    have hbn : bx ≠ w6.heap.size := Nat.ne_of_lt hbl
    have hbn1 : bx ≠ w6.heap.size + 1 := by omega
    have HBW := Lib.hid (belB HF.out)
    go_wp2_with (fail)
    go_ret
    exact ⟨rfl, (HBW.out.alloc HBW.out.size _).alloc (by rw [World.size_alloc]; have := HBW.out.size; omega) _⟩
   by_cases h_mul : op = ⟨#[42]⟩
   ·
    subst h_mul
    go_wp2_with (fail)
    refine (binds_any _ _).mono ?_
    rintro _ _ ⟨rfl, rfl⟩
    rw [show bindsE ⟨#[42]⟩ = 4 from by decide]
    go_wp2_with (fail)
    have hpp := parse_any (opT ⟨#[42]⟩) w5 (by rw [op_size]; decide)
    rw [p_mul] at hpp
    refine hpp.mono ?_
    clear hpp
    rintro _ w6 ⟨ax, mx, cx, rfl, hb, hm⟩
    replace HF := kF HF hb
    have hs6 := hb.size
    clear hb
    have HMx := Lib.hid hm
    clear hm
    simp only [exV]
    obtain ⟨bx, ox, rfl, rfl, hbl, hcx, hmx, p0, p1, q0, q1⟩ := ex_two (x := e_mul) rfl HMx.out
    clear HMx
    have P0 := Lib.hid p0
    have P1 := Lib.hid p1
    have Q0 := Lib.hid q0
    have Q1 := Lib.hid q1
    clear p0 p1 q0 q1
    simp only [e_mul, Ex.kind, Ex.name, Ex.n, Ex.line, Ex.col] at P0 P1 Q0 Q1 ⊢
    have p0 := P0.out
    have p1 := P1.out
    have q0 := Q0.out
    have q1 := Q1.out
    clear P0 P1 Q0 Q1
    have hbn : bx ≠ w6.heap.size := Nat.ne_of_lt hbl
    have hbn1 : bx ≠ w6.heap.size + 1 := by omega
    have HBW := Lib.hid (belB HF.out)
    go_wp2_with (fail)
    go_ret
    exact ⟨rfl, (HBW.out.alloc HBW.out.size _).alloc (by rw [World.size_alloc]; have := HBW.out.size; omega) _⟩
   have hb0 : bindsE op = 0 := by unfold bindsE wOr; rw [if_neg h_or, if_neg (fun h => h.elim h_eq h_lt), if_neg (fun h => h.elim h_add h_sub), if_neg h_mul]
   go_wp2_with (fail)
   refine (binds_any _ _).mono ?_
   rintro _ _ ⟨rfl, rfl⟩
   rw [hb0]
   go_wp2_with (fail)
   obtain ⟨rx, hrx⟩ : ∃ rx, parseE (opT op) = rx := ⟨_, rfl⟩
   have HRX := Lib.hid hrx
   clear hrx
   cases rx with
   | ok x =>
    have hpp := parse_any (opT op) w5 (by rw [op_size]; omega)
    rw [HRX.out] at hpp
    refine hpp.mono ?_
    clear hpp
    rintro _ w6 ⟨ax, mx, cx, rfl, hb, hm⟩
    replace HF := kF HF hb
    have hs6 := hb.size
    clear hb
    have HMx := Lib.hid hm
    clear hm
    simp only [exV]
    have HBW := Lib.hid (belB HF.out)
    go_wp2_with (fail)
    go_ret
    exact ⟨rfl, (HBW.out.alloc HBW.out.size _).alloc (by rw [World.size_alloc]; have := HBW.out.size; omega) _⟩
   | bad kx lx cx =>
    have hpp := parse_any (opT op) w5 (by rw [op_size]; omega)
    rw [HRX.out] at hpp
    refine hpp.mono ?_
    clear hpp
    rintro _ w6 ⟨rfl, hb⟩
    replace HF := kF HF hb
    have hs6 := hb.size
    clear hb
    have HBW := Lib.hid (belB HF.out)
    go_wp2_with (fail)
    go_ret
    exact ⟨rfl, (HBW.out.alloc HBW.out.size _).alloc (by rw [World.size_alloc]; have := HBW.out.size; omega) _⟩
  | bad kq lq cq =>
   have hpp := parse_any s w1 (by omega)
   rw [HRP.out] at hpp
   refine hpp.mono ?_
   clear hpp
   rintro _ w2 ⟨rfl, hb⟩
   replace HF := kF HF hb
   have hs2 := hb.size
   clear hb
   go_upto_region 6 with (fail)
   generalize ee : World.alloc w2 _ = w3_1
   have hq1 := sizeA ee
   replace HF := fA HF ee
   have HBe := nB ee (w2.heap.size)
   clear ee
   generalize ee : World.alloc w3_1 _ = w3
   have hq2 := sizeA ee
   replace HF := fA HF ee
   replace HBe := bA HBe ee
   have HBf := nB ee (w2.heap.size + 1)
   clear ee
   have hsa3 : w3.heap.size = w2.heap.size + 2 := by omega
   clear hq1 hq2
   have ec := kc6 HBe; have fc := kc3 HBf
   have hI := i01_0 w2 w3
   have hZ := i012 w2
   go_wp2_with (fail)
   have hpp := parse_any ((⟨#[40]⟩ : ByteArray) ++ s ++ ⟨#[10, 41]⟩) w3 (by rw [br_size]; omega)
   rw [HRQ.out] at hpp
   clear ec fc
   refine hpp.mono ?_
   clear hpp
   rintro _ w4 ⟨rfl, hb⟩
   replace HBe := kB HBe hb
   replace HBf := kB HBf hb
   replace HF := kF HF hb
   have hs4 := hb.size
   clear hb
   clear hI hZ
   have ec := kc6 HBe; have fc := kc3 HBf
   have hI := i01_0 w2 w4
   go_upto_region 7 with (fail)
   clear ec fc
   generalize ee : World.alloc w4 _ = w5_1
   have hq1 := sizeA ee
   replace HF := fA HF ee
   replace HBe := bA HBe ee
   replace HBf := bA HBf ee
   have HBb := nB ee (w4.heap.size)
   clear ee
   generalize ee : World.alloc w5_1 _ = w5
   have hq2 := sizeA ee
   replace HF := fA HF ee
   replace HBe := bA HBe ee
   replace HBf := bA HBf ee
   replace HBb := bA HBb ee
   have HBg := nB ee (w4.heap.size + 1)
   clear ee
   have hsa5 : w5.heap.size = w4.heap.size + 2 := by omega
   clear hq1 hq2
   clear hI
   have ec := kc6 HBe; have fc := kc3 HBf; have bc := kc6 HBb; have gc := kc3 HBg
   have hI := i01_01_0 w2 w4 w5
   have hZ := i01_012 w2 w4
   have hkk : (kk == 0) = false := by have h := bad_kind HRP.out; simpa using h
   go_upto_region 9 with (fail)
   clear ec fc bc gc
   clear hI hZ
   clear HBe HBf HBb HBg
   by_cases h_or : op = ⟨#[63]⟩
   ·
    subst h_or
    go_wp2_with (fail)
    refine (binds_any _ _).mono ?_
    rintro _ _ ⟨rfl, rfl⟩
    rw [show bindsE ⟨#[63]⟩ = 1 from by decide]
    go_wp2_with (fail)
    have hpp := parse_any (opT ⟨#[63]⟩) w5 (by rw [op_size]; decide)
    rw [p_or] at hpp
    refine hpp.mono ?_
    clear hpp
    rintro _ w6 ⟨ax, mx, cx, rfl, hb, hm⟩
    replace HF := kF HF hb
    have hs6 := hb.size
    clear hb
    have HMx := Lib.hid hm
    clear hm
    simp only [exV]
    obtain ⟨bx, ox, rfl, rfl, hbl, hcx, hmx, p0, p1, q0, q1⟩ := ex_two (x := e_or) rfl HMx.out
    clear HMx
    have P0 := Lib.hid p0
    have P1 := Lib.hid p1
    have Q0 := Lib.hid q0
    have Q1 := Lib.hid q1
    clear p0 p1 q0 q1
    simp only [e_or, Ex.kind, Ex.name, Ex.n, Ex.line, Ex.col] at P0 P1 Q0 Q1 ⊢
    have p0 := P0.out
    have p1 := P1.out
    have q0 := Q0.out
    have q1 := Q1.out
    clear P0 P1 Q0 Q1
    have hbn : bx ≠ w6.heap.size := Nat.ne_of_lt hbl
    have hbn1 : bx ≠ w6.heap.size + 1 := by omega
    have HBW := Lib.hid (belB HF.out)
    go_wp2_with (fail)
    go_ret
    exact ⟨rfl, (HBW.out.alloc HBW.out.size _).alloc (by rw [World.size_alloc]; have := HBW.out.size; omega) _⟩
   by_cases h_eq : op = ⟨#[61, 61]⟩
   ·
    subst h_eq
    go_wp2_with (fail)
    refine (binds_any _ _).mono ?_
    rintro _ _ ⟨rfl, rfl⟩
    rw [show bindsE ⟨#[61, 61]⟩ = 2 from by decide]
    go_wp2_with (fail)
    have hpp := parse_any (opT ⟨#[61, 61]⟩) w5 (by rw [op_size]; decide)
    rw [p_eq] at hpp
    refine hpp.mono ?_
    clear hpp
    rintro _ w6 ⟨rfl, hb⟩
    replace HF := kF HF hb
    have hs6 := hb.size
    clear hb
    have HBW := Lib.hid (belB HF.out)
    go_wp2_with (fail)
    go_ret
    exact ⟨rfl, (HBW.out.alloc HBW.out.size _).alloc (by rw [World.size_alloc]; have := HBW.out.size; omega) _⟩
   by_cases h_lt : op = ⟨#[60]⟩
   ·
    subst h_lt
    go_wp2_with (fail)
    refine (binds_any _ _).mono ?_
    rintro _ _ ⟨rfl, rfl⟩
    rw [show bindsE ⟨#[60]⟩ = 2 from by decide]
    go_wp2_with (fail)
    have hpp := parse_any (opT ⟨#[60]⟩) w5 (by rw [op_size]; decide)
    rw [p_lt] at hpp
    refine hpp.mono ?_
    clear hpp
    rintro _ w6 ⟨rfl, hb⟩
    replace HF := kF HF hb
    have hs6 := hb.size
    clear hb
    have HBW := Lib.hid (belB HF.out)
    go_wp2_with (fail)
    go_ret
    exact ⟨rfl, (HBW.out.alloc HBW.out.size _).alloc (by rw [World.size_alloc]; have := HBW.out.size; omega) _⟩
   by_cases h_add : op = ⟨#[43]⟩
   ·
    subst h_add
    go_wp2_with (fail)
    refine (binds_any _ _).mono ?_
    rintro _ _ ⟨rfl, rfl⟩
    rw [show bindsE ⟨#[43]⟩ = 3 from by decide]
    go_wp2_with (fail)
    have hpp := parse_any (opT ⟨#[43]⟩) w5 (by rw [op_size]; decide)
    rw [p_add] at hpp
    refine hpp.mono ?_
    clear hpp
    rintro _ w6 ⟨ax, mx, cx, rfl, hb, hm⟩
    replace HF := kF HF hb
    have hs6 := hb.size
    clear hb
    have HMx := Lib.hid hm
    clear hm
    simp only [exV]
    obtain ⟨bx, ox, rfl, rfl, hbl, hcx, hmx, p0, p1, q0, q1⟩ := ex_two (x := e_add) rfl HMx.out
    clear HMx
    have P0 := Lib.hid p0
    have P1 := Lib.hid p1
    have Q0 := Lib.hid q0
    have Q1 := Lib.hid q1
    clear p0 p1 q0 q1
    simp only [e_add, Ex.kind, Ex.name, Ex.n, Ex.line, Ex.col] at P0 P1 Q0 Q1 ⊢
    have p0 := P0.out
    have p1 := P1.out
    have q0 := Q0.out
    have q1 := Q1.out
    clear P0 P1 Q0 Q1
    have hbn : bx ≠ w6.heap.size := Nat.ne_of_lt hbl
    have hbn1 : bx ≠ w6.heap.size + 1 := by omega
    have HBW := Lib.hid (belB HF.out)
    go_wp2_with (fail)
    go_ret
    exact ⟨rfl, (HBW.out.alloc HBW.out.size _).alloc (by rw [World.size_alloc]; have := HBW.out.size; omega) _⟩
   by_cases h_sub : op = ⟨#[45]⟩
   ·
    subst h_sub
    go_wp2_with (fail)
    refine (binds_any _ _).mono ?_
    rintro _ _ ⟨rfl, rfl⟩
    rw [show bindsE ⟨#[45]⟩ = 3 from by decide]
    go_wp2_with (fail)
    have hpp := parse_any (opT ⟨#[45]⟩) w5 (by rw [op_size]; decide)
    rw [p_sub] at hpp
    refine hpp.mono ?_
    clear hpp
    rintro _ w6 ⟨ax, mx, cx, rfl, hb, hm⟩
    replace HF := kF HF hb
    have hs6 := hb.size
    clear hb
    have HMx := Lib.hid hm
    clear hm
    simp only [exV]
    obtain ⟨bx, ox, rfl, rfl, hbl, hcx, hmx, p0, p1, q0, q1⟩ := ex_two (x := e_sub) rfl HMx.out
    clear HMx
    have P0 := Lib.hid p0
    have P1 := Lib.hid p1
    have Q0 := Lib.hid q0
    have Q1 := Lib.hid q1
    clear p0 p1 q0 q1
    simp only [e_sub, Ex.kind, Ex.name, Ex.n, Ex.line, Ex.col] at P0 P1 Q0 Q1 ⊢
    have p0 := P0.out
    have p1 := P1.out
    have q0 := Q0.out
    have q1 := Q1.out
    clear P0 P1 Q0 Q1
    have hbn : bx ≠ w6.heap.size := Nat.ne_of_lt hbl
    have hbn1 : bx ≠ w6.heap.size + 1 := by omega
    have HBW := Lib.hid (belB HF.out)
    go_wp2_with (fail)
    go_ret
    exact ⟨rfl, (HBW.out.alloc HBW.out.size _).alloc (by rw [World.size_alloc]; have := HBW.out.size; omega) _⟩
   by_cases h_mul : op = ⟨#[42]⟩
   ·
    subst h_mul
    go_wp2_with (fail)
    refine (binds_any _ _).mono ?_
    rintro _ _ ⟨rfl, rfl⟩
    rw [show bindsE ⟨#[42]⟩ = 4 from by decide]
    go_wp2_with (fail)
    have hpp := parse_any (opT ⟨#[42]⟩) w5 (by rw [op_size]; decide)
    rw [p_mul] at hpp
    refine hpp.mono ?_
    clear hpp
    rintro _ w6 ⟨ax, mx, cx, rfl, hb, hm⟩
    replace HF := kF HF hb
    have hs6 := hb.size
    clear hb
    have HMx := Lib.hid hm
    clear hm
    simp only [exV]
    obtain ⟨bx, ox, rfl, rfl, hbl, hcx, hmx, p0, p1, q0, q1⟩ := ex_two (x := e_mul) rfl HMx.out
    clear HMx
    have P0 := Lib.hid p0
    have P1 := Lib.hid p1
    have Q0 := Lib.hid q0
    have Q1 := Lib.hid q1
    clear p0 p1 q0 q1
    simp only [e_mul, Ex.kind, Ex.name, Ex.n, Ex.line, Ex.col] at P0 P1 Q0 Q1 ⊢
    have p0 := P0.out
    have p1 := P1.out
    have q0 := Q0.out
    have q1 := Q1.out
    clear P0 P1 Q0 Q1
    have hbn : bx ≠ w6.heap.size := Nat.ne_of_lt hbl
    have hbn1 : bx ≠ w6.heap.size + 1 := by omega
    have HBW := Lib.hid (belB HF.out)
    go_wp2_with (fail)
    go_ret
    exact ⟨rfl, (HBW.out.alloc HBW.out.size _).alloc (by rw [World.size_alloc]; have := HBW.out.size; omega) _⟩
   have hb0 : bindsE op = 0 := by unfold bindsE wOr; rw [if_neg h_or, if_neg (fun h => h.elim h_eq h_lt), if_neg (fun h => h.elim h_add h_sub), if_neg h_mul]
   go_wp2_with (fail)
   refine (binds_any _ _).mono ?_
   rintro _ _ ⟨rfl, rfl⟩
   rw [hb0]
   go_wp2_with (fail)
   obtain ⟨rx, hrx⟩ : ∃ rx, parseE (opT op) = rx := ⟨_, rfl⟩
   have HRX := Lib.hid hrx
   clear hrx
   cases rx with
   | ok x =>
    have hpp := parse_any (opT op) w5 (by rw [op_size]; omega)
    rw [HRX.out] at hpp
    refine hpp.mono ?_
    clear hpp
    rintro _ w6 ⟨ax, mx, cx, rfl, hb, hm⟩
    replace HF := kF HF hb
    have hs6 := hb.size
    clear hb
    have HMx := Lib.hid hm
    clear hm
    simp only [exV]
    have HBW := Lib.hid (belB HF.out)
    go_wp2_with (fail)
    go_ret
    exact ⟨rfl, (HBW.out.alloc HBW.out.size _).alloc (by rw [World.size_alloc]; have := HBW.out.size; omega) _⟩
   | bad kx lx cx =>
    have hpp := parse_any (opT op) w5 (by rw [op_size]; omega)
    rw [HRX.out] at hpp
    refine hpp.mono ?_
    clear hpp
    rintro _ w6 ⟨rfl, hb⟩
    replace HF := kF HF hb
    have hs6 := hb.size
    clear hb
    have HBW := Lib.hid (belB HF.out)
    go_wp2_with (fail)
    go_ret
    exact ⟨rfl, (HBW.out.alloc HBW.out.size _).alloc (by rw [World.size_alloc]; have := HBW.out.size; omega) _⟩
end Go.Proofs.Ytnmlobakiclgiaa
