/-
  The law's own draws, walked: its expressions are the texts of their draws. No condition but sizes, and how the variables lie.
-/
import Derived.Test.YtppejoccljfblaaGen1
import Derived.Test.YtppejoccljfblaaDigits
namespace Go.Proofs.Ytppejoccljfblaa
open Go.RowKit

theorem nx1_parts (x : Int) : 0 ≤ bits .xor .u64 x (IntKind.u64.wrap (x * 8192)) ∧ bits .xor .u64 x (IntKind.u64.wrap (x * 8192)) < 18446744073709551616 := bits_u64 _ _
theorem quo_u64 {A : Int} (h : 0 ≤ A ∧ A < 18446744073709551616) : IntKind.u64.wrap (A.tdiv 128) = A / 128 := by
  rw [Int.tdiv_eq_ediv_of_nonneg h.1, IntKind.wrap_u64]; omega
set_option maxRecDepth 100000 in
set_option maxHeartbeats 2000000 in
theorem below_pos {n : Nat} (hn : 0 < n) (hn2 : n ≤ 1000) {q : Nat} {s : Int} (w : World) (h : Sd 62 q s w) (hs : 0 < s) :
    Calls Try.prog 34 #[.pointer (some ⟨q, 0, none⟩), .int .i64 n] w fun e w' => e = .returned (.int .i64 (dr s n : Nat)) ∧ Far (fun k => k = q) w w' ∧ Sd 62 q (nxt s) w' := by
  have hs0 : (s == 0) = false := by rw [beq_eq_false_iff_ne]; omega
  have hnx : nxt s = nx1 s := by rw [nxt, if_neg (by omega)]
  have c0 : w.cell? ⟨q, 0, none⟩ = some (.int .u64 s) := h.1.cell (j := 0) rfl
  have f0 : ¬ w.frozen? ⟨q, 0, none⟩ = true := by rw [h.1.frozen 0]; decide
  have hr := nxt_range s
  have hd := dr_int s hn
  have hl := dr_lt s hn
  have e1 : IntKind.u64.wrap (n : Int) = (n : Int) := by rw [IntKind.wrap_u64]; omega
  have e2 : ¬ (n : Int) = 0 := by omega
  have hq := quo_u64 (nx1_parts s)
  have e3 : wrap64 ((nxt s).tmod (n : Int)) = ((dr s n : Nat) : Int) := by
    rw [Int.tmod_eq_emod_of_nonneg hr.1, ← hd]; simp only [wrap64]; omega
  have HS := Lib.hid h
  have HR := Lib.hid hr.1
  rw [hnx] at e3
  unfold nx1 at e3
  have HE := Lib.hid e3
  have HNX : Hid (nxt s = _) := Lib.hid (by rw [hnx, nx1])
  clear hr hd hl h hnx e3 hs
  go_enter Try.func34, Try.ntmps34
  go_wp2
  go_ret
  exact ⟨ret_int HE.out, (Far.refl (fun k => k = q) w).setCell (p := ⟨q, 0, none⟩) rfl _, by rw [HNX.out]; exact HS.out.1.set 0 _, HR.out⟩
theorem nxt_zero : bits .xor .u64 (bits .xor .u64 (bits .xor .u64 1 8192) (IntKind.u64.wrap ((bits .xor .u64 1 8192).tdiv 128))) (IntKind.u64.wrap (bits .xor .u64 (bits .xor .u64 1 8192) (IntKind.u64.wrap ((bits .xor .u64 1 8192).tdiv 128)) * 131072)) = nxt 0 := by kernel_rfl
set_option maxRecDepth 100000 in
set_option maxHeartbeats 2000000 in
theorem below_zero {n : Nat} (hn : 0 < n) (hn2 : n ≤ 1000) {q : Nat} (w : World) (h : Sd 62 q 0 w) :
    Calls Try.prog 34 #[.pointer (some ⟨q, 0, none⟩), .int .i64 n] w fun e w' => e = .returned (.int .i64 (dr 0 n : Nat)) ∧ Far (fun k => k = q) w w' ∧ Sd 62 q (nxt 0) w' := by
  have c0 : w.cell? ⟨q, 0, none⟩ = some (.int .u64 0) := h.1.cell (j := 0) rfl
  have f0 : ¬ w.frozen? ⟨q, 0, none⟩ = true := by rw [h.1.frozen 0]; decide
  have hr := nxt_range 0
  have hd := dr_int 0 hn
  have hl := dr_lt 0 hn
  have e1 : IntKind.u64.wrap (n : Int) = (n : Int) := by rw [IntKind.wrap_u64]; omega
  have e2 : ¬ (n : Int) = 0 := by omega
  have e3 : wrap64 ((nxt 0).tmod (n : Int)) = ((dr 0 n : Nat) : Int) := by
    rw [Int.tmod_eq_emod_of_nonneg hr.1, ← hd]; simp only [wrap64]; omega
  have HS := Lib.hid h
  have HR := Lib.hid hr.1
  have HE := Lib.hid e3
  clear hr hd hl h e3
  go_enter Try.func34, Try.ntmps34
  go_wp2
  go_ret
  exact ⟨ret_int ((congrArg (fun z => wrap64 (Int.tmod z (n : Int))) nxt_zero).trans HE.out), (Far.refl (fun k => k = q) w).setCell (p := ⟨q, 0, none⟩) rfl _, by rw [← nxt_zero]; exact HS.out.1.set 0 _, HR.out⟩
/-- The next number below a bound. -/
theorem below_any {n : Nat} (hn : 0 < n) (hn2 : n ≤ 1000) {q : Nat} {s : Int} (w : World) (h : Sd 62 q s w) :
    Calls Try.prog 34 #[.pointer (some ⟨q, 0, none⟩), .int .i64 n] w fun e w' => e = .returned (.int .i64 (dr s n : Nat)) ∧ Far (fun k => k = q) w w' ∧ Sd 62 q (nxt s) w' := by
  by_cases h0 : s = 0
  · subst h0; exact below_zero hn hn2 w h
  · exact below_pos hn hn2 w h (by have := h.2; omega)

variable {vs : List ByteArray} {fs q : Nat}
def RE (vs : List ByteArray) (fs q d : Nat) : Prop := ∀ (w : World) (s : Int) (a : Option Addr) (n cap : Nat), VM q w vs a n cap → Sd 62 q s w →
  Calls Try.prog 35 #[.pointer (some ⟨q, 0, none⟩), .slice a n cap, .int .i64 fs, .int .i64 d] w fun e w' => e = .returned (.string (exprQ vs fs d s).1) ∧ Far (fun k => k = q) w w' ∧ Sd 62 q (exprQ vs fs d s).2 w'
def RA (vs : List ByteArray) (fs q d : Nat) : Prop := ∀ (w : World) (s : Int) (a : Option Addr) (n cap : Nat), VM q w vs a n cap → Sd 62 q s w →
  Calls Try.prog 36 #[.pointer (some ⟨q, 0, none⟩), .slice a n cap, .int .i64 fs, .int .i64 d] w fun e w' => e = .returned (.string (argQ (exprQ vs fs d) s).1) ∧ Far (fun k => k = q) w w' ∧ Sd 62 q (argQ (exprQ vs fs d) s).2 w'

theorem any_take {t : ByteArray} {k : Nat} (hk : k < t.size) : (t.data.toList.take (k + 1)).any (· == 32) = ((t.data.toList.take k).any (· == 32) || t[k] == 32) := by
  rw [take_snoc t k hk]; simp
theorem any_at {t : ByteArray} {k : Nat} (hk : k < t.size) (h : t[k] = 32) : t.data.toList.any (· == 32) = true := List.any_eq_true.2 ⟨_, mem_byte t k hk, by rw [h]; rfl⟩
set_option maxRecDepth 100000 in
set_option maxHeartbeats 2000000 in
theorem ra_of {d : Nat} (hd : d ≤ 4) (hv : ∀ v ∈ vs, v.size ≤ 1) (hf : fs ≤ 1000) (IH : RE vs fs q d) : RA vs fs q d := by
  intro w s a n cap hV hS
  have hsz : (exprQ vs fs d s).1.size ≤ 616 := Nat.le_trans (exprQ_size hv hf d s) (exS_le hd)
  have HC := Lib.hid (IH w s a n cap hV hS)
  have HB : Hid ((argQ (exprQ vs fs d) s).1 = brk (exprQ vs fs d s).1) := Lib.hid rfl
  have HB2 : Hid ((argQ (exprQ vs fs d) s).2 = (exprQ vs fs d s).2) := Lib.hid rfl
  generalize argQ (exprQ vs fs d) s = R at *
  generalize exprQ vs fs d s = E at *
  obtain ⟨R1, R2⟩ := R
  obtain ⟨t, s2⟩ := E
  simp only at HB HB2 HC hsz ⊢
  have hb2 := HB2.out
  subst hb2
  clear HB2 hV hS
  go_enter Try.func36, Try.ntmps36
  go_wp2_with fail
  refine HC.out.mono ?_
  rintro e w2 ⟨rfl, hf2, hs2⟩
  have HF2 := Lib.hid hf2
  have HS2 := Lib.hid hs2
  clear hf2 hs2
  go_wp2_with fail
  go_loop [10, 16, 17, 18, 19, 20, 21, 22, 23, 24, 25, 26, 27, 28] (fun v _ _ _ _ _ _ _ _ _ _ _ _ _ => ∃ k : Nat, v = .int .i64 k ∧ k ≤ t.size ∧ Hid ((t.data.toList.take k).any (· == 32) = false)) (fun v _ _ _ _ _ _ _ _ _ _ _ _ _ => t.size - (intOf v).toNat)
  case atStart => exact ⟨0, rfl, Nat.zero_le _, Lib.hid (by rw [List.take_zero]; rfl)⟩
  case round =>
    obtain ⟨k, rfl, hk, HN⟩ := hrel
    by_cases hlt : k < t.size
    · have hltz : (k : Int) < (t.size : Int) := by omega
      by_cases hx : t[k] = 32
      · have he : ((t[k].toNat : Int) == 32) = true := by rw [hx]; rfl
        have HA : Hid (R1 = ⟨#[40]⟩ ++ t ++ ⟨#[41]⟩) := Lib.hid (by rw [HB.out, brk, if_pos (any_at hlt hx)])
        clear hx HB
        go_wp2
        go_ret
        exact ⟨by rw [HA.out]; rfl, HF2.out, HS2.out⟩
      · have he : ((t[k].toNat : Int) == 32) = false := by
          rw [beq_eq_false_iff_ne]; intro e
          exact hx (UInt8.toNat_inj.1 (by show _ = 32; omega))
        have HN2 : Hid ((t.data.toList.take (k + 1)).any (· == 32) = false) := Lib.hid (by rw [any_take hlt, HN.out, Bool.false_or, beq_eq_false_iff_ne]; exact hx)
        clear hx
        go_wp2
        go_round
        case rel => exact ⟨k + 1, by go_num, by omega, HN2⟩
        case measure => simp [intOf] <;> omega
    · obtain rfl : k = t.size := by omega
      have hltz : ¬ (t.size : Int) < (t.size : Int) := by omega
      have HA : Hid (R1 = t) := Lib.hid (by
        have := HN.out
        rw [List.take_of_length_le (by rw [length_data]; exact Nat.le_refl _)] at this
        rw [HB.out, brk, if_neg (by rw [this]; decide)])
      go_wp2
      go_ret
      exact ⟨by rw [HA.out]; rfl, HF2.out, HS2.out⟩

set_option maxRecDepth 100000 in
set_option maxHeartbeats 2000000 in
theorem re_zero (hn : vs.length ≤ 1000) : RE vs fs q 0 := by
  intro w s a n cap hV hS
  have hr := dr_lt s (n := 2) (by decide)
  by_cases h0 : dr s 2 = 0
  · have HXV : Hid (exprQ vs fs 0 s = varQ vs (nxt s)) := Lib.hid (by rw [exprQ, if_pos h0])
    have HR := Lib.hid h0
    clear h0 hr
    by_cases hn0 : vs.length = 0
    · have HX : Hid (exprQ vs fs 0 s = (⟨#[90]⟩, nxt s)) := Lib.hid (by rw [HXV.out, varQ, if_pos hn0])
      have hdz : ((n : Int) == 0) = true := by rw [beq_iff_eq]; have := hV.len.1; omega
      clear hn0
      have HV := Lib.hid hV
      have HS := Lib.hid hS
      clear hV hS
      go_enter Try.func35, Try.ntmps35
      go_wp2_with fail
      refine (below_any (n := 2) (by decide) (by decide) _ HS.out).mono ?_
      rintro e w2 ⟨rfl, hf2, hs2⟩
      rw [HR.out]
      have HF2 := Lib.hid hf2
      have HS2 := Lib.hid hs2
      clear hf2 hs2 HR
      go_wp2_with fail
      go_ret
      exact ⟨by rw [HX.out]; rfl, HF2.out, by rw [HX.out]; exact HS2.out⟩
    · have HX : Hid (exprQ vs fs 0 s = (vs.getD (dr (nxt s) vs.length) ByteArray.empty, nxt (nxt s))) := Lib.hid (by rw [HXV.out, varQ, if_neg hn0])
      have hk := dr_lt (nxt s) (Nat.pos_of_ne_zero hn0)
      have hln := hV.len.1
      obtain ⟨b, o, x, rfl, hbS, Hx, y0⟩ := str_at hV (dr (nxt s) vs.length) (by omega)
      have HXX : Hid (vs.getD (dr (nxt s) vs.length) ByteArray.empty = x) := Lib.hid (by rw [List.getD_eq_getElem?_getD, Hx.out]; rfl)
      rw [HXX.out] at HX
      have hdz : ((n : Int) == 0) = false := by rw [beq_eq_false_iff_ne]; omega
      have hkz : ((dr (nxt s) n : Nat) : Int) < (n : Int) := by rw [hln] at hk; omega
      have hn0' : 0 < n := by omega
      have hn9 : n ≤ 1000 := by omega
      rw [hln] at y0
      have Y0 := Lib.hid y0
      have hbq := hbS.1
      clear Hx HXX hk hln hn0 hbS y0
      have HV := Lib.hid hV
      have HS := Lib.hid hS
      clear hV hS
      go_enter Try.func35, Try.ntmps35
      go_wp2_with fail
      refine (below_any (n := 2) (by decide) (by decide) _ HS.out).mono ?_
      rintro e w2 ⟨rfl, hf2, hs2⟩
      rw [HR.out]
      have y1 := (hf2.cell (World.block_lt_of_cell? w _ Y0.out) hbq).trans Y0.out
      have HF2 := Lib.hid hf2
      have HS2 := Lib.hid hs2
      clear Y0 hf2 hs2 HR
      go_wp2_with fail
      refine (below_any (n := n) hn0' hn9 _ HS2.out).mono ?_
      rintro e w3 ⟨rfl, hf3, hs3⟩
      have HF3 := Lib.hid (HF2.out.trans hf3)
      have HS3 := Lib.hid hs3
      have y2 := (hf3.cell (World.block_lt_of_cell? w2 _ y1) hbq).trans y1
      clear hf3 hs3 y1
      go_wp2_with fail
      go_ret
      exact ⟨by rw [HX.out]; rfl, HF3.out, by rw [HX.out]; exact HS3.out⟩
  · have HX : Hid (exprQ vs fs 0 s = (⟨#[90]⟩, nxt s)) := Lib.hid (by rw [exprQ, if_neg h0])
    have HR : Hid (dr s 2 = 1) := Lib.hid (by omega)
    clear h0 hr
    have HV := Lib.hid hV
    have HS := Lib.hid hS
    clear hV hS
    go_enter Try.func35, Try.ntmps35
    go_wp2_with fail
    refine (below_any (n := 2) (by decide) (by decide) _ HS.out).mono ?_
    rintro e w2 ⟨rfl, hf2, hs2⟩
    rw [HR.out]
    have HF2 := Lib.hid hf2
    have HS2 := Lib.hid hs2
    clear hf2 hs2 HR
    go_wp2_with fail
    go_ret
    exact ⟨by rw [HX.out]; rfl, HF2.out, by rw [HX.out]; exact HS2.out⟩

set_option maxRecDepth 100000 in
set_option maxHeartbeats 2000000 in
theorem re_succ {d : Nat} (hn : vs.length ≤ 1000) (hd : d ≤ 3) (hv : ∀ v ∈ vs, v.size ≤ 1) (hf : fs ≤ 1000) (IH : RA vs fs q d) : RE vs fs q (d + 1) := by
  intro w s a n cap hV hS
  have HIH := Lib.hid IH
  have hd4 := exS_le (d := d) (by omega)
  have HSZ : Hid (∀ s, (argQ (exprQ vs fs d) s).1.size ≤ 618) := Lib.hid fun s => by
    have h1 := brk_size (exprQ vs fs d s).1
    have h2 := exprQ_size hv hf d s
    show (brk (exprQ vs fs d s).1).size ≤ _
    omega
  have HKD := Lib.hid (fun p j => reps_size (E := exprQ vs fs d) (m := exS d) (fun s => exprQ_size hv hf d s) p j)
  have hd0 : (0 : Int) < (d : Int) + 1 := by omega
  have e1 : IntKind.i64.wrap ((d : Int) + 1 - 1) = (d : Int) := by rw [IntKind.wrap_i64]; omega
  have e2 : IntKind.i64.wrap (d : Int) = (d : Int) := by rw [IntKind.wrap_i64]; omega
  have hr := dr_lt s (n := 5) (by decide)
  have HE : Hid (exprQ vs fs (d + 1) s = if dr s 5 = 0 then varQ vs (nxt s) else if dr s 5 = 1 then (⟨#[90]⟩, nxt s) else if dr s 5 = 3 then threeQ (exprQ vs fs d) (nxt s)
      else if dr s 5 = 4 ∧ 0 < fs then callQ fs (exprQ vs fs d) (nxt s) else succQ (exprQ vs fs d) (nxt s)) := Lib.hid (by rw [exprQ])
  clear hv IH
  by_cases h0 : dr s 5 = 0
  · have HXV : Hid (exprQ vs fs (d + 1) s = varQ vs (nxt s)) := Lib.hid (by rw [HE.out, if_pos h0])
    have HR := Lib.hid h0
    clear h0 hr HE HSZ HKD hd4
    by_cases hn0 : vs.length = 0
    · have HX : Hid (exprQ vs fs (d + 1) s = (⟨#[90]⟩, nxt s)) := Lib.hid (by rw [HXV.out, varQ, if_pos hn0])
      have hdz : ((n : Int) == 0) = true := by rw [beq_iff_eq]; have := hV.len.1; omega
      clear hn0
      have HV := Lib.hid hV
      have HS := Lib.hid hS
      clear hV hS
      go_enter Try.func35, Try.ntmps35
      go_wp2_with fail
      refine (below_any (n := 5) (by decide) (by decide) _ HS.out).mono ?_
      rintro e w2 ⟨rfl, hf2, hs2⟩
      rw [HR.out]
      have HF2 := Lib.hid hf2
      have HS2 := Lib.hid hs2
      clear hf2 hs2 HR
      go_wp2_with fail
      go_ret
      exact ⟨by rw [HX.out]; rfl, HF2.out, by rw [HX.out]; exact HS2.out⟩
    · have HX : Hid (exprQ vs fs (d + 1) s = (vs.getD (dr (nxt s) vs.length) ByteArray.empty, nxt (nxt s))) := Lib.hid (by rw [HXV.out, varQ, if_neg hn0])
      have hk := dr_lt (nxt s) (Nat.pos_of_ne_zero hn0)
      have hln := hV.len.1
      obtain ⟨b, o, x, rfl, hbS, Hx, y0⟩ := str_at hV (dr (nxt s) vs.length) (by omega)
      have HXX : Hid (vs.getD (dr (nxt s) vs.length) ByteArray.empty = x) := Lib.hid (by rw [List.getD_eq_getElem?_getD, Hx.out]; rfl)
      rw [HXX.out] at HX
      have hdz : ((n : Int) == 0) = false := by rw [beq_eq_false_iff_ne]; omega
      have hkz : ((dr (nxt s) n : Nat) : Int) < (n : Int) := by rw [hln] at hk; omega
      have hn0' : 0 < n := by omega
      have hn9 : n ≤ 1000 := by omega
      rw [hln] at y0
      have Y0 := Lib.hid y0
      have hbq := hbS.1
      clear Hx HXX hk hln hn0 hbS y0
      have HV := Lib.hid hV
      have HS := Lib.hid hS
      clear hV hS
      go_enter Try.func35, Try.ntmps35
      go_wp2_with fail
      refine (below_any (n := 5) (by decide) (by decide) _ HS.out).mono ?_
      rintro e w2 ⟨rfl, hf2, hs2⟩
      rw [HR.out]
      have y1 := (hf2.cell (World.block_lt_of_cell? w _ Y0.out) hbq).trans Y0.out
      have HF2 := Lib.hid hf2
      have HS2 := Lib.hid hs2
      clear Y0 hf2 hs2 HR
      go_wp2_with fail
      refine (below_any (n := n) hn0' hn9 _ HS2.out).mono ?_
      rintro e w3 ⟨rfl, hf3, hs3⟩
      have HF3 := Lib.hid (HF2.out.trans hf3)
      have HS3 := Lib.hid hs3
      have y2 := (hf3.cell (World.block_lt_of_cell? w2 _ y1) hbq).trans y1
      clear hf3 hs3 y1
      go_wp2_with fail
      go_ret
      exact ⟨by rw [HX.out]; rfl, HF3.out, by rw [HX.out]; exact HS3.out⟩
  by_cases h1 : dr s 5 = 1
  · have HX : Hid (exprQ vs fs (d + 1) s = (⟨#[90]⟩, nxt s)) := Lib.hid (by rw [HE.out, if_neg h0, if_pos h1])
    have HR := Lib.hid h1
    clear h0 h1 hr HE HSZ HKD hd4
    have HV := Lib.hid hV
    have HS := Lib.hid hS
    clear hV hS
    go_enter Try.func35, Try.ntmps35
    go_wp2_with fail
    refine (below_any (n := 5) (by decide) (by decide) _ HS.out).mono ?_
    rintro e w2 ⟨rfl, hf2, hs2⟩
    rw [HR.out]
    have HF2 := Lib.hid hf2
    have HS2 := Lib.hid hs2
    clear hf2 hs2 HR
    go_wp2_with fail
    go_ret
    exact ⟨by rw [HX.out]; rfl, HF2.out, by rw [HX.out]; exact HS2.out⟩
  by_cases h3 : dr s 5 = 3
  · have HXV : Hid (exprQ vs fs (d + 1) s = threeQ (exprQ vs fs d) (nxt s)) := Lib.hid (by rw [HE.out, if_neg h0, if_neg h1, if_pos h3])
    have HR := Lib.hid h3
    clear h0 h1 h3 hr HE
    have HX : Hid (exprQ vs fs (d + 1) s = threeQ (exprQ vs fs d) (nxt s)) := Lib.hid HXV.out
    have HT1 : Hid ((threeQ (exprQ vs fs d) (nxt s)).1 = (argQ (exprQ vs fs d) (nxt s)).1 ++ ⟨#[32, 63, 32]⟩ ++ (argQ (exprQ vs fs d) (argQ (exprQ vs fs d) (nxt s)).2).1) := Lib.hid rfl
    have HT2 : Hid ((threeQ (exprQ vs fs d) (nxt s)).2 = (argQ (exprQ vs fs d) (argQ (exprQ vs fs d) (nxt s)).2).2) := Lib.hid rfl
    have hz1 := HSZ.out (nxt s)
    have hz2 := HSZ.out (argQ (exprQ vs fs d) (nxt s)).2
    clear hd4
    have HV := Lib.hid hV
    have HS := Lib.hid hS
    clear hV hS
    go_enter Try.func35, Try.ntmps35
    go_wp2_with fail
    refine (below_any (n := 5) (by decide) (by decide) _ HS.out).mono ?_
    rintro e w2 ⟨rfl, hf2, hs2⟩
    rw [HR.out]
    have HF2 := Lib.hid hf2
    have HS2 := Lib.hid hs2
    clear hf2 hs2 HR
    go_wp2_with fail
    refine (HIH.out w2 (nxt s) a n cap (HV.out.far HF2.out) HS2.out).mono ?_
    rintro e w3 ⟨rfl, hf1, hs1⟩
    have HF_w3 := Lib.hid (HF2.out.trans hf1)
    have HS_w3 := Lib.hid hs1
    clear hf1 hs1
    go_wp2_with fail
    refine (HIH.out w3 (argQ (exprQ vs fs d) (nxt s)).2 a n cap (HV.out.far HF_w3.out) HS_w3.out).mono ?_
    rintro e w4 ⟨rfl, hf1, hs1⟩
    have HF_w4 := Lib.hid (HF_w3.out.trans hf1)
    have HS_w4 := Lib.hid hs1
    clear hf1 hs1
    go_wp2_with fail
    go_ret
    exact ⟨by rw [HX.out, HT1.out]; rfl, HF_w4.out, by rw [HX.out, HT2.out]; exact HS_w4.out⟩
  by_cases h4 : dr s 5 = 4
  · by_cases hf0 : 0 < fs
    · have HXV : Hid (exprQ vs fs (d + 1) s = callQ fs (exprQ vs fs d) (nxt s)) := Lib.hid (by rw [HE.out, if_neg h0, if_neg h1, if_neg h3, if_pos ⟨h4, hf0⟩])
      have HR := Lib.hid h4
      clear h0 h1 h3 h4 hr HE HSZ
      have HX : Hid (exprQ vs fs (d + 1) s = callQ fs (exprQ vs fs d) (nxt s)) := Lib.hid HXV.out
      have HRR : Hid (callQ fs (exprQ vs fs d) (nxt s) = reps (exprQ vs fs d) (nameS (dr (nxt s) fs), nxt (nxt s)) (1 + dr (nxt s) fs % 2)) := Lib.hid rfl
      have hfz : decide (0 < fs) = true := decide_eq_true hf0
      have hk := dr_lt (nxt s) hf0
      have HNS : Hid (∀ k : Nat, k < fs → ⟨#[102]⟩ ++ ⟨(digs (k : Int)).toArray⟩ = nameS k) := Lib.hid fun _ _ => rfl
      have HV := Lib.hid hV
      have HS := Lib.hid hS
      clear hV hS
      go_enter Try.func35, Try.ntmps35
      go_wp2_with fail
      refine (below_any (n := 5) (by decide) (by decide) _ HS.out).mono ?_
      rintro e w2 ⟨rfl, hf2, hs2⟩
      rw [HR.out]
      have HF2 := Lib.hid hf2
      have HS2 := Lib.hid hs2
      clear hf2 hs2 HR
      go_wp2_with fail
      refine (below_any (n := fs) hf0 hf _ HS2.out).mono ?_
      rintro e w3 ⟨rfl, hf3, hs3⟩
      have HF3 := Lib.hid (HF2.out.trans hf3)
      have HS3 := Lib.hid hs3
      clear hf3 hs3
      generalize dr (nxt s) fs = k at *
      generalize nxt (nxt s) = s2 at *
      have hkb : k ≤ 1000 := Nat.le_trans (Nat.le_of_lt hk) hf
      have hnm := nameS_size (k := k) (by omega)
      have hdl := digs_len (k := k) (by omega)
      have hkl : -9223372036854775808 ≤ (k : Int) := by omega
      have hkr : (k : Int) ≤ 9223372036854775807 := by omega
      have hns := HNS.out k hk
      have hkm : 1 + k % 2 ≤ 2 := by omega
      obtain ⟨m, hm⟩ : ∃ m, 1 + k % 2 = m := ⟨_, rfl⟩
      rw [hm] at HRR hkm
      have hmz : 1 + (k : Int) % 2 = (m : Int) := by omega
      clear hm HNS hk
      go_wp2_with fail
      refine (rDigits_any (k : Int) _ hkl hkr).mono ?_
      rintro e w4 ⟨rfl, hb4⟩
      have HF4 := Lib.hid (HF3.out.trans (Far.of hb4))
      have HS4 := Lib.hid (HS3.out.keep hb4)
      clear hb4
      go_wp2_with fail
      clear hmz
      go_loopw [12, 62] (fun v vi wr => ∃ j : Nat, vi = .int .i64 j ∧ j ≤ m ∧ v = .string (reps (exprQ vs fs d) (nameS k, s2) j).1 ∧ Hid (Far (fun k => k = q) w wr) ∧ Hid (Sd 62 q (reps (exprQ vs fs d) (nameS k, s2) j).2 wr)) (fun _ vi _ => m - (intOf vi).toNat)
      case atStart => exact ⟨0, rfl, Nat.zero_le _, rfl, HF4, HS4⟩
      case round =>
        obtain ⟨j, rfl, hj, rfl, HF, HS⟩ := hrel
        by_cases hlt : j < m
        · have hltz : (j : Int) < (m : Int) := by omega
          have HN1 : Hid ((reps (exprQ vs fs d) (nameS k, s2) (j + 1)).1 = (reps (exprQ vs fs d) (nameS k, s2) j).1 ++ (⟨#[32]⟩ ++ (argQ (exprQ vs fs d) (reps (exprQ vs fs d) (nameS k, s2) j).2).1)) := Lib.hid rfl
          have HN2 : Hid ((reps (exprQ vs fs d) (nameS k, s2) (j + 1)).2 = (argQ (exprQ vs fs d) (reps (exprQ vs fs d) (nameS k, s2) j).2).2) := Lib.hid rfl
          have hz := HKD.out (nameS k, s2) (j + 1)
          have hzm : (j + 1) * (exS d + 3) ≤ 2 * (exS d + 3) := Nat.mul_le_mul_right _ (by omega)
          rw [HN1.out, ByteArray.size_append, ByteArray.size_append] at hz
          have hz2 : (reps (exprQ vs fs d) (nameS k, s2) j).1.size + (1 + (argQ (exprQ vs fs d) (reps (exprQ vs fs d) (nameS k, s2) j).2).1.size) ≤ 2000 := by
            refine Nat.le_trans hz ?_
            simp only
            omega
          clear hz hzm
          have HC := Lib.hid (HIH.out wr (reps (exprQ vs fs d) (nameS k, s2) j).2 a n cap (HV.out.far HF.out) HS.out)
          generalize reps (exprQ vs fs d) (nameS k, s2) j = P at *
          generalize argQ (exprQ vs fs d) P.2 = A at *
          go_wp2_with fail
          refine HC.out.mono ?_
          rintro e w5 ⟨rfl, hf5, hs5⟩
          have HF5 := Lib.hid (HF.out.trans hf5)
          have HS5 := Lib.hid hs5
          clear hf5 hs5
          go_wp2_with fail
          go_roundw
          case rel => exact ⟨j + 1, by go_num, by omega, by rw [HN1.out], HF5.out, Lib.hid (by rw [HN2.out]; exact HS5.out)⟩
          case measure => simp [intOf] <;> omega
        · obtain rfl : j = m := by omega
          have hltz : ¬ (j : Int) < (j : Int) := by omega
          go_wp2
          go_ret
          exact ⟨by rw [HX.out, HRR.out]; rfl, HF.out, by rw [HX.out, HRR.out]; exact HS.out⟩
    · have HXV : Hid (exprQ vs fs (d + 1) s = succQ (exprQ vs fs d) (nxt s)) := Lib.hid (by rw [HE.out, if_neg h0, if_neg h1, if_neg h3, if_neg (fun h => hf0 h.2)])
      have HR := Lib.hid h4
      have hfz : decide (0 < fs) = false := decide_eq_false (by omega)
      clear h0 h1 h3 h4 hr HE hf0
      have HX : Hid (exprQ vs fs (d + 1) s = succQ (exprQ vs fs d) (nxt s)) := Lib.hid HXV.out
      have HT1 : Hid ((succQ (exprQ vs fs d) (nxt s)).1 = ⟨#[83, 32]⟩ ++ (argQ (exprQ vs fs d) (nxt s)).1) := Lib.hid rfl
      have HT2 : Hid ((succQ (exprQ vs fs d) (nxt s)).2 = (argQ (exprQ vs fs d) (nxt s)).2) := Lib.hid rfl
      have hz1 := HSZ.out (nxt s)
      clear hd4
      have HV := Lib.hid hV
      have HS := Lib.hid hS
      clear hV hS
      go_enter Try.func35, Try.ntmps35
      go_wp2_with fail
      refine (below_any (n := 5) (by decide) (by decide) _ HS.out).mono ?_
      rintro e w2 ⟨rfl, hf2, hs2⟩
      rw [HR.out]
      have HF2 := Lib.hid hf2
      have HS2 := Lib.hid hs2
      clear hf2 hs2 HR
      go_wp2_with fail
      refine (HIH.out w2 (nxt s) a n cap (HV.out.far HF2.out) HS2.out).mono ?_
      rintro e w3 ⟨rfl, hf1, hs1⟩
      have HF_w3 := Lib.hid (HF2.out.trans hf1)
      have HS_w3 := Lib.hid hs1
      clear hf1 hs1
      go_wp2_with fail
      go_ret
      exact ⟨by rw [HX.out, HT1.out]; rfl, HF_w3.out, by rw [HX.out, HT2.out]; exact HS_w3.out⟩
  · have HXV : Hid (exprQ vs fs (d + 1) s = succQ (exprQ vs fs d) (nxt s)) := Lib.hid (by rw [HE.out, if_neg h0, if_neg h1, if_neg h3, if_neg (fun h => h4 h.1)])
    have HR : Hid (dr s 5 = 2) := Lib.hid (by omega)
    clear h0 h1 h3 h4 hr HE
    have HX : Hid (exprQ vs fs (d + 1) s = succQ (exprQ vs fs d) (nxt s)) := Lib.hid HXV.out
    have HT1 : Hid ((succQ (exprQ vs fs d) (nxt s)).1 = ⟨#[83, 32]⟩ ++ (argQ (exprQ vs fs d) (nxt s)).1) := Lib.hid rfl
    have HT2 : Hid ((succQ (exprQ vs fs d) (nxt s)).2 = (argQ (exprQ vs fs d) (nxt s)).2) := Lib.hid rfl
    have hz1 := HSZ.out (nxt s)
    clear hd4
    have HV := Lib.hid hV
    have HS := Lib.hid hS
    clear hV hS
    go_enter Try.func35, Try.ntmps35
    go_wp2_with fail
    refine (below_any (n := 5) (by decide) (by decide) _ HS.out).mono ?_
    rintro e w2 ⟨rfl, hf2, hs2⟩
    rw [HR.out]
    have HF2 := Lib.hid hf2
    have HS2 := Lib.hid hs2
    clear hf2 hs2 HR
    go_wp2_with fail
    refine (HIH.out w2 (nxt s) a n cap (HV.out.far HF2.out) HS2.out).mono ?_
    rintro e w3 ⟨rfl, hf1, hs1⟩
    have HF_w3 := Lib.hid (HF2.out.trans hf1)
    have HS_w3 := Lib.hid hs1
    clear hf1 hs1
    go_wp2_with fail
    go_ret
    exact ⟨by rw [HX.out, HT1.out]; rfl, HF_w3.out, by rw [HX.out, HT2.out]; exact HS_w3.out⟩

/-- An expression of a depth, whatever its seed. -/
theorem re_any (hn : vs.length ≤ 1000) (hv : ∀ v ∈ vs, v.size ≤ 1) (hf : fs ≤ 1000) : ∀ d, d ≤ 4 → RE vs fs q d
  | 0, _ => re_zero hn
  | d + 1, h => re_succ hn (by omega) hv hf (ra_of (by omega) hv hf (re_any hn hv hf d (by omega)))
theorem ra_any (hn : vs.length ≤ 1000) (hv : ∀ v ∈ vs, v.size ≤ 1) (hf : fs ≤ 1000) (d : Nat) (hd : d ≤ 4) : RA vs fs q d := ra_of hd hv hf (re_any hn hv hf d hd)
end Go.Proofs.Ytppejoccljfblaa
