/-
  gen's expressions, walked: what a writer writes is the text of its draws. No condition but sizes, and how its variables lie.
-/
import Derived.Test.YtppejoccljfblaaGen0
import Derived.BigQuiet
import Derived.Deep.RegionHeld3
import Derived.StillTailTactics
namespace Go.Proofs.Ytppejoccljfblaa
open Go.RowKit

/-- The variables, in memory, apart from the seed. -/
def VM (q : Nat) (w : World) (vs : List ByteArray) (a : Option Addr) (n cap : Nat) : Prop := Mem (fun b => b ≠ q ∧ b < w.heap.size) w (.s 1 (strRows vs)) (.slice a n cap)
theorem VM.far {q n cap : Nat} {w w' : World} {vs : List ByteArray} {a : Option Addr} (h : VM q w vs a n cap) (hf : Far (fun k => k = q) w w') : VM q w' vs a n cap :=
  Mem.mono h (fun _ hb => ⟨hb.1, Nat.lt_of_lt_of_le hb.2 hf.size⟩) fun b hb => hf.block b hb.2 hb.1
theorem VM.len {q n cap : Nat} {w : World} {vs : List ByteArray} {a : Option Addr} (h : VM q w vs a n cap) : vs.length = n ∧ n ≤ cap ∧ cap ≤ 9223372036854775807 := by
  have := Mem.len h
  rwa [strRows_len] at this
theorem Sd.new {t q : Nat} {s : Int} {w : World} (h : Sd t q s w) (o : Obj) : Sd t q s (w.alloc o) := h.keep (below_new w o)
theorem Bo.c3 {w : World} {q : Nat} {t : TypeId} {c0 c1 c2 : Value} (h : Bo w q t #[c0, c1, c2]) : w.cell? ⟨q, 0, none⟩ = some c0 ∧ w.cell? ⟨q, 1, none⟩ = some c1 ∧ w.cell? ⟨q, 2, none⟩ = some c2 := ⟨h.cell (j := 0) rfl, h.cell (j := 1) rfl, h.cell (j := 2) rfl⟩
theorem Bo.away {w w' : World} {b q : Nat} {t : TypeId} {cs : Array Value} (h : Bo w b t cs) (hf : Far (fun k => k = q) w w') (hb : b ≠ q) : Bo w' b t cs := (hf.block b h.lt hb).trans h

variable {vs : List ByteArray} {fs q : Nat}
def GE (vs : List ByteArray) (fs q d : Nat) : Prop := ∀ (w : World) (s : Int) (a : Option Addr) (n cap : Nat), VM q w vs a n cap → Sd 53 q s w →
  Calls Try.prog 139 #[.agg #[.func (.func 137) #[] #[.pointer (some ⟨q, 0, none⟩)], .slice a n cap, .int .i64 fs], .int .i64 d] w fun e w' => e = .returned (.string (exprQ vs fs d s).1) ∧ Far (fun k => k = q) w w' ∧ Sd 53 q (exprQ vs fs d s).2 w'
def GA (vs : List ByteArray) (fs q d : Nat) : Prop := ∀ (w : World) (s : Int) (a : Option Addr) (n cap : Nat), VM q w vs a n cap → Sd 53 q s w →
  Calls Try.prog 88 #[.agg #[.func (.func 137) #[] #[.pointer (some ⟨q, 0, none⟩)], .slice a n cap, .int .i64 fs], .int .i64 d] w fun e w' => e = .returned (.string (argQ (exprQ vs fs d) s).1) ∧ Far (fun k => k = q) w w' ∧ Sd 53 q (argQ (exprQ vs fs d) s).2 w'
def GC (vs : List ByteArray) (fs q d : Nat) : Prop := ∀ (w : World) (s : Int) (a : Option Addr) (n cap : Nat), VM q w vs a n cap → Sd 53 q s w →
  Calls Try.prog 178 #[.agg #[.func (.func 137) #[] #[.pointer (some ⟨q, 0, none⟩)], .slice a n cap, .int .i64 fs], .int .i64 d] w fun e w' => e = .returned (.string (callQ fs (exprQ vs fs d) s).1) ∧ Far (fun k => k = q) w w' ∧ Sd 53 q (callQ fs (exprQ vs fs d) s).2 w'

set_option maxRecDepth 100000 in
set_option maxHeartbeats 2000000 in
theorem ga_of {d : Nat} (hd : d ≤ 4) (hv : ∀ v ∈ vs, v.size ≤ 1) (hf : fs ≤ 1000) (IH : GE vs fs q d) : GA vs fs q d := by
  intro w s a n cap hV hS
  have hsz : (exprQ vs fs d s).1.size ≤ 616 := Nat.le_trans (exprQ_size hv hf d s) (exS_le hd)
  have HBX := Lib.hid (Bo.new w 133 #[.func (.func 137) #[] #[.pointer (some ⟨q, 0, none⟩)], .slice a n cap, .int .i64 fs])
  have HF0 : Hid (Far (fun k => k = q) w (w.alloc (.cells #[.func (.func 137) #[] #[.pointer (some ⟨q, 0, none⟩)], .slice a n cap, .int .i64 fs] 133))) := Lib.hid (Far.of (below_new w _))
  have HC := Lib.hid (IH (w.alloc (.cells #[.func (.func 137) #[] #[.pointer (some ⟨q, 0, none⟩)], .slice a n cap, .int .i64 fs] 133)) s a n cap (hV.far HF0.out) (hS.new _))
  have HB : Hid ((argQ (exprQ vs fs d) s).1 = brk (exprQ vs fs d s).1) := Lib.hid rfl
  have HB2 : Hid ((argQ (exprQ vs fs d) s).2 = (exprQ vs fs d s).2) := Lib.hid rfl
  generalize argQ (exprQ vs fs d) s = R at *
  generalize exprQ vs fs d s = E at *
  obtain ⟨R1, R2⟩ := R
  obtain ⟨t, s2⟩ := E
  simp only at HB HB2 HC hsz ⊢
  have hb := HB.out
  have hb2 := HB2.out
  subst hb hb2
  clear HB HB2
  unfold brk
  by_cases ha : t.data.toList.any (· == 32) = true
  · rw [if_pos ha]
    have HA := Lib.hid ha
    clear ha hV hS
    go_enter Try.func88, Try.ntmps88
    go_wp2_with fail
    refine HC.out.mono ?_
    rintro e w2 ⟨rfl, hf2, hs2⟩
    have HF2 := Lib.hid (HF0.out.trans hf2)
    have HS2 := Lib.hid hs2
    clear hf2 hs2
    go_wp2_with (first | (go_at_call 140 ; refine (plain_any _ _).mono ?_; rintro e w' ⟨rfl, rfl⟩; rw [HA.out]))
    go_ret
    exact ⟨rfl, HF2.out, HS2.out⟩
  · rw [if_neg ha]
    have HA : Hid (t.data.toList.any (· == 32) = false) := Lib.hid (by simpa using ha)
    clear ha hV hS
    go_enter Try.func88, Try.ntmps88
    go_wp2_with fail
    refine HC.out.mono ?_
    rintro e w2 ⟨rfl, hf2, hs2⟩
    have HF2 := Lib.hid (HF0.out.trans hf2)
    have HS2 := Lib.hid hs2
    clear hf2 hs2
    go_wp2_with (first | (go_at_call 140 ; refine (plain_any _ _).mono ?_; rintro e w' ⟨rfl, rfl⟩; rw [HA.out]))
    go_ret
    exact ⟨rfl, HF2.out, HS2.out⟩

set_option maxRecDepth 100000 in
set_option maxHeartbeats 2000000 in
theorem gc_of {d : Nat} (hd : d ≤ 4) (hv : ∀ v ∈ vs, v.size ≤ 1) (hf : fs ≤ 1000) (hf0 : 0 < fs) (IH : GA vs fs q d) : GC vs fs q d := by
  intro w s a n cap hV hS
  have HE := Lib.hid (fun s => exprQ_size hv hf d s)
  have hd4 := exS_le hd
  have hk := dr_lt s hf0
  have HKD := Lib.hid (fun p j => reps_size (E := exprQ vs fs d) (m := exS d) HE.out p j)
  have HBX := Lib.hid (Bo.new w 133 #[.func (.func 137) #[] #[.pointer (some ⟨q, 0, none⟩)], .slice a n cap, .int .i64 fs])
  have HF0 : Hid (Far (fun k => k = q) w (w.alloc (.cells #[.func (.func 137) #[] #[.pointer (some ⟨q, 0, none⟩)], .slice a n cap, .int .i64 fs] 133))) := Lib.hid (Far.of (below_new w _))
  have HS0 := Lib.hid (hS.new (.cells #[.func (.func 137) #[] #[.pointer (some ⟨q, 0, none⟩)], .slice a n cap, .int .i64 fs] 133))
  have HV := Lib.hid hV
  have HQ : Hid (w.heap.size ≠ q) := Lib.hid (by have := hS.lt; omega)
  have HIH := Lib.hid IH
  clear hV hS hv HE IH
  go_enter Try.func178, Try.ntmps178
  go_wp2_with fail
  refine (draw_any hf0 hf _ HS0.out).mono ?_
  rintro e w2 ⟨rfl, hf2, hs2⟩
  have HBX2 := Lib.hid (HBX.out.away hf2 HQ.out)
  have HF2 := Lib.hid (HF0.out.trans hf2)
  have HS2 := Lib.hid hs2
  have HR : Hid (callQ fs (exprQ vs fs d) s = reps (exprQ vs fs d) (nameS (dr s fs), nxt s) (1 + dr s fs % 2)) := Lib.hid rfl
  clear hf2 hs2 HF0 HS0 HBX
  generalize dr s fs = k at *
  generalize nxt s = s2 at *
  have hkm : 1 + k % 2 ≤ 2 := by omega
  have hnm := nameS_size (k := k) (by omega)
  go_wp2_with fail
  refine (gname_any (k := k) (by omega) _).mono ?_
  rintro e w3 ⟨rfl, hb3⟩
  have HBX3 := Lib.hid (HBX2.out.keep hb3)
  have HF3 := Lib.hid (HF2.out.trans (Far.of hb3))
  have HS3 := Lib.hid (HS2.out.keep hb3)
  clear hb3 HBX2 HF2 HS2
  obtain ⟨m, hm⟩ : ∃ m, 1 + k % 2 = m := ⟨_, rfl⟩
  rw [hm] at HR hkm
  have HM := Lib.hid hm
  clear hm
  go_wp2_with (first | (go_at_call 31 ; refine (arity_any (k := k) (by omega) _).mono ?_; rintro e w' ⟨rfl, rfl⟩; rw [HM.out]))
  obtain ⟨t0, hT0⟩ : ∃ t0, nameS k = t0 := ⟨_, rfl⟩
  rw [hT0] at HR hnm ⊢
  clear hT0 hk
  go_loopw [6, 16] (fun v vi wr => ∃ j : Nat, vi = .int .i64 j ∧ j ≤ m ∧ v = .string (reps (exprQ vs fs d) (t0, s2) j).1 ∧ Hid (Far (fun k => k = q) w wr) ∧ Hid (Sd 53 q (reps (exprQ vs fs d) (t0, s2) j).2 wr) ∧ Hid (Bo wr w.heap.size 133 #[.func (.func 137) #[] #[.pointer (some ⟨q, 0, none⟩)], .slice a n cap, .int .i64 fs])) (fun _ vi _ => m - (intOf vi).toNat)
  case atStart => exact ⟨0, rfl, Nat.zero_le _, rfl, HF3, HS3, HBX3⟩
  case round =>
    obtain ⟨j, rfl, hj, rfl, HF, HS, HBJ⟩ := hrel
    by_cases hlt : j < m
    · have hltz : (j : Int) < (m : Int) := by omega
      have HN1 : Hid ((reps (exprQ vs fs d) (t0, s2) (j + 1)).1 = (reps (exprQ vs fs d) (t0, s2) j).1 ++ (⟨#[32]⟩ ++ (argQ (exprQ vs fs d) (reps (exprQ vs fs d) (t0, s2) j).2).1)) := Lib.hid rfl
      have HN2 : Hid ((reps (exprQ vs fs d) (t0, s2) (j + 1)).2 = (argQ (exprQ vs fs d) (reps (exprQ vs fs d) (t0, s2) j).2).2) := Lib.hid rfl
      have hz := HKD.out (t0, s2) (j + 1)
      have hzm : (j + 1) * (exS d + 3) ≤ 2 * (exS d + 3) := Nat.mul_le_mul_right _ (by omega)
      rw [HN1.out, ByteArray.size_append, ByteArray.size_append] at hz
      have hz2 : (reps (exprQ vs fs d) (t0, s2) j).1.size + (1 + (argQ (exprQ vs fs d) (reps (exprQ vs fs d) (t0, s2) j).2).1.size) ≤ 2000 := by
        refine Nat.le_trans hz ?_
        simp only
        omega
      clear hz hzm
      have HC := Lib.hid (HIH.out wr (reps (exprQ vs fs d) (t0, s2) j).2 a n cap (HV.out.far HF.out) HS.out)
      generalize reps (exprQ vs fs d) (t0, s2) j = P at *
      generalize argQ (exprQ vs fs d) P.2 = A at *
      obtain ⟨c0, c1, c2⟩ := HBJ.out.c3
      go_wp2_with fail
      refine HC.out.mono ?_
      rintro e w4 ⟨rfl, hf4, hs4⟩
      have HF4 := Lib.hid (HF.out.trans hf4)
      have HS4 := Lib.hid hs4
      have HB4 := Lib.hid (HBJ.out.away hf4 HQ.out)
      clear hf4 hs4 c0 c1 c2
      go_wp2_with fail
      go_roundw
      case rel => exact ⟨j + 1, by go_num, by omega, by rw [HN1.out], HF4.out, Lib.hid (by rw [HN2.out]; exact HS4.out), HB4.out⟩
      case measure => simp [intOf] <;> omega
    · obtain rfl : j = m := by omega
      have hltz : ¬ (j : Int) < (j : Int) := by omega
      go_wp2
      go_ret
      exact ⟨by rw [HR.out]; rfl, HF.out, by rw [HR.out]; exact HS.out⟩

set_option maxRecDepth 100000 in
set_option maxHeartbeats 2000000 in
theorem ge_zero (hn : vs.length ≤ 1000) : GE vs fs q 0 := by
  intro w s a n cap hV hS
  have hr := dr_lt s (n := 2) (by decide)
  by_cases h0 : dr s 2 = 0
  · have HXV : Hid (exprQ vs fs 0 s = varQ vs (nxt s)) := Lib.hid (by rw [exprQ, if_pos h0])
    have HR := Lib.hid h0
    clear h0 hr
    by_cases hn0 : vs.length = 0
    · have HX : Hid (exprQ vs fs 0 s = (⟨#[90]⟩, nxt s)) := Lib.hid (by rw [HXV.out, varQ, if_pos hn0])
      have hdz : decide (0 < n) = false := decide_eq_false (by have := hV.len.1; omega)
      clear hn0
      have HBX := Lib.hid (Bo.new w 133 #[.func (.func 137) #[] #[.pointer (some ⟨q, 0, none⟩)], .slice a n cap, .int .i64 fs])
      have HF0 : Hid (Far (fun k => k = q) w (w.alloc (.cells #[.func (.func 137) #[] #[.pointer (some ⟨q, 0, none⟩)], .slice a n cap, .int .i64 fs] 133))) := Lib.hid (Far.of (below_new w _))
      have HS0 := Lib.hid (hS.new (.cells #[.func (.func 137) #[] #[.pointer (some ⟨q, 0, none⟩)], .slice a n cap, .int .i64 fs] 133))
      have HV := Lib.hid hV
      have HQ : Hid (w.heap.size ≠ q) := Lib.hid (by have := hS.lt; omega)
      clear hV hS
      go_enter Try.func139, Try.ntmps139
      go_wp2_with fail
      refine (draw_any (n := 2) (by decide) (by decide) _ HS0.out).mono ?_
      rintro e w2 ⟨rfl, hf2, hs2⟩
      rw [HR.out]
      have HBX2 := Lib.hid (HBX.out.away hf2 HQ.out)
      have HF2 := Lib.hid (HF0.out.trans hf2)
      have HS2 := Lib.hid hs2
      clear hf2 hs2 HF0 HS0 HBX HR
      obtain ⟨c0, c1, c2⟩ := HBX2.out.c3
      go_wp2_with fail
      go_ret
      exact ⟨by rw [HX.out]; rfl, HF2.out, by rw [HX.out]; exact HS2.out⟩
    · have HX : Hid (exprQ vs fs 0 s = (vs.getD (dr (nxt s) vs.length) ByteArray.empty, nxt (nxt s))) := Lib.hid (by rw [HXV.out, varQ, if_neg hn0])
      have hk := dr_lt (nxt s) (Nat.pos_of_ne_zero hn0)
      have hln := hV.len.1
      obtain ⟨b, o, x, rfl, hbS, Hx, y0⟩ := str_at hV (dr (nxt s) vs.length) (by omega)
      have HXX : Hid (vs.getD (dr (nxt s) vs.length) ByteArray.empty = x) := Lib.hid (by rw [List.getD_eq_getElem?_getD, Hx.out]; rfl)
      rw [HXX.out] at HX
      have hnp : (0 : Int) < (n : Int) := by omega
      have hkz : ((dr (nxt s) n : Nat) : Int) < (n : Int) := by rw [hln] at hk; omega
      have hn0' : 0 < n := by omega
      have hn9 : n ≤ 1000 := by omega
      rw [hln] at y0
      have Y0 : Hid ((w.alloc (.cells #[.func (.func 137) #[] #[.pointer (some ⟨q, 0, none⟩)], .slice (some ⟨b, o, none⟩) n cap, .int .i64 fs] 133)).cell? ⟨b, o + dr (nxt s) n, none⟩ = some (.string x)) := Lib.hid (cell_alloc _ y0)
      have hbq := hbS.1
      have HY0 := Lib.hid y0
      clear Hx HXX hk hln hn0 hbS y0
      have HBX := Lib.hid (Bo.new w 133 #[.func (.func 137) #[] #[.pointer (some ⟨q, 0, none⟩)], .slice (some ⟨b, o, none⟩) n cap, .int .i64 fs])
      have HF0 : Hid (Far (fun k => k = q) w (w.alloc (.cells #[.func (.func 137) #[] #[.pointer (some ⟨q, 0, none⟩)], .slice (some ⟨b, o, none⟩) n cap, .int .i64 fs] 133))) := Lib.hid (Far.of (below_new w _))
      have HS0 := Lib.hid (hS.new (.cells #[.func (.func 137) #[] #[.pointer (some ⟨q, 0, none⟩)], .slice (some ⟨b, o, none⟩) n cap, .int .i64 fs] 133))
      have HV := Lib.hid hV
      have HQ : Hid (w.heap.size ≠ q) := Lib.hid (by have := hS.lt; omega)
      clear hV hS
      go_enter Try.func139, Try.ntmps139
      go_wp2_with fail
      refine (draw_any (n := 2) (by decide) (by decide) _ HS0.out).mono ?_
      rintro e w2 ⟨rfl, hf2, hs2⟩
      rw [HR.out]
      have y1 := (hf2.cell (by rw [World.size_alloc]; exact Nat.lt_succ_of_lt (World.block_lt_of_cell? w _ HY0.out)) hbq).trans Y0.out
      have HBX2 := Lib.hid (HBX.out.away hf2 HQ.out)
      have HF2 := Lib.hid (HF0.out.trans hf2)
      have HS2 := Lib.hid hs2
      clear Y0 hf2 hs2 HF0 HS0 HBX HR
      obtain ⟨c0, c1, c2⟩ := HBX2.out.c3
      go_wp2_with fail
      go_region_held3 (fun w' => w'.cell? ⟨w.heap.size, 0, none⟩ = some (.func (.func 137) #[] #[.pointer (some ⟨q, 0, none⟩)]) ∧ w'.cell? ⟨w.heap.size, 1, none⟩ = some (.slice (some ⟨b, o, none⟩) n cap) ∧ w'.cell? ⟨w.heap.size, 2, none⟩ = some (.int .i64 fs) ∧ w'.cell? ⟨b, o + dr (nxt s) n, none⟩ = some (.string x))
        ((repeat' apply And.intro) <;> (repeat (first | with_reducible assumption | with_reducible refine cell_drew ?_ | with_reducible refine cell_alloc _ ?_ | with_reducible refine cell_row_far _ ?_ (by omega))))
        (first | (go_at_call 137 ; refine (draw_any (n := n) hn0' hn9 w2.drew (HS2.out.keep (below_drew _))).mono ?_; rintro e w3 ⟨rfl, hf3, hs3⟩; have HF3 := Lib.hid (HF2.out.trans ((Far.of (below_drew w2)).trans hf3)); have HS3 := Lib.hid hs3; have s0 := (hf3.cell (World.block_lt_of_cell? w2 _ c0) HQ.out).trans c0; have s1 := (hf3.cell (World.block_lt_of_cell? w2 _ c1) HQ.out).trans c1; have s2 := (hf3.cell (World.block_lt_of_cell? w2 _ c2) HQ.out).trans c2; have s3 := (hf3.cell (World.block_lt_of_cell? w2 _ y1) hbq).trans y1; clear hf3 hs3))
      all_goals
        go_wp2
        go_ret
        exact ⟨by rw [HX.out]; rfl, HF3.out, by rw [HX.out]; exact HS3.out⟩
  · have HX : Hid (exprQ vs fs 0 s = (⟨#[90]⟩, nxt s)) := Lib.hid (by rw [exprQ, if_neg h0])
    have HR : Hid (dr s 2 = 1) := Lib.hid (by omega)
    clear h0 hr
    have HBX := Lib.hid (Bo.new w 133 #[.func (.func 137) #[] #[.pointer (some ⟨q, 0, none⟩)], .slice a n cap, .int .i64 fs])
    have HF0 : Hid (Far (fun k => k = q) w (w.alloc (.cells #[.func (.func 137) #[] #[.pointer (some ⟨q, 0, none⟩)], .slice a n cap, .int .i64 fs] 133))) := Lib.hid (Far.of (below_new w _))
    have HS0 := Lib.hid (hS.new (.cells #[.func (.func 137) #[] #[.pointer (some ⟨q, 0, none⟩)], .slice a n cap, .int .i64 fs] 133))
    have HV := Lib.hid hV
    have HQ : Hid (w.heap.size ≠ q) := Lib.hid (by have := hS.lt; omega)
    clear hV hS
    go_enter Try.func139, Try.ntmps139
    go_wp2_with fail
    refine (draw_any (n := 2) (by decide) (by decide) _ HS0.out).mono ?_
    rintro e w2 ⟨rfl, hf2, hs2⟩
    rw [HR.out]
    have HBX2 := Lib.hid (HBX.out.away hf2 HQ.out)
    have HF2 := Lib.hid (HF0.out.trans hf2)
    have HS2 := Lib.hid hs2
    clear hf2 hs2 HF0 HS0 HBX HR
    obtain ⟨c0, c1, c2⟩ := HBX2.out.c3
    go_wp2_with fail
    go_ret
    exact ⟨by rw [HX.out]; rfl, HF2.out, by rw [HX.out]; exact HS2.out⟩

set_option maxRecDepth 100000 in
set_option maxHeartbeats 2000000 in
theorem ge_succ {d : Nat} (hn : vs.length ≤ 1000) (hd : d ≤ 3) (hv : ∀ v ∈ vs, v.size ≤ 1) (hf : fs ≤ 1000) (IH : GA vs fs q d) (IC : 0 < fs → GC vs fs q d) : GE vs fs q (d + 1) := by
  intro w s a n cap hV hS
  have HIH := Lib.hid IH
  have hd4 := exS_le (d := d) (by omega)
  have HSZ : Hid (∀ s, (argQ (exprQ vs fs d) s).1.size ≤ 618) := Lib.hid fun s => by
    have h1 := brk_size (exprQ vs fs d s).1
    have h2 := exprQ_size hv hf d s
    show (brk (exprQ vs fs d s).1).size ≤ _
    omega
  have hd0 : (0 : Int) < (d : Int) + 1 := by omega
  have e1 : IntKind.i64.wrap ((d : Int) + 1 - 1) = (d : Int) := by rw [IntKind.wrap_i64]; omega
  have e2 : IntKind.i64.wrap (d : Int) = (d : Int) := by rw [IntKind.wrap_i64]; omega
  clear hd4
  have hr := dr_lt s (n := 5) (by decide)
  have HE : Hid (exprQ vs fs (d + 1) s = if dr s 5 = 0 then varQ vs (nxt s) else if dr s 5 = 1 then (⟨#[90]⟩, nxt s) else if dr s 5 = 3 then threeQ (exprQ vs fs d) (nxt s)
      else if dr s 5 = 4 ∧ 0 < fs then callQ fs (exprQ vs fs d) (nxt s) else succQ (exprQ vs fs d) (nxt s)) := Lib.hid (by rw [exprQ])
  clear hv IH
  by_cases h0 : dr s 5 = 0
  · have HXV : Hid (exprQ vs fs (d + 1) s = varQ vs (nxt s)) := Lib.hid (by rw [HE.out, if_pos h0])
    have HR := Lib.hid h0
    clear h0 hr HE IC HSZ
    by_cases hn0 : vs.length = 0
    · have HX : Hid (exprQ vs fs (d + 1) s = (⟨#[90]⟩, nxt s)) := Lib.hid (by rw [HXV.out, varQ, if_pos hn0])
      have hdz : decide (0 < n) = false := decide_eq_false (by have := hV.len.1; omega)
      clear hn0
      have HBX := Lib.hid (Bo.new w 133 #[.func (.func 137) #[] #[.pointer (some ⟨q, 0, none⟩)], .slice a n cap, .int .i64 fs])
      have HF0 : Hid (Far (fun k => k = q) w (w.alloc (.cells #[.func (.func 137) #[] #[.pointer (some ⟨q, 0, none⟩)], .slice a n cap, .int .i64 fs] 133))) := Lib.hid (Far.of (below_new w _))
      have HS0 := Lib.hid (hS.new (.cells #[.func (.func 137) #[] #[.pointer (some ⟨q, 0, none⟩)], .slice a n cap, .int .i64 fs] 133))
      have HV := Lib.hid hV
      have HQ : Hid (w.heap.size ≠ q) := Lib.hid (by have := hS.lt; omega)
      clear hV hS
      go_enter Try.func139, Try.ntmps139
      go_wp2_with fail
      refine (draw_any (n := 5) (by decide) (by decide) _ HS0.out).mono ?_
      rintro e w2 ⟨rfl, hf2, hs2⟩
      rw [HR.out]
      have HBX2 := Lib.hid (HBX.out.away hf2 HQ.out)
      have HF2 := Lib.hid (HF0.out.trans hf2)
      have HS2 := Lib.hid hs2
      clear hf2 hs2 HF0 HS0 HBX HR
      obtain ⟨c0, c1, c2⟩ := HBX2.out.c3
      go_wp2_with fail
      go_ret
      exact ⟨by rw [HX.out]; rfl, HF2.out, by rw [HX.out]; exact HS2.out⟩
    · have HX : Hid (exprQ vs fs (d + 1) s = (vs.getD (dr (nxt s) vs.length) ByteArray.empty, nxt (nxt s))) := Lib.hid (by rw [HXV.out, varQ, if_neg hn0])
      have hk := dr_lt (nxt s) (Nat.pos_of_ne_zero hn0)
      have hln := hV.len.1
      obtain ⟨b, o, x, rfl, hbS, Hx, y0⟩ := str_at hV (dr (nxt s) vs.length) (by omega)
      have HXX : Hid (vs.getD (dr (nxt s) vs.length) ByteArray.empty = x) := Lib.hid (by rw [List.getD_eq_getElem?_getD, Hx.out]; rfl)
      rw [HXX.out] at HX
      have hnp : (0 : Int) < (n : Int) := by omega
      have hkz : ((dr (nxt s) n : Nat) : Int) < (n : Int) := by rw [hln] at hk; omega
      have hn0' : 0 < n := by omega
      have hn9 : n ≤ 1000 := by omega
      rw [hln] at y0
      have Y0 : Hid ((w.alloc (.cells #[.func (.func 137) #[] #[.pointer (some ⟨q, 0, none⟩)], .slice (some ⟨b, o, none⟩) n cap, .int .i64 fs] 133)).cell? ⟨b, o + dr (nxt s) n, none⟩ = some (.string x)) := Lib.hid (cell_alloc _ y0)
      have hbq := hbS.1
      have HY0 := Lib.hid y0
      clear Hx HXX hk hln hn0 hbS y0
      have HBX := Lib.hid (Bo.new w 133 #[.func (.func 137) #[] #[.pointer (some ⟨q, 0, none⟩)], .slice (some ⟨b, o, none⟩) n cap, .int .i64 fs])
      have HF0 : Hid (Far (fun k => k = q) w (w.alloc (.cells #[.func (.func 137) #[] #[.pointer (some ⟨q, 0, none⟩)], .slice (some ⟨b, o, none⟩) n cap, .int .i64 fs] 133))) := Lib.hid (Far.of (below_new w _))
      have HS0 := Lib.hid (hS.new (.cells #[.func (.func 137) #[] #[.pointer (some ⟨q, 0, none⟩)], .slice (some ⟨b, o, none⟩) n cap, .int .i64 fs] 133))
      have HV := Lib.hid hV
      have HQ : Hid (w.heap.size ≠ q) := Lib.hid (by have := hS.lt; omega)
      clear hV hS
      go_enter Try.func139, Try.ntmps139
      go_wp2_with fail
      refine (draw_any (n := 5) (by decide) (by decide) _ HS0.out).mono ?_
      rintro e w2 ⟨rfl, hf2, hs2⟩
      rw [HR.out]
      have y1 := (hf2.cell (by rw [World.size_alloc]; exact Nat.lt_succ_of_lt (World.block_lt_of_cell? w _ HY0.out)) hbq).trans Y0.out
      have HBX2 := Lib.hid (HBX.out.away hf2 HQ.out)
      have HF2 := Lib.hid (HF0.out.trans hf2)
      have HS2 := Lib.hid hs2
      clear Y0 hf2 hs2 HF0 HS0 HBX HR
      obtain ⟨c0, c1, c2⟩ := HBX2.out.c3
      go_wp2_with fail
      go_region_held3 (fun w' => w'.cell? ⟨w.heap.size, 0, none⟩ = some (.func (.func 137) #[] #[.pointer (some ⟨q, 0, none⟩)]) ∧ w'.cell? ⟨w.heap.size, 1, none⟩ = some (.slice (some ⟨b, o, none⟩) n cap) ∧ w'.cell? ⟨w.heap.size, 2, none⟩ = some (.int .i64 fs) ∧ w'.cell? ⟨b, o + dr (nxt s) n, none⟩ = some (.string x))
        ((repeat' apply And.intro) <;> (repeat (first | with_reducible assumption | with_reducible refine cell_drew ?_ | with_reducible refine cell_alloc _ ?_ | with_reducible refine cell_row_far _ ?_ (by omega))))
        (first | (go_at_call 137 ; refine (draw_any (n := n) hn0' hn9 w2.drew (HS2.out.keep (below_drew _))).mono ?_; rintro e w3 ⟨rfl, hf3, hs3⟩; have HF3 := Lib.hid (HF2.out.trans ((Far.of (below_drew w2)).trans hf3)); have HS3 := Lib.hid hs3; have s0 := (hf3.cell (World.block_lt_of_cell? w2 _ c0) HQ.out).trans c0; have s1 := (hf3.cell (World.block_lt_of_cell? w2 _ c1) HQ.out).trans c1; have s2 := (hf3.cell (World.block_lt_of_cell? w2 _ c2) HQ.out).trans c2; have s3 := (hf3.cell (World.block_lt_of_cell? w2 _ y1) hbq).trans y1; clear hf3 hs3))
      all_goals
        go_wp2
        go_ret
        exact ⟨by rw [HX.out]; rfl, HF3.out, by rw [HX.out]; exact HS3.out⟩
  by_cases h1 : dr s 5 = 1
  · have HX : Hid (exprQ vs fs (d + 1) s = (⟨#[90]⟩, nxt s)) := Lib.hid (by rw [HE.out, if_neg h0, if_pos h1])
    have HR := Lib.hid h1
    clear h0 h1 hr HE IC HSZ
    have HBX := Lib.hid (Bo.new w 133 #[.func (.func 137) #[] #[.pointer (some ⟨q, 0, none⟩)], .slice a n cap, .int .i64 fs])
    have HF0 : Hid (Far (fun k => k = q) w (w.alloc (.cells #[.func (.func 137) #[] #[.pointer (some ⟨q, 0, none⟩)], .slice a n cap, .int .i64 fs] 133))) := Lib.hid (Far.of (below_new w _))
    have HS0 := Lib.hid (hS.new (.cells #[.func (.func 137) #[] #[.pointer (some ⟨q, 0, none⟩)], .slice a n cap, .int .i64 fs] 133))
    have HV := Lib.hid hV
    have HQ : Hid (w.heap.size ≠ q) := Lib.hid (by have := hS.lt; omega)
    clear hV hS
    go_enter Try.func139, Try.ntmps139
    go_wp2_with fail
    refine (draw_any (n := 5) (by decide) (by decide) _ HS0.out).mono ?_
    rintro e w2 ⟨rfl, hf2, hs2⟩
    rw [HR.out]
    have HBX2 := Lib.hid (HBX.out.away hf2 HQ.out)
    have HF2 := Lib.hid (HF0.out.trans hf2)
    have HS2 := Lib.hid hs2
    clear hf2 hs2 HF0 HS0 HBX HR
    obtain ⟨c0, c1, c2⟩ := HBX2.out.c3
    go_wp2_with fail
    go_ret
    exact ⟨by rw [HX.out]; rfl, HF2.out, by rw [HX.out]; exact HS2.out⟩
  by_cases h3 : dr s 5 = 3
  · have HXV : Hid (exprQ vs fs (d + 1) s = threeQ (exprQ vs fs d) (nxt s)) := Lib.hid (by rw [HE.out, if_neg h0, if_neg h1, if_pos h3])
    have HR := Lib.hid h3
    clear h0 h1 h3 hr HE IC
    have HX : Hid (exprQ vs fs (d + 1) s = threeQ (exprQ vs fs d) (nxt s)) := Lib.hid HXV.out
    have HT1 : Hid ((threeQ (exprQ vs fs d) (nxt s)).1 = (argQ (exprQ vs fs d) (nxt s)).1 ++ ⟨#[32, 63, 32]⟩ ++ (argQ (exprQ vs fs d) (argQ (exprQ vs fs d) (nxt s)).2).1) := Lib.hid rfl
    have HT2 : Hid ((threeQ (exprQ vs fs d) (nxt s)).2 = (argQ (exprQ vs fs d) (argQ (exprQ vs fs d) (nxt s)).2).2) := Lib.hid rfl
    have hz1 := HSZ.out (nxt s)
    have hz2 := HSZ.out (argQ (exprQ vs fs d) (nxt s)).2
    have HBX := Lib.hid (Bo.new w 133 #[.func (.func 137) #[] #[.pointer (some ⟨q, 0, none⟩)], .slice a n cap, .int .i64 fs])
    have HF0 : Hid (Far (fun k => k = q) w (w.alloc (.cells #[.func (.func 137) #[] #[.pointer (some ⟨q, 0, none⟩)], .slice a n cap, .int .i64 fs] 133))) := Lib.hid (Far.of (below_new w _))
    have HS0 := Lib.hid (hS.new (.cells #[.func (.func 137) #[] #[.pointer (some ⟨q, 0, none⟩)], .slice a n cap, .int .i64 fs] 133))
    have HV := Lib.hid hV
    have HQ : Hid (w.heap.size ≠ q) := Lib.hid (by have := hS.lt; omega)
    clear hV hS
    go_enter Try.func139, Try.ntmps139
    go_wp2_with fail
    refine (draw_any (n := 5) (by decide) (by decide) _ HS0.out).mono ?_
    rintro e w2 ⟨rfl, hf2, hs2⟩
    rw [HR.out]
    have HBX2 := Lib.hid (HBX.out.away hf2 HQ.out)
    have HF2 := Lib.hid (HF0.out.trans hf2)
    have HS2 := Lib.hid hs2
    clear hf2 hs2 HF0 HS0 HBX HR
    obtain ⟨c0, c1, c2⟩ := HBX2.out.c3
    go_wp2_with fail
    refine (HIH.out w2 (nxt s) a n cap (HV.out.far HF2.out) HS2.out).mono ?_
    rintro e w3 ⟨rfl, hf1, hs1⟩
    have HF_w3 := Lib.hid (HF2.out.trans hf1)
    have HS_w3 := Lib.hid hs1
    have HB_w3 := Lib.hid (HBX2.out.away hf1 HQ.out)
    clear hf1 hs1 c0 c1 c2
    obtain ⟨c0, c1, c2⟩ := HB_w3.out.c3
    go_wp2_with fail
    refine (HIH.out w3 (argQ (exprQ vs fs d) (nxt s)).2 a n cap (HV.out.far HF_w3.out) HS_w3.out).mono ?_
    rintro e w4 ⟨rfl, hf1, hs1⟩
    have HF_w4 := Lib.hid (HF_w3.out.trans hf1)
    have HS_w4 := Lib.hid hs1
    have HB_w4 := Lib.hid (HB_w3.out.away hf1 HQ.out)
    clear hf1 hs1 c0 c1 c2
    obtain ⟨c0, c1, c2⟩ := HB_w4.out.c3
    go_wp2_with fail
    go_ret
    exact ⟨by rw [HX.out, HT1.out]; rfl, HF_w4.out, by rw [HX.out, HT2.out]; exact HS_w4.out⟩
  by_cases h4 : dr s 5 = 4
  · by_cases hf0 : 0 < fs
    · have HXV : Hid (exprQ vs fs (d + 1) s = callQ fs (exprQ vs fs d) (nxt s)) := Lib.hid (by rw [HE.out, if_neg h0, if_neg h1, if_neg h3, if_pos ⟨h4, hf0⟩])
      have HR := Lib.hid h4
      have HIC := Lib.hid (IC hf0)
      clear h0 h1 h3 h4 hr HE IC HSZ
      have HX : Hid (exprQ vs fs (d + 1) s = callQ fs (exprQ vs fs d) (nxt s)) := Lib.hid HXV.out
      have hfz : (0 : Int) < (fs : Int) := by omega
      have HBX := Lib.hid (Bo.new w 133 #[.func (.func 137) #[] #[.pointer (some ⟨q, 0, none⟩)], .slice a n cap, .int .i64 fs])
      have HF0 : Hid (Far (fun k => k = q) w (w.alloc (.cells #[.func (.func 137) #[] #[.pointer (some ⟨q, 0, none⟩)], .slice a n cap, .int .i64 fs] 133))) := Lib.hid (Far.of (below_new w _))
      have HS0 := Lib.hid (hS.new (.cells #[.func (.func 137) #[] #[.pointer (some ⟨q, 0, none⟩)], .slice a n cap, .int .i64 fs] 133))
      have HV := Lib.hid hV
      have HQ : Hid (w.heap.size ≠ q) := Lib.hid (by have := hS.lt; omega)
      clear hV hS
      go_enter Try.func139, Try.ntmps139
      go_wp2_with fail
      refine (draw_any (n := 5) (by decide) (by decide) _ HS0.out).mono ?_
      rintro e w2 ⟨rfl, hf2, hs2⟩
      rw [HR.out]
      have HBX2 := Lib.hid (HBX.out.away hf2 HQ.out)
      have HF2 := Lib.hid (HF0.out.trans hf2)
      have HS2 := Lib.hid hs2
      clear hf2 hs2 HF0 HS0 HBX HR
      obtain ⟨c0, c1, c2⟩ := HBX2.out.c3
      go_wp2_with fail
      refine (HIC.out w2 (nxt s) a n cap (HV.out.far HF2.out) HS2.out).mono ?_
      rintro e w3 ⟨rfl, hf1, hs1⟩
      have HF_w3 := Lib.hid (HF2.out.trans hf1)
      have HS_w3 := Lib.hid hs1
      have HB_w3 := Lib.hid (HBX2.out.away hf1 HQ.out)
      clear hf1 hs1 c0 c1 c2
      obtain ⟨c0, c1, c2⟩ := HB_w3.out.c3
      go_wp2_with fail
      go_ret
      exact ⟨by rw [HX.out]; rfl, HF_w3.out, by rw [HX.out]; exact HS_w3.out⟩
    · have HXV : Hid (exprQ vs fs (d + 1) s = succQ (exprQ vs fs d) (nxt s)) := Lib.hid (by rw [HE.out, if_neg h0, if_neg h1, if_neg h3, if_neg (fun h => hf0 h.2)])
      have HR := Lib.hid h4
      have hfz : decide (0 < fs) = false := decide_eq_false (by omega)
      clear h0 h1 h3 h4 hr HE IC hf0
      have HX : Hid (exprQ vs fs (d + 1) s = succQ (exprQ vs fs d) (nxt s)) := Lib.hid HXV.out
      have HT1 : Hid ((succQ (exprQ vs fs d) (nxt s)).1 = ⟨#[83, 32]⟩ ++ (argQ (exprQ vs fs d) (nxt s)).1) := Lib.hid rfl
      have HT2 : Hid ((succQ (exprQ vs fs d) (nxt s)).2 = (argQ (exprQ vs fs d) (nxt s)).2) := Lib.hid rfl
      have hz1 := HSZ.out (nxt s)
      have HBX := Lib.hid (Bo.new w 133 #[.func (.func 137) #[] #[.pointer (some ⟨q, 0, none⟩)], .slice a n cap, .int .i64 fs])
      have HF0 : Hid (Far (fun k => k = q) w (w.alloc (.cells #[.func (.func 137) #[] #[.pointer (some ⟨q, 0, none⟩)], .slice a n cap, .int .i64 fs] 133))) := Lib.hid (Far.of (below_new w _))
      have HS0 := Lib.hid (hS.new (.cells #[.func (.func 137) #[] #[.pointer (some ⟨q, 0, none⟩)], .slice a n cap, .int .i64 fs] 133))
      have HV := Lib.hid hV
      have HQ : Hid (w.heap.size ≠ q) := Lib.hid (by have := hS.lt; omega)
      clear hV hS
      go_enter Try.func139, Try.ntmps139
      go_wp2_with fail
      refine (draw_any (n := 5) (by decide) (by decide) _ HS0.out).mono ?_
      rintro e w2 ⟨rfl, hf2, hs2⟩
      rw [HR.out]
      have HBX2 := Lib.hid (HBX.out.away hf2 HQ.out)
      have HF2 := Lib.hid (HF0.out.trans hf2)
      have HS2 := Lib.hid hs2
      clear hf2 hs2 HF0 HS0 HBX HR
      obtain ⟨c0, c1, c2⟩ := HBX2.out.c3
      go_wp2_with fail
      refine (HIH.out w2 (nxt s) a n cap (HV.out.far HF2.out) HS2.out).mono ?_
      rintro e w3 ⟨rfl, hf1, hs1⟩
      have HF_w3 := Lib.hid (HF2.out.trans hf1)
      have HS_w3 := Lib.hid hs1
      have HB_w3 := Lib.hid (HBX2.out.away hf1 HQ.out)
      clear hf1 hs1 c0 c1 c2
      obtain ⟨c0, c1, c2⟩ := HB_w3.out.c3
      go_wp2_with fail
      go_ret
      exact ⟨by rw [HX.out, HT1.out]; rfl, HF_w3.out, by rw [HX.out, HT2.out]; exact HS_w3.out⟩
  · have HXV : Hid (exprQ vs fs (d + 1) s = succQ (exprQ vs fs d) (nxt s)) := Lib.hid (by rw [HE.out, if_neg h0, if_neg h1, if_neg h3, if_neg (fun h => h4 h.1)])
    have HR : Hid (dr s 5 = 2) := Lib.hid (by omega)
    clear h0 h1 h3 h4 hr HE IC
    have HX : Hid (exprQ vs fs (d + 1) s = succQ (exprQ vs fs d) (nxt s)) := Lib.hid HXV.out
    have HT1 : Hid ((succQ (exprQ vs fs d) (nxt s)).1 = ⟨#[83, 32]⟩ ++ (argQ (exprQ vs fs d) (nxt s)).1) := Lib.hid rfl
    have HT2 : Hid ((succQ (exprQ vs fs d) (nxt s)).2 = (argQ (exprQ vs fs d) (nxt s)).2) := Lib.hid rfl
    have hz1 := HSZ.out (nxt s)
    have HBX := Lib.hid (Bo.new w 133 #[.func (.func 137) #[] #[.pointer (some ⟨q, 0, none⟩)], .slice a n cap, .int .i64 fs])
    have HF0 : Hid (Far (fun k => k = q) w (w.alloc (.cells #[.func (.func 137) #[] #[.pointer (some ⟨q, 0, none⟩)], .slice a n cap, .int .i64 fs] 133))) := Lib.hid (Far.of (below_new w _))
    have HS0 := Lib.hid (hS.new (.cells #[.func (.func 137) #[] #[.pointer (some ⟨q, 0, none⟩)], .slice a n cap, .int .i64 fs] 133))
    have HV := Lib.hid hV
    have HQ : Hid (w.heap.size ≠ q) := Lib.hid (by have := hS.lt; omega)
    clear hV hS
    go_enter Try.func139, Try.ntmps139
    go_wp2_with fail
    refine (draw_any (n := 5) (by decide) (by decide) _ HS0.out).mono ?_
    rintro e w2 ⟨rfl, hf2, hs2⟩
    rw [HR.out]
    have HBX2 := Lib.hid (HBX.out.away hf2 HQ.out)
    have HF2 := Lib.hid (HF0.out.trans hf2)
    have HS2 := Lib.hid hs2
    clear hf2 hs2 HF0 HS0 HBX HR
    obtain ⟨c0, c1, c2⟩ := HBX2.out.c3
    go_wp2_with fail
    refine (HIH.out w2 (nxt s) a n cap (HV.out.far HF2.out) HS2.out).mono ?_
    rintro e w3 ⟨rfl, hf1, hs1⟩
    have HF_w3 := Lib.hid (HF2.out.trans hf1)
    have HS_w3 := Lib.hid hs1
    have HB_w3 := Lib.hid (HBX2.out.away hf1 HQ.out)
    clear hf1 hs1 c0 c1 c2
    obtain ⟨c0, c1, c2⟩ := HB_w3.out.c3
    go_wp2_with fail
    go_ret
    exact ⟨by rw [HX.out, HT1.out]; rfl, HF_w3.out, by rw [HX.out, HT2.out]; exact HS_w3.out⟩

/-- An expression of a depth, whatever its seed. -/
theorem ge_any (hn : vs.length ≤ 1000) (hv : ∀ v ∈ vs, v.size ≤ 1) (hf : fs ≤ 1000) : ∀ d, d ≤ 4 → GE vs fs q d
  | 0, _ => ge_zero hn
  | d + 1, h => by
    have ih := ge_any hn hv hf d (by omega)
    have ia := ga_of (by omega) hv hf ih
    exact ge_succ hn (by omega) hv hf ia (fun hf0 => gc_of (by omega) hv hf hf0 ia)
theorem ga_any (hn : vs.length ≤ 1000) (hv : ∀ v ∈ vs, v.size ≤ 1) (hf : fs ≤ 1000) (d : Nat) (hd : d ≤ 4) : GA vs fs q d := ga_of hd hv hf (ge_any hn hv hf d hd)
end Go.Proofs.Ytppejoccljfblaa
