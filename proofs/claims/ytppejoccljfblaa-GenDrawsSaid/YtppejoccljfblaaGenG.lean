/-
  gen.Goal, walked. No condition but sizes.
-/
import Derived.Test.YtppejoccljfblaaGenP
namespace Go.Proofs.Ytppejoccljfblaa
open Go.RowKit

theorem goalQ_vs : ∀ v ∈ [(⟨#[120]⟩ : ByteArray)], v.size ≤ 1 := fun v hv => by rw [List.mem_singleton.1 hv]; exact Nat.le_refl _
set_option maxRecDepth 100000 in
set_option maxHeartbeats 20000000 in
theorem goal_any {f k r d : Nat} {s : Int} (w : World) (hfk : f = k + 1) (hk : k ≤ 7) (hd : d ≤ 4) (h : mayB f r d = true) :
    Calls Try.prog 33 #[.agg #[.int .i64 f, .int .i64 r, .int .i64 d, .int .u64 s]] w fun e w' => e = .returned (.string (goalQ k d (bits .xor .u64 s 1)).1) ∧ Below w.heap.size w w' := by
  have H := Lib.hid h
  have HB0 := Lib.hid (below_new w (.cells #[.int .i64 f, .int .i64 r, .int .i64 d, .int .u64 s] 55))
  have HX0 := Lib.hid (Bo.new w 55 #[.int .i64 f, .int .i64 r, .int .i64 d, .int .u64 s])
  have HZ0 : Hid ((w.alloc (.cells #[.int .i64 f, .int .i64 r, .int .i64 d, .int .u64 s] 55)).heap.size = w.heap.size + 1) := Lib.hid (World.size_alloc _ _)
  have HP : Hid (goalQ k d (bits .xor .u64 s 1) = reps (exprQ [⟨#[120]⟩] k d) (goalH k, bits .xor .u64 s 1) (k % 2)) := Lib.hid rfl
  have hx0 := (bits_u64 s 1).1
  have HS0 := Lib.hid hx0
  have e1 : IntKind.i64.wrap ((f : Int) - 1) = (k : Int) := by rw [IntKind.wrap_i64]; omega
  have hkl : k ≤ 1099511627776 := by omega
  have hk9 : k ≤ 1000 := by omega
  clear h hx0 hfk
  obtain ⟨x0, x1, x2, x3⟩ := HX0.out.c4
  go_enter Try.func33, Try.ntmps33
  go_wp2_with fail
  refine (gmay_any f r d s _).mono ?_
  rintro e w2 ⟨rfl, hb⟩
  have HB2 := Lib.hid (HB0.out.trans (hb.mono HB0.out.size))
  have HX2 := Lib.hid (HX0.out.keep hb)
  have HZ2 : Hid (w.heap.size + 1 ≤ w2.heap.size) := Lib.hid (by have := hb.size; rw [HZ0.out] at this; exact this)
  rw [H.out]
  clear hb x0 x1 x2 x3 HB0 HX0 HZ0
  obtain ⟨x0, x1, x2, x3⟩ := HX2.out.c4
  go_wp2_with fail
  generalize hs1 : bits .xor .u64 s 1 = s1 at *
  have HS1 := Lib.hid hs1
  clear hs1
  refine (drawer_any s1 _).mono ?_
  rintro e w3 ⟨q, hq, rfl, hw3⟩
  have HB3 : Hid (Below w.heap.size w w3) := Lib.hid (by rw [hw3]; exact HB2.out.alloc HB2.out.size _)
  have HX3 : Hid (Bo w3 w.heap.size 55 #[.int .i64 f, .int .i64 r, .int .i64 d, .int .u64 s]) := Lib.hid (by rw [hw3]; exact HX2.out.alloc _)
  have HS3 : Hid (Sd 53 q s1 w3) := Lib.hid ⟨by rw [hw3, hq]; exact Bo.new w2 _ _, HS0.out⟩
  have HZ3 : Hid (w3.heap.size = q + 1) := Lib.hid (by rw [hw3, World.size_alloc, hq])
  have HQ : Hid (w.heap.size + 1 ≤ q) := Lib.hid (by rw [hq]; exact HZ2.out)
  clear hw3 hq x0 x1 x2 x3 HB2 HX2 HZ2
  have HV4 : Hid (VM q (w3.alloc (.cells #[.string ⟨#[120]⟩] 9)) [⟨#[120]⟩] (some ⟨w3.heap.size, 0, none⟩) 1 1) := Lib.hid ((own_str (B := 0) (base := q + 1) (e := 9) ⟨#[120]⟩ (OwnD.nil 0 (q + 1) 9 1 w3) (by rw [HZ3.out]; exact Nat.le_refl _)).mono (fun b hb => ⟨by rcases hb.1.1 with h | h <;> omega, hb.1.2⟩) fun _ _ => rfl)
  have HB4 := Lib.hid (HB3.out.alloc HB3.out.size (.cells #[.string ⟨#[120]⟩] 9))
  have HX4 := Lib.hid (HX3.out.alloc (.cells #[.string ⟨#[120]⟩] 9))
  have HS4 := Lib.hid (HS3.out.new (.cells #[.string ⟨#[120]⟩] 9))
  have HB5 := Lib.hid (HB4.out.alloc HB4.out.size (.cells #[.func (.func 137) #[] #[.pointer (some ⟨q, 0, none⟩)], .slice (some ⟨w3.heap.size, 0, none⟩) 1 1, .int .i64 k] 133))
  have HX5 := Lib.hid (HX4.out.alloc (.cells #[.func (.func 137) #[] #[.pointer (some ⟨q, 0, none⟩)], .slice (some ⟨w3.heap.size, 0, none⟩) 1 1, .int .i64 k] 133))
  have HS5 := Lib.hid (HS4.out.new (.cells #[.func (.func 137) #[] #[.pointer (some ⟨q, 0, none⟩)], .slice (some ⟨w3.heap.size, 0, none⟩) 1 1, .int .i64 k] 133))
  have HV5 : Hid (VM q ((w3.alloc (.cells #[.string ⟨#[120]⟩] 9)).alloc (.cells #[.func (.func 137) #[] #[.pointer (some ⟨q, 0, none⟩)], .slice (some ⟨w3.heap.size, 0, none⟩) 1 1, .int .i64 k] 133)) [⟨#[120]⟩] (some ⟨w3.heap.size, 0, none⟩) 1 1) := Lib.hid (HV4.out.far (Far.of (below_new _ _)))
  have HW5 : Hid (Bo ((w3.alloc (.cells #[.string ⟨#[120]⟩] 9)).alloc (.cells #[.func (.func 137) #[] #[.pointer (some ⟨q, 0, none⟩)], .slice (some ⟨w3.heap.size, 0, none⟩) 1 1, .int .i64 k] 133)) (w3.heap.size + 1) 133 #[.func (.func 137) #[] #[.pointer (some ⟨q, 0, none⟩)], .slice (some ⟨w3.heap.size, 0, none⟩) 1 1, .int .i64 k]) := Lib.hid (by have := Bo.new (w3.alloc (.cells #[.string ⟨#[120]⟩] 9)) 133 #[.func (.func 137) #[] #[.pointer (some ⟨q, 0, none⟩)], .slice (some ⟨w3.heap.size, 0, none⟩) 1 1, .int .i64 k]; rw [World.size_alloc] at this; exact this)
  obtain ⟨m, hm⟩ : ∃ m, k % 2 = m := ⟨_, rfl⟩
  have hm2 : m ≤ 1 := by omega
  have HM : Hid (1 + k % 2 = m + 1) := Lib.hid (by omega)
  rw [hm] at HP
  clear hm HB3 HX3 HS3 HB4 HX4 HS4 HV4
  have e2 : IntKind.i64.wrap ((m : Int) + 1 - 1) = (m : Int) := by rw [IntKind.wrap_i64]; omega
  have e3 : IntKind.i64.wrap (m : Int) = (m : Int) := by rw [IntKind.wrap_i64]; omega
  have hnm := nameS_size hkl
  go_wp2_with fail
  generalize (w3.alloc (.cells #[.string ⟨#[120]⟩] 9)).alloc (.cells #[.func (.func 137) #[] #[.pointer (some ⟨q, 0, none⟩)], .slice (some ⟨w3.heap.size, 0, none⟩) 1 1, .int .i64 k] 133) = w5 at *
  refine (gname_any hkl _).mono ?_
  rintro e w6 ⟨rfl, hb6⟩
  have HB6 := Lib.hid (HB5.out.trans (hb6.mono HB5.out.size))
  have HX6 := Lib.hid (HX5.out.keep hb6)
  have HS6 := Lib.hid (HS5.out.keep hb6)
  have HV6 := Lib.hid (HV5.out.far (Far.of hb6))
  have HW6 := Lib.hid (HW5.out.keep hb6)
  have HG : Hid ((⟨#[108, 101, 116, 32, 120, 32, 102, 114, 101, 101, 32, 105, 110, 32]⟩ : ByteArray) ++ nameS k ++ ⟨#[32, 120]⟩ = goalH k) := Lib.hid rfl
  have hgs : (goalH k).size ≤ 40 := by
    rw [← HG.out]
    simp only [ByteArray.size_append]
    show 14 + _ + 2 ≤ _
    omega
  have hG := HG.out
  clear hb6 HB5 HX5 HS5 HV5 HW5
  go_wp2_with (first | (go_at_call 31 ; refine (arity_any hkl _).mono ?_; rintro e w' ⟨rfl, rfl⟩; rw [HM.out]))
  clear hG HG
  obtain ⟨t0, ht0⟩ : ∃ t, goalH k = t := ⟨_, rfl⟩
  rw [ht0] at HP hgs ⊢
  clear ht0
  have HIH := Lib.hid (ga_any (q := q) (vs := [⟨#[120]⟩]) (fs := k) (by decide) goalQ_vs hk9 d hd)
  have HKD := Lib.hid (fun p j => reps_size (E := exprQ [⟨#[120]⟩] k d) (m := exS d) (fun s => exprQ_size goalQ_vs hk9 d s) p j)
  have hd4 := exS_le hd
  have HV := HV6
  go_loopw [5, 26] (fun v vi wr => ∃ j : Nat, vi = .int .i64 j ∧ j ≤ m ∧ v = .string (reps (exprQ [⟨#[120]⟩] k d) (t0, s1) j).1 ∧ Hid (Below w.heap.size w wr) ∧ Hid (Bo wr w.heap.size 55 #[.int .i64 f, .int .i64 r, .int .i64 d, .int .u64 s]) ∧ Hid (Bo wr (w3.heap.size + 1) 133 #[.func (.func 137) #[] #[.pointer (some ⟨q, 0, none⟩)], .slice (some ⟨w3.heap.size, 0, none⟩) 1 1, .int .i64 k]) ∧ Hid (Sd 53 q (reps (exprQ [⟨#[120]⟩] k d) (t0, s1) j).2 wr) ∧ Hid (VM q wr [⟨#[120]⟩] (some ⟨w3.heap.size, 0, none⟩) 1 1)) (fun _ vi _ => m - (intOf vi).toNat)
  case atStart => exact ⟨0, rfl, Nat.zero_le _, rfl, HB6.out, HX6.out, HW6.out, HS6.out, HV6.out⟩
  case round =>
    obtain ⟨j, rfl, hj, rfl, HBJ, HXJ, HWJ, HSJ, HVJ⟩ := hrel
    by_cases hlt : j < m
    · have hltz : (j : Int) < (m : Int) := by omega
      have HN1 : Hid ((reps (exprQ [⟨#[120]⟩] k d) (t0, s1) (j + 1)).1 = (reps (exprQ [⟨#[120]⟩] k d) (t0, s1) j).1 ++ (⟨#[32]⟩ ++ (argQ (exprQ [⟨#[120]⟩] k d) (reps (exprQ [⟨#[120]⟩] k d) (t0, s1) j).2).1)) := Lib.hid rfl
      have HN2 : Hid ((reps (exprQ [⟨#[120]⟩] k d) (t0, s1) (j + 1)).2 = (argQ (exprQ [⟨#[120]⟩] k d) (reps (exprQ [⟨#[120]⟩] k d) (t0, s1) j).2).2) := Lib.hid rfl
      have hz := HKD.out (t0, s1) (j + 1)
      have hzm : (j + 1) * (exS d + 3) ≤ 2 * (exS d + 3) := Nat.mul_le_mul_right _ (by omega)
      rw [HN1.out, ByteArray.size_append, ByteArray.size_append] at hz
      have hz2 : (reps (exprQ [⟨#[120]⟩] k d) (t0, s1) j).1.size + (1 + (argQ (exprQ [⟨#[120]⟩] k d) (reps (exprQ [⟨#[120]⟩] k d) (t0, s1) j).2).1.size) ≤ 2000 := by
        refine Nat.le_trans hz ?_
        simp only
        omega
      clear hz hzm
      have HC := Lib.hid (HIH.out wr (reps (exprQ [⟨#[120]⟩] k d) (t0, s1) j).2 _ 1 1 HVJ.out HSJ.out)
      generalize reps (exprQ [⟨#[120]⟩] k d) (t0, s1) j = P at *
      generalize argQ (exprQ [⟨#[120]⟩] k d) P.2 = A at *
      obtain ⟨c0, c1, c2⟩ := HWJ.out.c3
      obtain ⟨x0, x1, x2, x3⟩ := HXJ.out.c4
      go_wp2_with fail
      refine HC.out.mono ?_
      rintro e w7 ⟨rfl, hf7, hs7⟩
      have HX7 := Lib.hid (HXJ.out.away hf7 (by have := HQ.out; omega))
      have HW7 := Lib.hid (HWJ.out.away hf7 (by have := HZ3.out; omega))
      have HS7 := Lib.hid hs7
      have HV7 := Lib.hid (HVJ.out.far hf7)
      have HB7 : Hid (Below w.heap.size w w7) := Lib.hid ⟨hf7.os.trans HBJ.out.os, hf7.tape.trans HBJ.out.tape, hf7.output.trans HBJ.out.output, Nat.le_trans HBJ.out.size hf7.size, fun b hb => (hf7.block b (Nat.lt_of_lt_of_le hb HBJ.out.size) (by have := HQ.out; omega)).trans (HBJ.out.block b hb)⟩
      clear hf7 hs7 x0 x1 x2 x3 c0 c1 c2
      go_wp2_with fail
      go_roundw
      case rel => exact ⟨j + 1, by go_num, by omega, by rw [HN1.out], HB7.out, HX7.out, HW7.out, Lib.hid (by rw [HN2.out]; exact HS7.out), HV7.out⟩
      case measure => simp [intOf] <;> omega
    · obtain rfl : j = m := by omega
      have hltz : ¬ (j : Int) < (j : Int) := by omega
      go_wp2_with fail
      go_ret
      exact ⟨by rw [HS1.out, HP.out]; rfl, HBJ.out⟩
end Go.Proofs.Ytppejoccljfblaa
