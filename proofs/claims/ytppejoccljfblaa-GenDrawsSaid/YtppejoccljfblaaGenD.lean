/-
  GenDraws, walked: it answers true at every recipe and every number. No condition but the arguments' own bounds.
-/
import Derived.Test.YtppejoccljfblaaGenL
import Derived.Test.YtppejoccljfblaaGenG
import Derived.Test.YtppejoccljfblaaGenR
namespace Go.Proofs.Ytppejoccljfblaa
open Go.RowKit

set_option maxRecDepth 100000 in
set_option maxHeartbeats 2000000 in
theorem genDraws_far {f r d s k : Int} (w : World) (hk : k < 0 ∨ 1099511627776 < k) :
    Calls Try.prog 7 #[.agg #[.int .i64 f, .int .i64 r, .int .i64 d, .int .u64 s], .int .i64 k] w fun e w' => e = .returned (.bool true) ∧ Below w.heap.size w w' := by
  rcases hk with h | h
  · have HB0 := Lib.hid (below_new w (.cells #[.int .i64 f, .int .i64 r, .int .i64 d, .int .u64 s] 55))
    have HX0 := Lib.hid (Bo.new w 55 #[.int .i64 f, .int .i64 r, .int .i64 d, .int .u64 s])
    have HZ0 : Hid ((w.alloc (.cells #[.int .i64 f, .int .i64 r, .int .i64 d, .int .u64 s] 55)).heap.size = w.heap.size + 1) := Lib.hid (World.size_alloc _ _)
    go_enter Try.func7, Try.ntmps7
    go_wp2_with fail
    refine (awake40_any _).mono ?_
    rintro e w1 ⟨rfl, hb⟩
    have HB1 := Lib.hid (HB0.out.trans (hb.mono HB0.out.size))
    have HX1 := Lib.hid (HX0.out.keep hb)
    have HZ1 : Hid (w.heap.size + 1 ≤ w1.heap.size) := Lib.hid (by have := hb.size; rw [HZ0.out] at this; exact this)
    clear hb HB0 HX0 HZ0
    go_wp2_with fail
    go_ret
    exact ⟨rfl, HB1.out⟩
  · have h0 : ¬ k < 0 := by omega
    have HB0 := Lib.hid (below_new w (.cells #[.int .i64 f, .int .i64 r, .int .i64 d, .int .u64 s] 55))
    have HX0 := Lib.hid (Bo.new w 55 #[.int .i64 f, .int .i64 r, .int .i64 d, .int .u64 s])
    have HZ0 : Hid ((w.alloc (.cells #[.int .i64 f, .int .i64 r, .int .i64 d, .int .u64 s] 55)).heap.size = w.heap.size + 1) := Lib.hid (World.size_alloc _ _)
    go_enter Try.func7, Try.ntmps7
    go_wp2_with fail
    refine (awake40_any _).mono ?_
    rintro e w1 ⟨rfl, hb⟩
    have HB1 := Lib.hid (HB0.out.trans (hb.mono HB0.out.size))
    have HX1 := Lib.hid (HX0.out.keep hb)
    have HZ1 : Hid (w.heap.size + 1 ≤ w1.heap.size) := Lib.hid (by have := hb.size; rw [HZ0.out] at this; exact this)
    clear hb HB0 HX0 HZ0
    go_wp2_with fail
    go_ret
    exact ⟨rfl, HB1.out⟩
set_option maxRecDepth 100000 in
set_option maxHeartbeats 20000000 in
theorem genDraws_no {f r d s : Int} {k : Nat} (w : World) (hk : k ≤ 1099511627776) (hm : mayB f r d = false) :
    Calls Try.prog 7 #[.agg #[.int .i64 f, .int .i64 r, .int .i64 d, .int .u64 s], .int .i64 k] w fun e w' => e = .returned (.bool true) ∧ Below w.heap.size w w' := by
  have HM := Lib.hid hm
  have h0 : ¬ (k : Int) < 0 := by omega
  have h1 : ¬ (1099511627776 : Int) < (k : Int) := by omega
  obtain ⟨T, hT⟩ : ∃ T : ByteArray, (⟨(digs (k : Int)).toArray⟩ : ByteArray) = T := ⟨_, rfl⟩
  have HDG := Lib.hid hT
  have hts : ¬ 9223372036854775807 < 1 + T.size := by
    have := digs_len hk
    rw [← hT]
    show ¬ _ < 1 + (digs (k : Int)).toArray.size
    rw [List.size_toArray]; omega
  have HNM : Hid (nameS k = ⟨#[102]⟩ ++ T) := Lib.hid (by rw [← hT]; rfl)
  have e2 : IntKind.i64.wrap (1 + (k : Int).tmod 2) = 1 + (k : Int) % 2 := by rw [Int.tmod_eq_emod_of_nonneg (by omega), IntKind.wrap_i64]; omega
  clear hT
  have HB0 := Lib.hid (below_new w (.cells #[.int .i64 f, .int .i64 r, .int .i64 d, .int .u64 s] 55))
  have HX0 := Lib.hid (Bo.new w 55 #[.int .i64 f, .int .i64 r, .int .i64 d, .int .u64 s])
  have HZ0 : Hid ((w.alloc (.cells #[.int .i64 f, .int .i64 r, .int .i64 d, .int .u64 s] 55)).heap.size = w.heap.size + 1) := Lib.hid (World.size_alloc _ _)
  go_enter Try.func7, Try.ntmps7
  go_wp2_with fail
  refine (awake40_any _).mono ?_
  rintro e w1 ⟨rfl, hb⟩
  have HB1 := Lib.hid (HB0.out.trans (hb.mono HB0.out.size))
  have HX1 := Lib.hid (HX0.out.keep hb)
  have HZ1 : Hid (w.heap.size + 1 ≤ w1.heap.size) := Lib.hid (by have := hb.size; rw [HZ0.out] at this; exact this)
  clear hb HB0 HX0 HZ0
  obtain ⟨x0, x1, x2, x3⟩ := HX1.out.c4
  go_wp2_with fail
  go_region_held3 (fun w' => w'.cell? ⟨w.heap.size, 0, none⟩ = some (.int .i64 f) ∧ w'.cell? ⟨w.heap.size, 1, none⟩ = some (.int .i64 r) ∧ w'.cell? ⟨w.heap.size, 2, none⟩ = some (.int .i64 d) ∧ w'.cell? ⟨w.heap.size, 3, none⟩ = some (.int .u64 s))
    ((repeat' apply And.intro) <;> (repeat (first | with_reducible assumption | with_reducible refine cell_drew ?_ | with_reducible refine cell_alloc _ ?_ | with_reducible refine cell_row_far _ ?_ (by omega) | with_reducible refine cell_below ?_ HC1.out | with_reducible refine cell_below ?_ HC2.out | with_reducible refine cell_below ?_ HC3.out | with_reducible refine cell_below ?_ HC4.out)))
    (first
      | (go_at_call 27
         refine (gmay_any f r d s _).mono ?_
         rintro e wa ⟨rfl, hb⟩
         rw [HM.out]
         have HC1 := Lib.hid (Below.one hb)
         clear hb)
      | (go_at_call 28
         refine (lmay_any f r d s _).mono ?_
         rintro e wb ⟨rfl, hb⟩
         rw [HM.out]
         have HC2 := Lib.hid hb
         clear hb)
      | (go_at_call 29
         refine (gname_any hk _).mono ?_
         rintro e wc ⟨rfl, hb⟩
         rw [HNM.out]
         have HC3 := Lib.hid hb
         clear hb)
      | (go_at_call 30
         refine (rDigits_any (k : Int) _ (by omega) (by omega)).mono ?_
         rintro e wd ⟨rfl, hb⟩
         rw [HDG.out]
         have HC4 := Lib.hid hb
         clear hb)
      | (go_at_call 31
         refine (arity_any hk _).mono ?_
         rintro e we ⟨rfl, rfl⟩))
  have HX5 := Lib.hid ((((HX1.out.keep HC1.out).keep HC2.out).keep HC3.out).keep HC4.out)
  have HB5 := Lib.hid ((((HB1.out.trans (HC1.out.mono HB1.out.size)).trans (HC2.out.mono (Nat.le_trans HB1.out.size HC1.out.size))).trans (HC3.out.mono (Nat.le_trans HB1.out.size (Nat.le_trans HC1.out.size HC2.out.size)))).trans (HC4.out.mono (Nat.le_trans HB1.out.size (Nat.le_trans HC1.out.size (Nat.le_trans HC2.out.size HC3.out.size)))))
  clear x0 x1 x2 x3 HX1 HB1
  obtain ⟨x0, x1, x2, x3⟩ := HX5.out.c4
  go_wp2_with fail
  refine (lmay_any f r d s _).mono ?_
  rintro e w6 ⟨rfl, hb⟩
  rw [HM.out]
  have HB6 := Lib.hid (HB5.out.trans (hb.mono HB5.out.size))
  have HX6 := Lib.hid (HX5.out.keep hb)
  clear hb x0 x1 x2 x3
  obtain ⟨x0, x1, x2, x3⟩ := HX6.out.c4
  go_wp2_with fail
  refine (program_no _ HM.out).mono ?_
  rintro e w7 ⟨rfl, hb⟩
  have HB7 := Lib.hid (HB6.out.trans (hb.mono HB6.out.size))
  have HX7 := Lib.hid (HX6.out.keep hb)
  clear hb x0 x1 x2 x3
  obtain ⟨x0, x1, x2, x3⟩ := HX7.out.c4
  go_wp2_with fail
  refine (goal_no _ HM.out).mono ?_
  rintro e w8 ⟨rfl, hb⟩
  have HB8 := Lib.hid (HB7.out.trans (hb.mono HB7.out.size))
  clear hb x0 x1 x2 x3
  go_wp2_with fail
  go_ret
  exact ⟨rfl, HB8.out⟩
theorem varN_0 : varN 0 = ⟨#[120]⟩ := by kernel_rfl
theorem varN_1 : varN 1 = ⟨#[121]⟩ := by kernel_rfl
theorem xy_at {x m : Nat} (hx : x < m) (hm : m ≤ 2) : (#[Value.string ⟨#[120]⟩, .string ⟨#[121]⟩] : Array Value)[x]? = some (.string (varN x)) := by
  match x, (show x < 2 by omega) with
  | 0, _ => rw [varN_0]; rfl
  | 1, _ => rw [varN_1]; rfl
theorem goalH_eq (l : Nat) : (⟨#[108, 101, 116, 32, 120, 32, 102, 114, 101, 101, 32, 105, 110, 32, 102]⟩ : ByteArray) ++ ⟨(digs (l : Int)).toArray⟩ ++ ⟨#[32, 120]⟩ = goalH l := by
  have h : (⟨#[108, 101, 116, 32, 120, 32, 102, 114, 101, 101, 32, 105, 110, 32]⟩ : ByteArray) ++ ⟨#[102]⟩ = ⟨#[108, 101, 116, 32, 120, 32, 102, 114, 101, 101, 32, 105, 110, 32, 102]⟩ := by kernel_rfl
  unfold goalH nameS
  rw [← ByteArray.append_assoc, h]
theorem goalQ_odd {l d : Nat} {s : Int} (h : l % 2 = 1) : (goalQ l d s).1 = goalH l ++ (⟨#[32]⟩ ++ (argQ (exprQ [⟨#[120]⟩] l d) s).1) := by
  unfold goalQ
  rw [h]
  rfl
theorem goalQ_even {l d : Nat} {s : Int} (h : ¬ l % 2 = 1) : (goalQ l d s).1 = goalH l := by
  unfold goalQ
  rw [show l % 2 = 0 by omega]
  rfl
set_option maxRecDepth 100000 in
set_option maxHeartbeats 20000000 in
theorem genDraws_yes {f l r d k : Nat} {s : Int} (w : World) (hk : k ≤ 1099511627776) (hs : 0 ≤ s) (hfl : f = l + 1) (hf : f ≤ 8) (hr : r ≤ 4) (hd : d ≤ 4) (hm : mayB f r d = true) :
    Calls Try.prog 7 #[.agg #[.int .i64 f, .int .i64 r, .int .i64 d, .int .u64 s], .int .i64 k] w fun e w' => e = .returned (.bool true) ∧ Below w.heap.size w w' := by
  have HM := Lib.hid hm
  have h0 : ¬ (k : Int) < 0 := by omega
  have h1 : ¬ (1099511627776 : Int) < (k : Int) := by omega
  have HPR := Lib.hid fun w => program_any (f := f) (r := r) (d := d) (s := s) w hs hf hr hd hm
  have HGO := Lib.hid fun w => goal_any (f := f) (k := l) (r := r) (d := d) (s := s) w hfl (by omega) hd hm
  have el : IntKind.i64.wrap ((f : Int) - 1) = (l : Int) := by rw [IntKind.wrap_i64]; omega
  have hl7 : l ≤ 7 := by omega
  have HS0 := Lib.hid hs
  obtain ⟨p0, hp0⟩ : ∃ p : ByteArray × Int, (⟨#[100, 97, 116, 97, 32, 78, 32, 61, 32, 90, 32, 124, 32, 83, 32, 78, 10]⟩, s) = p := ⟨_, rfl⟩
  have HP : Hid (progQ f r d s = (funsQ r d p0 f).1) := Lib.hid (by rw [← hp0]; rfl)
  have HP0 : Hid (p0.1.size = 17) := Lib.hid (by rw [← hp0]; rfl)
  have HP1 : Hid (p0.1 = ⟨#[100, 97, 116, 97, 32, 78, 32, 61, 32, 90, 32, 124, 32, 83, 32, 78, 10]⟩) := Lib.hid (by rw [← hp0])
  have HP2 : Hid (p0.2 = s) := Lib.hid (by rw [← hp0])
  clear hp0 hs hfl hm
  obtain ⟨T, hT⟩ : ∃ T : ByteArray, (⟨(digs (k : Int)).toArray⟩ : ByteArray) = T := ⟨_, rfl⟩
  have HDG := Lib.hid hT
  have hts : ¬ 9223372036854775807 < 1 + T.size := by
    have := digs_len hk
    rw [← hT]
    show ¬ _ < 1 + (digs (k : Int)).toArray.size
    rw [List.size_toArray]; omega
  have HNM : Hid (nameS k = ⟨#[102]⟩ ++ T) := Lib.hid (by rw [← hT]; rfl)
  have e2 : IntKind.i64.wrap (1 + (k : Int).tmod 2) = 1 + (k : Int) % 2 := by rw [Int.tmod_eq_emod_of_nonneg (by omega), IntKind.wrap_i64]; omega
  clear hT
  have HB0 := Lib.hid (below_new w (.cells #[.int .i64 f, .int .i64 r, .int .i64 d, .int .u64 s] 55))
  have HX0 := Lib.hid (Bo.new w 55 #[.int .i64 f, .int .i64 r, .int .i64 d, .int .u64 s])
  have HZ0 : Hid ((w.alloc (.cells #[.int .i64 f, .int .i64 r, .int .i64 d, .int .u64 s] 55)).heap.size = w.heap.size + 1) := Lib.hid (World.size_alloc _ _)
  go_enter Try.func7, Try.ntmps7
  go_wp2_with fail
  refine (awake40_any _).mono ?_
  rintro e w1 ⟨rfl, hb⟩
  have HB1 := Lib.hid (HB0.out.trans (hb.mono HB0.out.size))
  have HX1 := Lib.hid (HX0.out.keep hb)
  have HZ1 : Hid (w.heap.size + 1 ≤ w1.heap.size) := Lib.hid (by have := hb.size; rw [HZ0.out] at this; exact this)
  clear hb HB0 HX0 HZ0
  obtain ⟨x0, x1, x2, x3⟩ := HX1.out.c4
  go_wp2_with fail
  go_region_held3 (fun w' => w'.cell? ⟨w.heap.size, 0, none⟩ = some (.int .i64 f) ∧ w'.cell? ⟨w.heap.size, 1, none⟩ = some (.int .i64 r) ∧ w'.cell? ⟨w.heap.size, 2, none⟩ = some (.int .i64 d) ∧ w'.cell? ⟨w.heap.size, 3, none⟩ = some (.int .u64 s))
    ((repeat' apply And.intro) <;> (repeat (first | with_reducible assumption | with_reducible refine cell_drew ?_ | with_reducible refine cell_alloc _ ?_ | with_reducible refine cell_row_far _ ?_ (by omega) | with_reducible refine cell_below ?_ HC1.out | with_reducible refine cell_below ?_ HC2.out | with_reducible refine cell_below ?_ HC3.out | with_reducible refine cell_below ?_ HC4.out)))
    (first
      | (go_at_call 27
         refine (gmay_any f r d s _).mono ?_
         rintro e wa ⟨rfl, hb⟩
         rw [HM.out]
         have HC1 := Lib.hid (Below.one hb)
         clear hb)
      | (go_at_call 28
         refine (lmay_any f r d s _).mono ?_
         rintro e wb ⟨rfl, hb⟩
         rw [HM.out]
         have HC2 := Lib.hid hb
         clear hb)
      | (go_at_call 29
         refine (gname_any hk _).mono ?_
         rintro e wc ⟨rfl, hb⟩
         rw [HNM.out]
         have HC3 := Lib.hid hb
         clear hb)
      | (go_at_call 30
         refine (rDigits_any (k : Int) _ (by omega) (by omega)).mono ?_
         rintro e wd ⟨rfl, hb⟩
         rw [HDG.out]
         have HC4 := Lib.hid hb
         clear hb)
      | (go_at_call 31
         refine (arity_any hk _).mono ?_
         rintro e we ⟨rfl, rfl⟩))
  have HX5 := Lib.hid ((((HX1.out.keep HC1.out).keep HC2.out).keep HC3.out).keep HC4.out)
  have HB5 := Lib.hid ((((HB1.out.trans (HC1.out.mono HB1.out.size)).trans (HC2.out.mono (Nat.le_trans HB1.out.size HC1.out.size))).trans (HC3.out.mono (Nat.le_trans HB1.out.size (Nat.le_trans HC1.out.size HC2.out.size)))).trans (HC4.out.mono (Nat.le_trans HB1.out.size (Nat.le_trans HC1.out.size (Nat.le_trans HC2.out.size HC3.out.size)))))
  clear x0 x1 x2 x3 HX1 HB1
  generalize (k : Int).tmod 2 = km at *
  generalize (1 : Int) + (k : Int) % 2 = kn at *
  obtain ⟨x0, x1, x2, x3⟩ := HX5.out.c4
  go_wp2_with fail
  refine (lmay_any f r d s _).mono ?_
  rintro e w6 ⟨rfl, hb⟩
  rw [HM.out]
  have HB6 := Lib.hid (HB5.out.trans (hb.mono HB5.out.size))
  have HX6 := Lib.hid (HX5.out.keep hb)
  have HQ : Hid (w.heap.size + 1 ≤ w6.heap.size) := Lib.hid (Nat.le_trans (Nat.le_trans HZ1.out (Nat.le_trans HC1.out.size (Nat.le_trans HC2.out.size (Nat.le_trans HC3.out.size HC4.out.size)))) hb.size)
  clear hb x0 x1 x2 x3 HC1 HC2 HC3 HC4 HX5 HB5 HZ1 HNM HDG hts e2
  obtain ⟨x0, x1, x2, x3⟩ := HX6.out.c4
  have HB7 := Lib.hid (HB6.out.alloc HB6.out.size (.cells #[.int .u64 s] 62))
  have HX7 := Lib.hid (HX6.out.alloc (.cells #[.int .u64 s] 62))
  have HS7 : Hid (Sd 62 w6.heap.size s (w6.alloc (.cells #[.int .u64 s] 62))) := Lib.hid ⟨Bo.new w6 _ _, HS0.out⟩
  have x7 := HX7.out.c4.1
  go_wp2_with fail
  clear x0 x1 x2 x3 x7
  generalize w6.alloc (.cells #[.int .u64 s] 62) = w7 at *
  generalize w6.heap.size = q at *
  go_loopw [6, 7, 8, 9, 10, 60] (fun v6 _ _ _ _ vi wr => ∃ i : Nat, vi = .int .i64 i ∧ i ≤ f ∧ v6 = .string (funsQ r d p0 i).1 ∧ Hid (Below w.heap.size w wr) ∧ Hid (Bo wr w.heap.size 55 #[.int .i64 f, .int .i64 r, .int .i64 d, .int .u64 s]) ∧ Hid (Sd 62 q (funsQ r d p0 i).2 wr)) (fun _ _ _ _ _ vi _ => f - (intOf vi).toNat)
  case atStart => exact ⟨0, rfl, Nat.zero_le _, congrArg Value.string HP1.out.symm, HB7, HX7, Lib.hid (by show Sd 62 q p0.2 _; rw [HP2.out]; exact HS7.out)⟩
  case round =>
    obtain ⟨i, rfl, hi, rfl, HB, HX, HS⟩ := hrel
    by_cases hlt : i < f
    · have hltz : (i : Int) < (f : Int) := by omega
      have hi9 : i ≤ 1000 := by omega
      have HN : Hid (funsQ r d p0 (i + 1) = rowsQ i d (funsQ r d p0 i) r) := Lib.hid rfl
      have hz1 := funsQ_size hr hd p0 i (by omega)
      rw [HP0.out] at hz1
      generalize funsQ r d p0 i = P at *
      obtain ⟨x0, x1, x2, x3⟩ := HX.out.c4
      go_wp2_with fail
      clear x0 x1 x2 x3
      go_loopw [6, 8, 9, 10, 65] (fun v6 _ _ _ vi wr => ∃ j : Nat, vi = .int .i64 j ∧ j ≤ r ∧ v6 = .string (rowsQ i d P j).1 ∧ Hid (Below w.heap.size w wr) ∧ Hid (Bo wr w.heap.size 55 #[.int .i64 f, .int .i64 r, .int .i64 d, .int .u64 s]) ∧ Hid (Sd 62 q (rowsQ i d P j).2 wr)) (fun _ _ _ _ vi _ => r - (intOf vi).toNat)
      case atStart => exact ⟨0, rfl, Nat.zero_le _, rfl, HB, HX, HS⟩
      case round =>
        obtain ⟨j, rfl, hj, rfl, HBJ, HXJ, HSJ⟩ := hrel
        by_cases hlj : j < r
        · have hljz : (j : Int) < (r : Int) := by omega
          have hz2 := rowsQ_size (k := i) hi9 hd P j
          have HN1 : Hid ((rowsQ i d P (j + 1)).1 = (rowsQ i d P j).1 ++ ((ruleQ i d (rowsQ i d P j).2).1 ++ ⟨#[10]⟩)) := Lib.hid rfl
          have HN2 : Hid ((rowsQ i d P (j + 1)).2 = (ruleQ i d (rowsQ i d P j).2).2) := Lib.hid rfl
          generalize rowsQ i d P j = R at *
          unfold ruleQ at HN1 HN2
          obtain ⟨m, hm⟩ : ∃ m, 1 + i % 2 = m := ⟨_, rfl⟩
          have hm2 : m ≤ 2 := by omega
          have HME : Hid ((1 : Int) + (i : Int) % 2 = (m : Int)) := Lib.hid (by omega)
          obtain ⟨t0, ht0⟩ : ∃ t, nameS i = t := ⟨_, rfl⟩
          have ht0s : t0.size ≤ 21 := by rw [← ht0]; exact nameS_size (by omega)
          obtain ⟨T0, hT0⟩ : ∃ T : ByteArray, (⟨(digs (i : Int)).toArray⟩ : ByteArray) = T := ⟨_, rfl⟩
          have HT0 := Lib.hid hT0
          have HTT : Hid ((⟨#[102]⟩ : ByteArray) ++ T0 = t0) := Lib.hid (by rw [← hT0, ← ht0]; rfl)
          have hT0s : T0.size ≤ 20 := by
            have := digs_len (k := i) (by omega)
            rw [← hT0]
            show (digs (i : Int)).toArray.size ≤ _
            rw [List.size_toArray]; exact this
          simp only [hm, ht0] at HN1 HN2
          obtain ⟨s0, hs0⟩ : ∃ s0, R.2 = s0 := ⟨_, rfl⟩
          rw [hs0] at HN1 HN2 HSJ
          clear hT0 ht0 hm hs0
          go_wp2_with fail
          refine (rDigits_any (i : Int) _ (by omega) (by omega)).mono ?_
          rintro e wd ⟨rfl, hb⟩
          rw [HT0.out]
          have HBD := Lib.hid (HBJ.out.trans (hb.mono HBJ.out.size))
          have HXD := Lib.hid (HXJ.out.keep hb)
          have HSD := Lib.hid (HSJ.out.keep hb)
          clear hb
          have hrt : R.1.size + t0.size ≤ 100000 := by omega
          have hts0 : ((⟨#[102]⟩ : ByteArray) ++ T0).size ≤ 21 := by rw [HTT.out]; exact ht0s
          go_wp2_with fail
          rw [HTT.out, HME.out]
          clear hts0
          go_loopw [6, 8, 9, 10, 75] (fun v6 y _ _ vi wr => ∃ x : Nat, vi = .int .i64 x ∧ x ≤ m ∧ v6 = .string (R.1 ++ (ruleV t0 s0 x).1) ∧ Hid (Below w.heap.size w wr) ∧ Hid (Bo wr w.heap.size 55 #[.int .i64 f, .int .i64 r, .int .i64 d, .int .u64 s]) ∧ Hid (Sd 62 q (ruleV t0 s0 x).2.2 wr) ∧ Hid (OwnD 0 (q + 1) 9 1 wr y (strRows (ruleV t0 s0 x).2.1))) (fun _ _ _ _ vi _ => m - (intOf vi).toNat)
          case atStart => exact ⟨0, rfl, Nat.zero_le _, rfl, HBD, HXD, HSD, Lib.hid (OwnD.nil _ _ _ _ _)⟩
          case round =>
            obtain ⟨x, rfl, hx, rfl, HBX, HXX, HSX, HOX⟩ := hrel
            obtain ⟨ya, yc, rfl, hyn, hyc⟩ := HOX.out.form
            by_cases hltx : x < m
            · have hltxz : (x : Int) < (m : Int) := by omega
              have HN : Hid (ruleV t0 s0 (x + 1) = _) := Lib.hid (by rw [ruleV])
              obtain ⟨q1, q2, q3⟩ := ruleV_ok t0 s0 x
              have hrl := dr_lt (ruleV t0 s0 x).2.2 (n := 3) (by decide)
              obtain ⟨P1, hP1⟩ : ∃ p, (ruleV t0 s0 x).1 = p := ⟨_, rfl⟩
              obtain ⟨P2, hP2⟩ : ∃ p, (ruleV t0 s0 x).2.1 = p := ⟨_, rfl⟩
              obtain ⟨P3, hP3⟩ : ∃ p, (ruleV t0 s0 x).2.2 = p := ⟨_, rfl⟩
              rw [hP1, hP2, hP3] at HN
              rw [hP1] at q1 ⊢
              rw [strRows_len] at HOX hyn ⊢
              rw [hP2] at q2 HOX hyn ⊢
              rw [hP3] at HSX hrl
              clear q3 hP1 hP2 hP3
              obtain ⟨nl, hnl⟩ : ∃ nl, P2.length = nl := ⟨_, rfl⟩
              rw [hnl] at HOX hyn q2 ⊢
              have HNL := Lib.hid hnl
              clear hnl
              have hv1 : (varN x).size = 1 := varN_size x
              have hxy := xy_at hltx hm2
              have HBA := Lib.hid (HBX.out.alloc HBX.out.size (.cells #[.string ⟨#[120]⟩, .string ⟨#[121]⟩] 9))
              have HXA := Lib.hid (HXX.out.alloc (.cells #[.string ⟨#[120]⟩, .string ⟨#[121]⟩] 9))
              have HSA := Lib.hid (HSX.out.new (.cells #[.string ⟨#[120]⟩, .string ⟨#[121]⟩] 9))
              have HOA := Lib.hid (HOX.out.alloc (.cells #[.string ⟨#[120]⟩, .string ⟨#[121]⟩] 9))
              have hx2 : (x : Int) < 2 := by omega
              have hps : (R.1 ++ P1).size ≤ 100000 := by rw [ByteArray.size_append]; omega
              generalize hvj : varN x = vj at *
              clear hvj
              by_cases r0 : dr P3 3 = 0
              · have HR := Lib.hid (show dr P3 3 = 0 by omega)
                rw [if_pos HR.out] at HN
                clear hrl
                go_wp2_with fail
                refine (below_any (n := 3) (by decide) (by decide) _ HSA.out).mono ?_
                rintro e w2 ⟨rfl, hf9, hs2⟩
                rw [HR.out]
                have HB2 : Hid (Below w.heap.size w w2) := Lib.hid ⟨hf9.os.trans HBA.out.os, hf9.tape.trans HBA.out.tape, hf9.output.trans HBA.out.output, Nat.le_trans HBA.out.size hf9.size, fun b hb => (hf9.block b (Nat.lt_of_lt_of_le hb HBA.out.size) (by have := HQ.out; omega)).trans (HBA.out.block b hb)⟩
                have HX2 := Lib.hid (HXA.out.away hf9 (by have := HQ.out; omega))
                have HS2 := Lib.hid hs2
                have HO2 : Hid (OwnD 0 (q + 1) 9 1 w2 (.slice ya nl yc) (strRows P2)) := Lib.hid (HOA.out.farO hf9 (Nat.lt_succ_self q))
                have HZ2 : Hid (q + 1 ≤ w2.heap.size) := Lib.hid HS2.out.lt
                clear hf9 hs2 HR hxy
                go_wp2_with fail
                go_roundw
                case rel => exact ⟨x + 1, by go_num, by omega, by rw [HN.out]; simp only [ByteArray.append_assoc], HB2, HX2, Lib.hid (by rw [HN.out]; exact HS2.out), Lib.hid (by rw [HN.out]; exact HO2.out)⟩
                case measure => simp [intOf] <;> omega
              · by_cases r1 : dr P3 3 = 1
                · have HR := Lib.hid (show dr P3 3 = 1 by omega)
                  rw [if_neg (by have := HR.out; omega), if_pos HR.out] at HN
                  clear hrl
                  go_wp2_with fail
                  refine (below_any (n := 3) (by decide) (by decide) _ HSA.out).mono ?_
                  rintro e w2 ⟨rfl, hf9, hs2⟩
                  rw [HR.out]
                  have HB2 : Hid (Below w.heap.size w w2) := Lib.hid ⟨hf9.os.trans HBA.out.os, hf9.tape.trans HBA.out.tape, hf9.output.trans HBA.out.output, Nat.le_trans HBA.out.size hf9.size, fun b hb => (hf9.block b (Nat.lt_of_lt_of_le hb HBA.out.size) (by have := HQ.out; omega)).trans (HBA.out.block b hb)⟩
                  have HX2 := Lib.hid (HXA.out.away hf9 (by have := HQ.out; omega))
                  have HS2 := Lib.hid hs2
                  have HO2 : Hid (OwnD 0 (q + 1) 9 1 w2 (.slice ya nl yc) (strRows P2)) := Lib.hid (HOA.out.farO hf9 (Nat.lt_succ_self q))
                  have HZ2 : Hid (q + 1 ≤ w2.heap.size) := Lib.hid HS2.out.lt
                  clear hf9 hs2 HR hxy
                  go_wp2_with (first
                    | (at_builtin
                       refine wpList_append_D2 rfl _ _ rfl Try.underlying29 info_str1 rfl (by decide) rfl rfl (HO2.out.alloc _) (own_str vj HO2.out HZ2.out) (by rw [strRows_len]; have := HNL.out; simp only [strRows, List.map_cons, List.map_nil, List.length_cons, List.length_nil]; omega) (by rw [strRows_len]; have := HNL.out; simp only [strRows, List.map_cons, List.map_nil, List.length_cons, List.length_nil]; omega) (by rw [World.size_alloc]; exact Nat.le_trans HZ2.out (Nat.le_succ _)) ?_
                       intro v6 w6 ho hg hy6
                       obtain ⟨a6, c6, rfl, h6a, h6b⟩ := ho.form
                       generalize (strRows P2 ++ strRows [vj]).length = n6 at ho hy6 h6a ⊢
                       have HO6 := Lib.hid ho
                       have HNY : Hid (∀ b, (Value.slice ya nl yc).ownBlock = some b → q + 1 ≤ b) := Lib.hid fun b hb => (HO2.out.lt b hb).1
                       have HX6 : Hid (Bo w6 w.heap.size 55 #[.int .i64 f, .int .i64 r, .int .i64 d, .int .u64 s]) := Lib.hid ((HX2.out.alloc _).grown hg (fun b hb e => by have := HNY.out b hb; have := HQ.out; omega))
                       have HB6 : Hid (Below w.heap.size w w6) := Lib.hid (grown_below (HB2.out.alloc HB2.out.size _) hg (Nat.le_refl _) (fun b hb => by have := HNY.out b hb; have := HQ.out; omega))
                       have HS6 : Hid (Sd 62 q (nxt P3) w6) := Lib.hid ((HS2.out.new _).same (hg.block q (by have := HS2.out.lt; rw [World.size_alloc]; omega) (fun e => by have := HNY.out q e.symm; omega)))
                       clear ho hg hy6))
                  go_roundw
                  case rel => exact ⟨x + 1, by go_num, by omega, by rw [HN.out]; simp only [ByteArray.append_assoc], HB6, HX6, Lib.hid (by rw [HN.out]; exact HS6.out), Lib.hid (by rw [HN.out]; have := HO6.out; rw [← strRows_app] at this; exact this)⟩
                  case measure => simp [intOf] <;> omega
                · have HR := Lib.hid (show dr P3 3 = 2 by omega)
                  rw [if_neg (by have := HR.out; omega), if_neg (by have := HR.out; omega)] at HN
                  clear hrl
                  go_wp2_with fail
                  refine (below_any (n := 3) (by decide) (by decide) _ HSA.out).mono ?_
                  rintro e w2 ⟨rfl, hf9, hs2⟩
                  rw [HR.out]
                  have HB2 : Hid (Below w.heap.size w w2) := Lib.hid ⟨hf9.os.trans HBA.out.os, hf9.tape.trans HBA.out.tape, hf9.output.trans HBA.out.output, Nat.le_trans HBA.out.size hf9.size, fun b hb => (hf9.block b (Nat.lt_of_lt_of_le hb HBA.out.size) (by have := HQ.out; omega)).trans (HBA.out.block b hb)⟩
                  have HX2 := Lib.hid (HXA.out.away hf9 (by have := HQ.out; omega))
                  have HS2 := Lib.hid hs2
                  have HO2 : Hid (OwnD 0 (q + 1) 9 1 w2 (.slice ya nl yc) (strRows P2)) := Lib.hid (HOA.out.farO hf9 (Nat.lt_succ_self q))
                  have HZ2 : Hid (q + 1 ≤ w2.heap.size) := Lib.hid HS2.out.lt
                  clear hf9 hs2 HR hxy
                  go_wp2_with (first
                    | (at_builtin
                       refine wpList_append_D2 rfl _ _ rfl Try.underlying29 info_str1 rfl (by decide) rfl rfl (HO2.out.alloc _) (own_str vj HO2.out HZ2.out) (by rw [strRows_len]; have := HNL.out; simp only [strRows, List.map_cons, List.map_nil, List.length_cons, List.length_nil]; omega) (by rw [strRows_len]; have := HNL.out; simp only [strRows, List.map_cons, List.map_nil, List.length_cons, List.length_nil]; omega) (by rw [World.size_alloc]; exact Nat.le_trans HZ2.out (Nat.le_succ _)) ?_
                       intro v6 w6 ho hg hy6
                       obtain ⟨a6, c6, rfl, h6a, h6b⟩ := ho.form
                       generalize (strRows P2 ++ strRows [vj]).length = n6 at ho hy6 h6a ⊢
                       have HO6 := Lib.hid ho
                       have HNY : Hid (∀ b, (Value.slice ya nl yc).ownBlock = some b → q + 1 ≤ b) := Lib.hid fun b hb => (HO2.out.lt b hb).1
                       have HX6 : Hid (Bo w6 w.heap.size 55 #[.int .i64 f, .int .i64 r, .int .i64 d, .int .u64 s]) := Lib.hid ((HX2.out.alloc _).grown hg (fun b hb e => by have := HNY.out b hb; have := HQ.out; omega))
                       have HB6 : Hid (Below w.heap.size w w6) := Lib.hid (grown_below (HB2.out.alloc HB2.out.size _) hg (Nat.le_refl _) (fun b hb => by have := HNY.out b hb; have := HQ.out; omega))
                       have HS6 : Hid (Sd 62 q (nxt P3) w6) := Lib.hid ((HS2.out.new _).same (hg.block q (by have := HS2.out.lt; rw [World.size_alloc]; omega) (fun e => by have := HNY.out q e.symm; omega)))
                       clear ho hg hy6))
                  go_roundw
                  case rel => exact ⟨x + 1, by go_num, by omega, by rw [HN.out]; simp only [ByteArray.append_assoc], HB6, HX6, Lib.hid (by rw [HN.out]; exact HS6.out), Lib.hid (by rw [HN.out]; have := HO6.out; rw [← strRows_app] at this; exact this)⟩
                  case measure => simp [intOf] <;> omega
            · obtain rfl : x = m := by omega
              have hltxz : ¬ (x : Int) < (x : Int) := by omega
              obtain ⟨q1, q2, q3⟩ := ruleV_ok t0 s0 x
              have hes := exprQ_size q3 hi9 d (ruleV t0 s0 x).2.2
              have hed := exS_le hd
              have HGE := Lib.hid (re_any (q := q) (fs := i) (by omega) q3 hi9 d hd)
              have HV : Hid (VM q wr (ruleV t0 s0 x).2.1 ya (strRows (ruleV t0 s0 x).2.1).length yc) := Lib.hid (HOX.out.mem.mono (fun b hb => ⟨by rcases hb.1 with h | h <;> omega, hb.2⟩) fun _ _ => rfl)
              have hps : (R.1 ++ (ruleV t0 s0 x).1).size ≤ 100000 := by rw [ByteArray.size_append]; omega
              obtain ⟨c0, c1, c2, c3⟩ := HXX.out.c4
              go_wp2_with fail
              refine (HGE.out wr (ruleV t0 s0 x).2.2 _ _ _ HV.out HSX.out).mono ?_
              rintro e w9 ⟨rfl, hf9, hs9⟩
              have HB9 : Hid (Below w.heap.size w w9) := Lib.hid ⟨hf9.os.trans HBX.out.os, hf9.tape.trans HBX.out.tape, hf9.output.trans HBX.out.output, Nat.le_trans HBX.out.size hf9.size, fun b hb => (hf9.block b (Nat.lt_of_lt_of_le hb HBX.out.size) (by have := HQ.out; omega)).trans (HBX.out.block b hb)⟩
              have HX9 := Lib.hid (HXX.out.away hf9 (by have := HQ.out; omega))
              have HS9 := Lib.hid hs9
              clear hf9 hs9 c0 c1 c2 c3
              go_wp2_with fail
              go_roundw
              case rel => exact ⟨j + 1, by go_num, by omega, by rw [HN1.out]; simp only [ByteArray.append_assoc], HB9, HX9, Lib.hid (by rw [HN2.out]; exact HS9.out)⟩
              case measure => simp [intOf] <;> omega
        · obtain rfl : j = r := by omega
          have hljz : ¬ (j : Int) < (j : Int) := by omega
          go_wp2_with fail
          go_roundw
          case rel => exact ⟨i + 1, by go_num, by omega, by rw [HN.out], HBJ, HXJ, Lib.hid (by rw [HN.out]; exact HSJ.out)⟩
          case measure => simp [intOf] <;> omega
    · obtain rfl : i = f := by omega
      have hltz : ¬ (i : Int) < (i : Int) := by omega
      have HV6 : Hid ((funsQ r d p0 i).1 = progQ i r d s) := Lib.hid (by rw [HP.out])
      rw [HV6.out]
      obtain ⟨x0, x1, x2, x3⟩ := HX.out.c4
      have HQE : Hid (w.heap.size + 1 ≤ wr.heap.size) := Lib.hid (Nat.le_trans HQ.out (Nat.le_of_lt HS.out.lt))
      clear HS
      have HBE := Lib.hid (HB.out.alloc HB.out.size (.cells #[.int .u64 (bits .xor .u64 s 1)] 62))
      have HXE := Lib.hid (HX.out.alloc (.cells #[.int .u64 (bits .xor .u64 s 1)] 62))
      have HSE : Hid (Sd 62 wr.heap.size (bits .xor .u64 s 1) (wr.alloc (.cells #[.int .u64 (bits .xor .u64 s 1)] 62))) := Lib.hid ⟨Bo.new wr _ _, (bits_u64 s 1).1⟩
      obtain ⟨TL, hTL⟩ : ∃ T : ByteArray, (⟨(digs (l : Int)).toArray⟩ : ByteArray) = T := ⟨_, rfl⟩
      have HTL := Lib.hid hTL
      have hTLs : TL.size ≤ 20 := by
        have := digs_len (k := l) (by omega)
        rw [← hTL]
        show (digs (l : Int)).toArray.size ≤ _
        rw [List.size_toArray]; exact this
      have hGH := goalH_eq l
      rw [hTL] at hGH
      have HGH := Lib.hid hGH
      clear hGH hTL
      go_wp2_with fail
      generalize wr.alloc (.cells #[.int .u64 (bits .xor .u64 s 1)] 62) = we at *
      generalize wr.heap.size = qe at *
      generalize bits .xor .u64 s 1 = s1 at *
      refine (rDigits_any (l : Int) _ (by omega) (by omega)).mono ?_
      rintro e wg ⟨rfl, hb⟩
      rw [HTL.out]
      have HBG := Lib.hid (HBE.out.trans (hb.mono HBE.out.size))
      have HXG := Lib.hid (HXE.out.keep hb)
      have HSG := Lib.hid (HSE.out.keep hb)
      clear hb x0 x1 x2 x3
      obtain ⟨x0, x1, x2, x3⟩ := HXG.out.c4
      by_cases ho : l % 2 = 1
      · have e5 : ((l : Int).tmod 2 == 1) = true := by rw [Int.tmod_eq_emod_of_nonneg (by omega), beq_iff_eq]; omega
        have e6 : ((l : Int) % 2 == 1) = true := by rw [beq_iff_eq]; omega
        have HGQ := Lib.hid (goalQ_odd (d := d) (s := s1) ho)
        have hgs : (goalH l).size ≤ 40 := by
          rw [← HGH.out]
          simp only [ByteArray.size_append]
          show 15 + TL.size + 2 ≤ _
          omega
        have HV := Lib.hid ((own_str (B := 0) (base := qe + 1) (e := 9) (e' := 9) ⟨#[120]⟩ (OwnD.nil 0 (qe + 1) 9 1 wg) HSG.out.lt).mono (fun b hb => ⟨by rcases hb.1.1 with h | h <;> omega, hb.1.2⟩) fun _ _ => rfl : VM qe (wg.alloc (.cells #[.string ⟨#[120]⟩] 9)) [⟨#[120]⟩] (some ⟨wg.heap.size, 0, none⟩) 1 1)
        have HRA := Lib.hid (ra_any (q := qe) (vs := [⟨#[120]⟩]) (fs := l) (by decide) goalQ_vs (by omega) d hd _ s1 _ _ _ HV.out (HSG.out.new _))
        have has : (argQ (exprQ [⟨#[120]⟩] l d) s1).1.size ≤ 618 := by
          have h1 := brk_size (exprQ [⟨#[120]⟩] l d s1).1
          have h2 := exprQ_size goalQ_vs (fs := l) (by omega) d s1
          have h3 := exS_le hd
          show (brk (exprQ [⟨#[120]⟩] l d s1).1).size ≤ _
          omega
        generalize argQ (exprQ [⟨#[120]⟩] l d) s1 = A at *
        generalize goalH l = g at *
        have HBA := Lib.hid (HBG.out.alloc HBG.out.size (.cells #[.string ⟨#[120]⟩] 9))
        have HXA := Lib.hid (HXG.out.alloc (.cells #[.string ⟨#[120]⟩] 9))
        have hgh2 := HGH.out
        obtain ⟨y0, y1, y2, y3⟩ := HXA.out.c4
        go_wp2_with fail
        refine HRA.out.mono ?_
        rintro e wh ⟨rfl, hf9, hs9⟩
        have HBZ : Hid (Below w.heap.size w wh) := Lib.hid ⟨hf9.os.trans HBA.out.os, hf9.tape.trans HBA.out.tape, hf9.output.trans HBA.out.output, Nat.le_trans HBA.out.size hf9.size, fun b hb => (hf9.block b (Nat.lt_of_lt_of_le hb HBA.out.size) (by have := HQE.out; omega)).trans (HBA.out.block b hb)⟩
        have HXZ := Lib.hid (HXA.out.away hf9 (by have := HQE.out; omega))
        clear hf9 hs9 x0 x1 x2 x3 y0 y1 y2 y3
        obtain ⟨x0, x1, x2, x3⟩ := HXZ.out.c4
        go_wp2_with fail
        refine (HPR.out _).mono ?_
        rintro e wp ⟨rfl, hb⟩
        have HBP := Lib.hid (HBZ.out.trans (hb.mono HBZ.out.size))
        have HXP := Lib.hid (HXZ.out.keep hb)
        clear hb x0 x1 x2 x3
        obtain ⟨x0, x1, x2, x3⟩ := HXP.out.c4
        go_wp2_with fail
        refine (HGO.out _).mono ?_
        rintro e wz ⟨rfl, hb⟩
        rw [HGQ.out]
        have HBF := Lib.hid (HBP.out.trans (hb.mono HBP.out.size))
        clear hb x0 x1 x2 x3
        go_wp2_with fail
        go_ret
        exact ⟨rfl, HBF.out⟩
      · have e5 : ((l : Int).tmod 2 == 1) = false := by rw [Int.tmod_eq_emod_of_nonneg (by omega), beq_eq_false_iff_ne]; omega
        have e6 : ((l : Int) % 2 == 1) = false := by rw [beq_eq_false_iff_ne]; omega
        have HGQ := Lib.hid (goalQ_even (d := d) (s := s1) ho)
        generalize goalH l = g at *
        have HBZ := HBG
        have HXZ := HXG
        have hgh2 := HGH.out
        go_wp2_with fail
        refine (HPR.out _).mono ?_
        rintro e wp ⟨rfl, hb⟩
        have HBP := Lib.hid (HBZ.out.trans (hb.mono HBZ.out.size))
        have HXP := Lib.hid (HXZ.out.keep hb)
        clear hb x0 x1 x2 x3
        obtain ⟨x0, x1, x2, x3⟩ := HXP.out.c4
        go_wp2_with fail
        refine (HGO.out _).mono ?_
        rintro e wz ⟨rfl, hb⟩
        rw [HGQ.out]
        have HBF := Lib.hid (HBP.out.trans (hb.mono HBP.out.size))
        clear hb x0 x1 x2 x3
        go_wp2_with fail
        go_ret
        exact ⟨rfl, HBF.out⟩
end Go.Proofs.Ytppejoccljfblaa
