/-
  The document's Show and lex.Items, walked. No condition but sizes.
-/
import Derived.Test.YtppejoccljfblaaLexShow
namespace Go.Proofs.Ytppejoccljfblaa
open Go.RowKit
attribute [local go_sem ↓] store_tok
attribute [local go_sem] stOk_tok stB_eq stC_eq wr_drew wr_alloc wr_row wr_drewN
attribute [local go_sem] toList_beq

theorem app_dl (x y : ByteArray) : (x ++ y).data.toList = x.data.toList ++ y.data.toList := by
  rw [show (x ++ y).data = x.data ++ y.data by simp]; simp
set_option maxRecDepth 100000 in
set_option maxHeartbeats 2000000 in
theorem rshow_any {B n cap : Nat} {a : Option Addr} {ts : List Tok} (w : World) (h : Rd B w a n cap 5 (tokVs ts)) (hB : B ≤ w.heap.size) (hlen : (showL false true ts).length ≤ 1000000) :
    Calls Try.prog 51 #[.slice a n cap] w fun e w' => e = .returned (.string (str (showL false true ts))) ∧ Below w.heap.size w w' := by
  have hcap := h.2.1
  have hm := h.2.2.1
  have HN := Lib.hid h.tokLen
  have H := Lib.hid (h.le hB)
  have HLEN := Lib.hid hlen
  clear h hB hlen
  go_enter Try.func51, Try.ntmps51
  go_wp2
  go_loopw [3, 4, 5, 6, 9] (fun ss bl _ _ j wr => ∃ (k : Nat) (f : Bool) (S : ByteArray), k ≤ n ∧ j = .int .i64 k ∧ bl = .bool (!f) ∧ ss = .string S ∧ Hid (Below w.heap.size w wr) ∧ Hid (S.data.toList ++ showL f (decide (k = 0)) (ts.drop k) = showL false true ts)) (fun _ _ _ _ j _ => n - (intOf j).toNat)
  case atStart => exact ⟨0, false, ⟨#[]⟩, Nat.zero_le _, rfl, rfl, rfl, Lib.hid (Below.refl _ _), Lib.hid (by simp)⟩
  case round =>
    obtain ⟨k, f, S, hk, rfl, rfl, rfl, HW, HE⟩ := hrel
    by_cases hlt : k < n
    · have hlt' : (k : Int) < (n : Int) := by omega
      obtain ⟨b, o, rfl, hb, hl, c0, c1, c2, c3, c4⟩ := (H.out.mono HW.out).tokAt k hlt
      have HE2 := HE.out
      rw [showL_drop hl] at HE2
      generalize ts[k] = t at *
      obtain ⟨tk, tS, tn, tl, tc⟩ := t
      simp only at c0 c1 c2 c3 c4 HE2
      by_cases hk1 : tk = 1
      · have g1 : (tk == 1) = true := by rw [beq_iff_eq]; exact hk1
        have hk0 : ¬ tk = 0 := by omega
        simp only [if_neg hk0, if_pos hk1, decide_eq_true hk1] at HE2
        clear hk0 hk1
        by_cases hkz : k = 0
        · subst hkz
          simp only [Nat.zero_mul, Nat.add_zero] at c0 c1 c2 c3 c4
          simp only [decide_true, if_true, List.nil_append] at HE2
          have HE3 : Hid (S.data.toList ++ showL true (decide (0 + 1 = 0)) (ts.drop (0 + 1)) = showL false true ts) := Lib.hid (by simpa using HE2)
          clear HE2
          go_wp2
          go_roundw
          case rel => exact ⟨0 + 1, true, S, by omega, by go_num, rfl, rfl, Lib.hid (HW.out.alloc HW.out.size _), HE3⟩
          case measure => simp [intOf]; omega
        · have hkp : (0 : Int) < (k : Int) := by omega
          simp only [decide_eq_false hkz, Bool.false_eq_true, if_false] at HE2
          have HE3 : Hid ((S ++ ⟨#[10]⟩).data.toList ++ showL true (decide (k + 1 = 0)) (ts.drop (k + 1)) = showL false true ts) := Lib.hid (by rw [app_dl]; simpa using HE2)
          have s1 : ¬ (9223372036854775807 < S.size + 1) := by
            have := congrArg List.length HE.out
            rw [List.length_append, length_data] at this
            have := HLEN.out; omega
          clear HE2 hkz
          go_wp2
          go_roundw
          case rel => exact ⟨k + 1, true, S ++ ⟨#[10]⟩, by omega, by go_num, rfl, rfl, Lib.hid (HW.out.alloc HW.out.size _), HE3⟩
          case measure => simp [intOf]; omega
      · have g1 : (tk == 1) = false := by rw [beq_eq_false_iff_ne]; exact hk1
        by_cases hk0 : tk = 0
        · have g0 : (tk == 0) = true := by rw [beq_iff_eq]; exact hk0
          simp only [if_pos hk0, List.nil_append] at HE2
          have HE3 : Hid (S.data.toList ++ showL f (decide (k + 1 = 0)) (ts.drop (k + 1)) = showL false true ts) := Lib.hid (by simpa using HE2)
          clear hk0 hk1 HE2
          go_wp2
          go_roundw
          case rel => exact ⟨k + 1, f, S, by omega, by go_num, rfl, rfl, Lib.hid (HW.out.alloc HW.out.size _), HE3⟩
          case measure => simp [intOf]; omega
        · have g0 : (tk == 0) = false := by rw [beq_eq_false_iff_ne]; exact hk0
          simp only [if_neg hk0, if_neg hk1, decide_eq_false hk1] at HE2
          clear hk0 hk1
          have hSl : S.size ≤ 1000000 := by
            have := congrArg List.length HE.out
            rw [List.length_append, length_data] at this
            have := HLEN.out; omega
          cases f with
          | true =>
            simp only [if_true, List.nil_append] at HE2
            have HE3 : Hid ((S ++ tS).data.toList ++ showL false (decide (k + 1 = 0)) (ts.drop (k + 1)) = showL false true ts) := Lib.hid (by rw [app_dl]; simpa using HE2)
            have s1 : ¬ (9223372036854775807 < S.size + tS.size) := by
              have := congrArg List.length HE3.out
              rw [app_dl, List.length_append, List.length_append, length_data, length_data] at this
              have := HLEN.out; omega
            clear HE2
            go_wp2
            go_roundw
            case rel => exact ⟨k + 1, false, S ++ tS, by omega, by go_num, rfl, rfl, Lib.hid (HW.out.alloc HW.out.size _), HE3⟩
            case measure => simp [intOf]; omega
          | false =>
            simp only [Bool.false_eq_true, if_false] at HE2
            have HE3 : Hid (((S ++ ⟨#[32]⟩) ++ tS).data.toList ++ showL false (decide (k + 1 = 0)) (ts.drop (k + 1)) = showL false true ts) := Lib.hid (by rw [app_dl, app_dl]; simpa using HE2)
            have s1 : ¬ (9223372036854775807 < S.size + 1) := by omega
            have s2 : ¬ (9223372036854775807 < S.size + 1 + tS.size) := by
              have := congrArg List.length HE3.out
              rw [app_dl, app_dl, List.length_append, List.length_append, List.length_append, length_data, length_data, length_data, show (⟨#[32]⟩ : ByteArray).size = 1 from rfl] at this
              have := HLEN.out; omega
            clear HE2
            go_wp2
            go_roundw
            case rel => exact ⟨k + 1, false, (S ++ ⟨#[32]⟩) ++ tS, by omega, by go_num, rfl, rfl, Lib.hid (HW.out.alloc HW.out.size _), HE3⟩
            case measure => simp [intOf]; omega
    · have hlt' : ¬ (k : Int) < (n : Int) := by omega
      have hout : S = str (showL false true ts) := by
        have := HE.out
        rw [List.drop_eq_nil_of_le (by have := HN.out; omega)] at this
        rw [← this]
        simp [showL, str]
      clear HE
      go_wp2
      go_ret
      exact ⟨rfl, HW.out⟩

/-- How many items there are. -/
def itemsN (ts : List Tok) : Nat := ts.countP fun t => t.k == 1
theorem itemsN_take {ts : List Tok} {k : Nat} (hk : k < ts.length) : itemsN (ts.take (k + 1)) = itemsN (ts.take k) + if ts[k].k == 1 then 1 else 0 := by
  rw [List.take_succ_eq_append_getElem hk, itemsN, List.countP_append, List.countP_singleton]; rfl
set_option maxRecDepth 100000 in
set_option maxHeartbeats 2000000 in
theorem items_any {B n cap : Nat} {a : Option Addr} {ts : List Tok} (w : World) (h : Rd B w a n cap 5 (tokVs ts)) (hB : B ≤ w.heap.size) :
    Calls Try.prog 52 #[.slice a n cap] w fun e w' => e = .returned (.int .i64 (itemsN ts)) ∧ Below w.heap.size w w' := by
  have hcap := h.2.1
  have hm := h.2.2.1
  have HN := Lib.hid h.tokLen
  have H := Lib.hid (h.le hB)
  clear h hB
  go_enter Try.func52, Try.ntmps52
  go_wp2
  go_loopw [3, 5, 8] (fun v _ j wr => ∃ (k m : Nat), k ≤ n ∧ m ≤ k ∧ j = .int .i64 k ∧ v = .int .i64 m ∧ Hid (Below w.heap.size w wr) ∧ Hid (itemsN (ts.take k) = m)) (fun _ _ j _ => n - (intOf j).toNat)
  case atStart => exact ⟨0, 0, Nat.zero_le _, Nat.le_refl _, rfl, rfl, Lib.hid (Below.refl _ _), Lib.hid rfl⟩
  case round =>
    obtain ⟨k, m, hk, hmk, rfl, rfl, HW, HE⟩ := hrel
    by_cases hlt : k < n
    · have hlt' : (k : Int) < (n : Int) := by omega
      obtain ⟨b, o, rfl, hb, hl, c0, c1, c2, c3, c4⟩ := (H.out.mono HW.out).tokAt k hlt
      have HE2 := itemsN_take hl
      rw [HE.out] at HE2
      generalize ts[k] = t at *
      obtain ⟨tk, tS, tn, tl, tc⟩ := t
      simp only at c0 c1 c2 c3 c4 HE2
      cases hq : (tk == 1) with
      | true =>
        rw [hq, if_pos rfl] at HE2
        have HE3 := Lib.hid HE2
        clear HE2
        go_wp2
        go_roundw
        case rel => exact ⟨k + 1, m + 1, by omega, by omega, by go_num, by go_num, Lib.hid (HW.out.alloc HW.out.size _), HE3⟩
        case measure => simp [intOf]; omega
      | false =>
        rw [hq] at HE2
        simp only [Bool.false_eq_true, if_false, Nat.add_zero] at HE2
        have HE3 := Lib.hid HE2
        clear HE2
        go_wp2
        go_roundw
        case rel => exact ⟨k + 1, m, by omega, by omega, by go_num, rfl, Lib.hid (HW.out.alloc HW.out.size _), HE3⟩
        case measure => simp [intOf]; omega
    · have hlt' : ¬ (k : Int) < (n : Int) := by omega
      have hout : itemsN ts = m := by
        have := HE.out
        rwa [List.take_of_length_le (by have := HN.out; omega)] at this
      clear HE
      go_wp2
      go_ret
      exact ⟨rfl, HW.out⟩
end Go.Proofs.Ytppejoccljfblaa
