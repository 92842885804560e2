/-
  deps.Recursive, deps.Callers. No condition but how the graph lies, and how great it is.
-/
import Derived.Test.YtlhkkkmjoobpcaaReach
import Derived.Test.YtlhkkkmjoobpcaaIndexI
namespace Go.Proofs.Ytlhkkkmjoobpcaa
open Go.RowKit

set_option maxHeartbeats 4000000 in
theorem recursive_any {l : List (List Int)} {n cap : Nat} {a : Option Addr} (i : Int) (w : World) (h : MemW w (.s 1 (grRows l)) (.slice a n cap)) (hd : ∀ r ∈ l, r.length ≤ 1000) (hn : n ≤ 1000) :
    Calls Try.prog 13 #[.slice a n cap, .int .i64 i] w fun e w' => e = .returned (.bool (decide (i ∈ risingL (marksR l i)))) ∧ Below w.heap.size w w' := by
  have HC := Lib.hid (reach_any i w h hd hn)
  clear h hd hn
  go_enter Try.func13, Try.ntmps13
  go_wp2_with fail
  refine HC.out.mono ?_
  rintro e w2 ⟨y, rfl, ho, hb⟩
  obtain ⟨a2, c2, rfl, _, _⟩ := ho.form
  have HM := Lib.hid ho.memW
  have HB := Lib.hid hb
  clear ho hb
  generalize (intRows (risingL (marksR l i))).length = m at *
  go_wp2_with fail
  refine (contains_int_any i w2 HM.out).mono ?_
  rintro e w3 ⟨rfl, rfl⟩
  generalize hr : decide (i ∈ risingL (marksR l i)) = r
  have HR := Lib.hid hr
  clear hr
  go_wp2_with fail
  go_ret
  exact ⟨by rw [HR.out]; rfl, HB.out⟩
theorem callersL_len (l : List (List Int)) (i : Int) : ∀ k, (callersL l i k).length ≤ k
  | 0 => Nat.le_refl _
  | k + 1 => by
    have := callersL_len l i k
    rw [callersL]
    split
    · rw [List.length_append]; simp; omega
    · omega
set_option maxRecDepth 100000 in
set_option maxHeartbeats 20000000 in
theorem callers_any {l : List (List Int)} {n cap : Nat} {a : Option Addr} (i : Int) (w : World) (h : MemW w (.s 1 (grRows l)) (.slice a n cap)) (hd : ∀ r ∈ l, r.length ≤ 1000) (hn : n ≤ 1000) :
    Calls Try.prog 14 #[.slice a n cap, .int .i64 i] w fun e w' => ∃ y, e = .returned y ∧ OwnD 0 w.heap.size 3 1 w' y (intRows (callersL l i n)) ∧ Below w.heap.size w w' := by
  have hl := gr_len h
  have HL := Lib.hid hl.1
  have hcap := hl.2.1
  have hmx := hl.2.2
  have H := Lib.hid h
  have HD := Lib.hid hd
  have HN := Lib.hid hn
  clear hl h hd hn
  go_enter Try.func14, Try.ntmps14
  go_wp2
  go_loopw [5, 9] (fun v i' wr => ∃ k : Nat, k ≤ n ∧ i' = .int .i64 k ∧ Hid (Below w.heap.size w wr) ∧ Hid (OwnD 0 w.heap.size 3 1 wr v (intRows (callersL l i k)))) (fun _ i' _ => n - (intOf i').toNat)
  case atStart => exact ⟨0, Nat.zero_le _, rfl, Lib.hid (Below.refl _ _), Lib.hid (OwnD.nil _ _ _ _ _)⟩
  case round =>
    obtain ⟨k, hk, rfl, HB, HO⟩ := hrel
    by_cases hlt : k < n
    · have hltz : (k : Int) < (n : Int) := by omega
      have HIS := Lib.hid (in_steps (l := l) (i := i) (k := k) (by have := HL.out; omega))
      have HCL : Hid (callersL l i (k + 1) = if okN n i && (rowG l k).any (fun x => x == i) then callersL l i k ++ [(k : Int)] else callersL l i k) := Lib.hid (by rw [callersL, HL.out])
      rw [HL.out] at HIS
      have HLN := Lib.hid (callersL_len l i k)
      by_cases hi0 : 0 ≤ i
      · have e1 : decide (0 ≤ i) = true := decide_eq_true hi0
        have HST := Lib.hid (steps_any (k : Int) wr (MemW.keep H.out HB.out) HD.out)
        clear hi0
        go_wp2_with fail
        refine HST.out.mono ?_
        rintro e w2 ⟨y, rfl, ho, hb⟩
        obtain ⟨a2, c2, rfl, _, _⟩ := ho.form
        have HM := Lib.hid ho.memW
        have HB2 := Lib.hid (Below.to HB.out hb)
        have HO2 := Lib.hid (HO.out.keep hb)
        have hs := HB2.out.size
        clear ho hb HST
        have HIS2 : Hid (decide (i ∈ stepsG l (k : Int)) = (okN n i && (rowG l k).any (fun x => x == i))) := Lib.hid (by rw [← HIS.out, Bool.eq_iff_iff]; simp)
        generalize stepsG l (k : Int) = L at *
        generalize (intRows L).length = m at *
        go_wp2_with fail
        refine (contains_int_any i w2 HM.out).mono ?_
        rintro e w3 ⟨rfl, rfl⟩
        rw [HIS2.out]
        cases hr : (okN n i && (rowG l k).any (fun x => x == i)) with
        | true =>
          rw [hr, if_pos rfl] at HCL
          clear hr HIS HIS2
          go_wp2_with (first
            | (at_builtin
               refine wpList_append_D2 rfl _ _ rfl Try.underlying27 info_intG rfl (by decide) rfl rfl (HO2.out.alloc _) (own_int (k : Int) _ rfl HO2.out hs) (by have := HLN.out; have := HN.out; simp only [intRows_len, List.length_cons, List.length_nil]; omega) (by have := HLN.out; have := HN.out; simp only [intRows_len, List.length_cons, List.length_nil]; omega) (by rw [World.size_alloc]; omega) ?_
               intro v' w6 ho hg _
               have HO6 := Lib.hid ho
               have HB6 := Lib.hid (grown_below (HB2.out.alloc hs _) hg (Nat.le_refl _) (fun k hk => (HO2.out.lt k hk).1))
               clear ho hg))
          go_roundw
          case rel => exact ⟨k + 1, by omega, by go_num, HB6, Lib.hid (by rw [HCL.out, intRows_app]; exact HO6.out)⟩
          case measure => simp [intOf]; omega
        | false =>
          rw [hr, if_neg (by simp)] at HCL
          clear hr HIS HIS2
          go_wp2_with fail
          go_roundw
          case rel => exact ⟨k + 1, by omega, by go_num, HB2, Lib.hid (by rw [HCL.out]; exact HO2.out)⟩
          case measure => simp [intOf]; omega
      · have e1 : decide (0 ≤ i) = false := decide_eq_false hi0
        have hok : okN n i = false := by rw [Bool.eq_false_iff]; intro h; exact hi0 (okN_iff.1 h).1
        rw [hok, Bool.false_and, if_neg (by simp)] at HCL
        clear hi0 hok
        go_wp2_with fail
        go_roundw
        case rel => exact ⟨k + 1, by omega, by go_num, HB, Lib.hid (by rw [HCL.out]; exact HO.out)⟩
        case measure => simp [intOf]; omega
    · obtain rfl : n = k := by omega
      have hltz : ¬ (n : Int) < (n : Int) := by omega
      go_wp2
      go_ret
      exact ⟨_, rfl, HO.out, HB.out⟩
end Go.Proofs.Ytlhkkkmjoobpcaa
