/-
  The law of chapter 10 on deps.Reach, deps.Recursive and deps.Callers. No condition but how the graph lies.
-/
import Derived.Test.YtlhkkkmjoobpcaaAwake10
import Derived.Test.YtlhkkkmjoobpcaaCallers
namespace Go.Proofs.Ytlhkkkmjoobpcaa
open Go.RowKit

theorem marksR_len (l : List (List Int)) (i : Int) : (marksR l i).length = l.length := by
  unfold marksR
  split
  · exact roundsR_len l i _
  · simp
theorem fewG_row {l : List (List Int)} (h : fewG l = true) : (∀ r ∈ l, r.length ≤ 1000) ∧ l.length ≤ 1000 := by
  unfold fewG at h
  rw [Bool.and_eq_true, List.all_eq_true, decide_eq_true_eq] at h
  exact ⟨fun r hr => by have := of_decide_eq_true (h.1 r hr); omega, by omega⟩
theorem any_take {r : List Int} {j : Nat} {x : Int} (p : Int → Bool) (h : r[j]? = some x) : (r.take (j + 1)).any p = ((r.take j).any p || p x) := by
  rw [take_at h, List.any_append]; simp
set_option maxRecDepth 100000 in
set_option maxHeartbeats 20000000 in
theorem depsReach_any {l : List (List Int)} {n cap : Nat} {a : Option Addr} (i : Int) (w : World) (h : MemW w (.s 1 (grRows l)) (.slice a n cap)) :
    Calls Try.prog 4 #[.slice a n cap, .int .i64 i] w fun e w' => e = .returned (.bool true) ∧ Below w.heap.size w w' := by
  have hl := gr_len h
  have HL := Lib.hid hl.1
  have hcap := hl.2.1
  have hmx := hl.2.2
  have H := Lib.hid h
  clear hl h
  go_enter Try.func4, Try.ntmps4
  go_wp2_with fail
  refine (awake_any w).mono ?_
  rintro e w1 ⟨rfl, hb1⟩
  have H1 := Lib.hid (MemW.keep H.out hb1)
  have B1 := Lib.hid hb1
  clear hb1
  go_wp2_with fail
  refine (fewG_any w1 H1.out).mono ?_
  rintro e w1' ⟨rfl, rfl⟩
  cases hf : fewG l with
  | false =>
    go_wp2_with fail
    go_ret
    exact ⟨rfl, B1.out⟩
  | true =>
    have hd := fewG_row hf
    have HD := Lib.hid hd.1
    have hn : n ≤ 1000 := by have := hd.2; have := HL.out; omega
    clear hd hf H
    go_wp2_with fail
    refine (rreach_any i w1 H1.out hn).mono ?_
    rintro e w2 ⟨g, rfl, hg, hgs, hb2⟩
    have H2 := Lib.hid (MemW.keep H1.out hb2)
    have HM := Lib.hid (hg.mem (n := n) (by rw [marksR_len]; exact HL.out) (by omega))
    have B2 := Lib.hid (Below.to B1.out hb2)
    clear hg hb2 H1
    go_wp2_with fail
    refine (rising_any w2 HM.out (by omega)).mono ?_
    rintro e w3 ⟨y3, rfl, ho3, hb3⟩
    have H3 := Lib.hid (MemW.keep H2.out hb3)
    obtain ⟨a3, c3, rfl, hc3, hm3⟩ := ho3.form
    have HR3 := Lib.hid ho3.memW
    have B3 := Lib.hid (Below.to B2.out hb3)
    clear hb3 ho3 H2 HM
    have HRC := Lib.hid (fun (w' : World) (h' : MemW w' (.s 1 (grRows l)) (.slice a n cap)) => recursive_any i w' h' HD.out hn)
    have HRE := Lib.hid (fun (w' : World) (h' : MemW w' (.s 1 (grRows l)) (.slice a n cap)) => reach_any i w' h' HD.out hn)
    generalize risingL (marksR l i) = R at *
    rw [intRows_len] at HR3 hc3
    generalize hrn : R.length = rn at *
    have HRN := Lib.hid hrn
    simp only [intRows_len, hrn]
    clear hrn
    go_wp2_with fail
    go_loopw [6, 25] (fun v i' wr => ∃ k : Nat, k ≤ rn ∧ i' = .int .i64 k ∧ v = .bool ((R.take k).any (fun x => x == i)) ∧ Hid (Below w3.heap.size w3 wr)) (fun _ i' _ => rn - (intOf i').toNat)
    case atStart => exact ⟨0, Nat.zero_le _, rfl, rfl, Lib.hid (Below.refl _ _)⟩
    case round =>
      obtain ⟨k, hk, rfl, rfl, HB⟩ := hrel
      by_cases hlt : k < rn
      · have hltz : (k : Int) < (rn : Int) := by omega
        obtain ⟨b, o, x, rfl, hbB, Hx, x0⟩ := int_at (MemW.keep HR3.out HB.out) k hlt
        have HT := Lib.hid (any_take (fun x => x == i) Hx.out)
        cases hv : (R.take k).any (fun x => x == i) with
        | true =>
          rw [hv] at HT
          clear hv
          go_wp2_with fail
          go_roundw
          case rel => exact ⟨k + 1, by omega, by go_num, by rw [HT.out]; rfl, HB⟩
          case measure => simp [intOf]; omega
        | false =>
          rw [hv] at HT
          clear hv
          go_wp2_with fail
          go_roundw
          case rel => exact ⟨k + 1, by omega, by go_num, by rw [HT.out]; rfl, HB⟩
          case measure => simp [intOf]; omega
      · obtain rfl : rn = k := by omega
        have hltz : ¬ (rn : Int) < (rn : Int) := by omega
        have HOWN : Hid ((R.take rn).any (fun x => x == i) = decide (i ∈ R)) := Lib.hid (by
          rw [List.take_of_length_le (by rw [HRN.out]; exact Nat.le_refl _), Bool.eq_iff_iff, List.any_eq_true, decide_eq_true_eq]
          constructor
          · rintro ⟨x, hx, e⟩
            rw [beq_iff_eq] at e
            exact e ▸ hx
          · intro h; exact ⟨i, h, by simp⟩)
        rw [HOWN.out]
        clear HOWN hltz hlt
        have H4 := Lib.hid (MemW.keep H3.out HB.out)
        have HR4 := Lib.hid (MemW.keep HR3.out HB.out)
        have B4 := Lib.hid (Below.to B3.out HB.out)
        clear H3 HR3 HB
        go_wp2_with fail
        rename World => w4
        go_loopw [9, 38] (fun v i' w5 => ∃ k : Nat, k ≤ n ∧ i' = .int .i64 k ∧ Hid (Below w4.heap.size w4 w5) ∧ Hid (OwnD 0 w4.heap.size 3 1 w5 v (intRows (callersL l i k)))) (fun _ i' _ => n - (intOf i').toNat)
        case atStart => exact ⟨0, Nat.zero_le _, rfl, Lib.hid (Below.refl _ _), Lib.hid (OwnD.nil _ _ _ _ _)⟩
        case round =>
          obtain ⟨k, hk, rfl, HB, HO⟩ := hrel
          rename World => w5
          by_cases hlt : k < n
          · have hltz : (k : Int) < (n : Int) := by omega
            have HCL : Hid (callersL l i (k + 1) = if okN n i && (rowG l k).any (fun x => x == i) then callersL l i k ++ [(k : Int)] else callersL l i k) := Lib.hid (by rw [callersL, HL.out])
            have HLN := Lib.hid (callersL_len l i k)
            have hs := HB.out.size
            obtain ⟨b, o, r, a1, n1, c1, rfl, hbB, Hr, x0, G0⟩ := gr_at (MemW.keep H4.out HB.out) k hlt
            rw [rowG_at Hr.out] at HCL
            obtain ⟨a9, c9, rfl, hc9, hm9⟩ := HO.out.form
            have hgl := G0.out.len
            rw [intRows_len] at hgl
            have HN1 := Lib.hid hgl.1
            have hgc := hgl.2.1
            have hgm := hgl.2.2
            clear hgl
            generalize (intRows (callersL l i k)).length = r9 at *
            go_wp2_with fail
            go_loopw [11, 46] (fun v i' w6 => ∃ j : Nat, j ≤ n1 ∧ i' = .int .i64 j ∧ v = .bool (okN n i && (r.take j).any (fun x => x == i)) ∧ w5 = w6) (fun _ i' _ => n1 - (intOf i').toNat)
            case atStart => exact ⟨0, Nat.zero_le _, rfl, by simp, rfl⟩
            case round =>
              obtain ⟨j, hj, rfl, rfl, rfl⟩ := hrel
              by_cases hlj : j < n1
              · have hljz : (j : Int) < (n1 : Int) := by omega
                obtain ⟨b6, o6, x, rfl, hb6, Hx, y0⟩ := int_at G0.out j hlj
                have HT := Lib.hid (any_take (fun x => x == i) Hx.out)
                cases hv : (okN n i && (r.take j).any (fun x => x == i)) with
                | true =>
                  have hok : okN n i = true := by rw [Bool.and_eq_true] at hv; exact hv.1
                  have hrt : (r.take j).any (fun x => x == i) = true := by rw [Bool.and_eq_true] at hv; exact hv.2
                  rw [hrt] at HT
                  have HV : Hid ((okN n i && (r.take (j + 1)).any (fun x => x == i)) = true) := Lib.hid (by rw [HT.out, hok]; rfl)
                  clear hv hok hrt
                  go_wp2_with fail
                  go_roundw
                  case rel => exact ⟨j + 1, by omega, by go_num, by rw [HV.out], trivial⟩
                  case measure => simp [intOf]; omega
                | false =>
                  cases hx : (x == i) with
                  | false =>
                    rw [hx, Bool.or_false] at HT
                    have HV : Hid ((okN n i && (r.take (j + 1)).any (fun x => x == i)) = false) := Lib.hid (by rw [HT.out, hv])
                    clear hv
                    go_wp2_with fail
                    go_roundw
                    case rel => exact ⟨j + 1, by omega, by go_num, by rw [HV.out], trivial⟩
                    case measure => simp [intOf]; omega
                  | true =>
                    rw [hx, Bool.or_true] at HT
                    by_cases hi0 : 0 ≤ i
                    · have e1 : decide (0 ≤ i) = true := decide_eq_true hi0
                      by_cases hin : i < (n : Int)
                      · have e2 : decide (i < (n : Int)) = true := decide_eq_true hin
                        have HV : Hid ((okN n i && (r.take (j + 1)).any (fun x => x == i)) = true) := Lib.hid (by rw [HT.out, okN_iff.2 ⟨hi0, hin⟩]; rfl)
                        clear hv hi0 hin
                        go_wp2_with fail
                        go_roundw
                        case rel => exact ⟨j + 1, by omega, by go_num, by rw [HV.out], trivial⟩
                        case measure => simp [intOf]; omega
                      · have e2 : decide (i < (n : Int)) = false := decide_eq_false hin
                        have HV : Hid ((okN n i && (r.take (j + 1)).any (fun x => x == i)) = false) := Lib.hid (by
                          have : okN n i = false := by rw [Bool.eq_false_iff]; intro h; exact hin (okN_iff.1 h).2
                          rw [this]; rfl)
                        clear hv hi0 hin
                        go_wp2_with fail
                        go_roundw
                        case rel => exact ⟨j + 1, by omega, by go_num, by rw [HV.out], trivial⟩
                        case measure => simp [intOf]; omega
                    · have e1 : decide (0 ≤ i) = false := decide_eq_false hi0
                      have HV : Hid ((okN n i && (r.take (j + 1)).any (fun x => x == i)) = false) := Lib.hid (by
                        have : okN n i = false := by rw [Bool.eq_false_iff]; intro h; exact hi0 (okN_iff.1 h).1
                        rw [this]; rfl)
                      clear hv hi0
                      go_wp2_with fail
                      go_roundw
                      case rel => exact ⟨j + 1, by omega, by go_num, by rw [HV.out], trivial⟩
                      case measure => simp [intOf]; omega
              · obtain rfl : n1 = j := by omega
                have hljz : ¬ (n1 : Int) < (n1 : Int) := by omega
                rw [List.take_of_length_le (by rw [HN1.out]; exact Nat.le_refl _)]
                cases hr : (okN n i && r.any (fun x => x == i)) with
                | true =>
                  rw [hr, if_pos rfl] at HCL
                  clear hr
                  go_wp2_with (first
                    | (at_builtin
                       refine wpList_append_D2 rfl _ _ rfl Try.underlying27 info_intG rfl (by decide) rfl rfl (HO.out.alloc _) (own_int (k : Int) _ rfl HO.out hs) (by have := HLN.out; simp only [intRows_len, List.length_cons, List.length_nil]; omega) (by have := HLN.out; simp only [intRows_len, List.length_cons, List.length_nil]; omega) (by rw [World.size_alloc]; omega) ?_
                       intro v' w6 ho hg _
                       have HO6 := Lib.hid ho
                       have HB6 := Lib.hid (grown_below (HB.out.alloc hs _) hg (Nat.le_refl _) (fun k hk => (HO.out.lt k hk).1))
                       clear ho hg))
                  go_roundw
                  case rel => exact ⟨k + 1, by omega, by go_num, HB6, Lib.hid (by rw [HCL.out, intRows_app]; exact HO6.out)⟩
                  case measure => simp [intOf]; omega
                | false =>
                  rw [hr, if_neg (by simp)] at HCL
                  clear hr
                  go_wp2_with fail
                  go_roundw
                  case rel => exact ⟨k + 1, by omega, by go_num, HB, Lib.hid (by rw [HCL.out]; exact HO.out)⟩
                  case measure => simp [intOf]; omega
          · obtain rfl : n = k := by omega
            have hltz : ¬ (n : Int) < (n : Int) := by omega
            have H5 := Lib.hid (MemW.keep H4.out HB.out)
            have HR5 := Lib.hid (MemW.keep HR4.out HB.out)
            obtain ⟨a9, c9, rfl, hc9, hm9⟩ := HO.out.form
            have HC5 := Lib.hid HO.out.memW
            have HCA := Lib.hid (fun (w' : World) (h' : MemW w' (.s 1 (grRows l)) (.slice a n cap)) => callers_any i w' h' HD.out hn)
            have B5 := Lib.hid (Below.to B4.out HB.out)
            clear H4 HR4 HB HO hc9
            rw [intRows_len] at HC5
            generalize callersL l i n = C at *
            generalize hcn : C.length = cn at *
            simp only [intRows_len, hcn]
            clear hcn
            go_wp2_with fail
            refine (HRE.out w5 H5.out).mono ?_
            rintro e w6 ⟨y, rfl, ho6, hb6⟩
            have H6 := Lib.hid (MemW.keep H5.out hb6)
            have HR6 := Lib.hid (MemW.keep HR5.out hb6)
            have HC6 := Lib.hid (MemW.keep HC5.out hb6)
            obtain ⟨a6, c6, rfl, _, _⟩ := ho6.form
            have HM6 := Lib.hid ho6.memW
            have B6 := Lib.hid (Below.to B5.out hb6)
            clear hb6 ho6 H5 HR5 HC5
            generalize (intRows R).length = r6 at *
            go_wp2_with fail
            refine (intsEq_any w6 HM6.out HR6.out).mono ?_
            rintro e w7 ⟨rfl, hb7⟩
            have H7 := Lib.hid (MemW.keep H6.out hb7)
            have HC7 := Lib.hid (MemW.keep HC6.out hb7)
            rw [decide_eq_true rfl]
            have B7 := Lib.hid (Below.to B6.out hb7)
            clear hb7 HM6 HR6 H6 HC6
            go_wp2_with fail
            refine (HRC.out w7 H7.out).mono ?_
            rintro e w8 ⟨rfl, hb8⟩
            have H8 := Lib.hid (MemW.keep H7.out hb8)
            have HC8 := Lib.hid (MemW.keep HC7.out hb8)
            have B8 := Lib.hid (Below.to B7.out hb8)
            clear hb8 H7 HC7
            generalize decide (i ∈ R) = own at *
            have hown : (own == own) = true := by cases own <;> rfl
            go_wp2_with fail
            refine (HCA.out w8 H8.out).mono ?_
            rintro e w9 ⟨y, rfl, ho9, hb9⟩
            have HC9 := Lib.hid (MemW.keep HC8.out hb9)
            obtain ⟨a8, c8, rfl, _, _⟩ := ho9.form
            have HM9 := Lib.hid ho9.memW
            have B9 := Lib.hid (Below.to B8.out hb9)
            clear hb9 ho9 HC8 HCA HRC HRE
            generalize (intRows C).length = r8 at *
            go_wp2_with fail
            refine (intsEq_any w9 HM9.out HC9.out).mono ?_
            rintro e w10 ⟨rfl, hb10⟩
            have B10 := Lib.hid (Below.to B9.out hb10)
            clear hb10
            rw [decide_eq_true rfl]
            go_wp2_with fail
            go_ret
            exact ⟨rfl, B10.out⟩
end Go.Proofs.Ytlhkkkmjoobpcaa
