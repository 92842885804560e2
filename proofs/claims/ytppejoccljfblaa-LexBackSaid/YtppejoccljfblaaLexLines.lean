/-
  The walk of the law LexLines: it answers true at every two texts. No condition but sizes.
-/
import Derived.Test.YtppejoccljfblaaAwake02
import Derived.Test.YtppejoccljfblaaLexJoin
namespace Go.Proofs.Ytppejoccljfblaa
open Go.RowKit
attribute [local go_sem ↓] store_flt store_tok
attribute [local go_sem] stOk_flt stOk_tok stB_eq stC_eq wr_drew wr_alloc wr_row wr_drewN
attribute [local go_sem] toList_beq

theorem join_data (a b : ByteArray) : ((a ++ ⟨#[10]⟩) ++ b).data.toList = a.data.toList ++ 10 :: b.data.toList := by
  rw [show ∀ x y : ByteArray, (x ++ y).data = x.data ++ y.data from fun x y => by simp]
  rw [show ∀ x y : ByteArray, (x ++ y).data = x.data ++ y.data from fun x y => by simp]
  simp
set_option maxRecDepth 100000 in
set_option maxHeartbeats 2000000 in
theorem lexLines_far (a b : ByteArray) (w : World) (ha : a.size ≤ maxLen) (hb : b.size ≤ maxLen) (h : 1500 < a.size ∨ 1500 < b.size) :
    Calls Try.prog 5 #[.string a, .string b] w fun e w' => e = .returned (.bool true) ∧ Below w.heap.size w w' := by
  unfold maxLen at ha hb
  by_cases h1 : 1500 < a.size
  · have e1 : decide ((1500 : Int) < (a.size : Int)) = true := by rw [decide_eq_true_eq]; omega
    clear h
    go_enter Try.func5, Try.ntmps5
    go_wp2_with (go_at_call 20 ; refine (awake02_any _).mono ?_; rintro e w1 ⟨rfl, hb⟩; have HB1 := Lib.hid hb; clear hb)
    go_ret
    exact ⟨rfl, HB1.out⟩
  · have e1 : decide ((1500 : Int) < (a.size : Int)) = false := by rw [decide_eq_false_iff_not]; omega
    have e2 : decide ((1500 : Int) < (b.size : Int)) = true := by rw [decide_eq_true_eq]; omega
    clear h
    go_enter Try.func5, Try.ntmps5
    go_wp2_with (go_at_call 20 ; refine (awake02_any _).mono ?_; rintro e w1 ⟨rfl, hb⟩; have HB1 := Lib.hid hb; clear hb)
    go_ret
    exact ⟨rfl, HB1.out⟩
theorem cell_a2 {w : World} {b j : Nat} {v : Value} (o o' : Obj) (hb : b < w.heap.size) (h : w.cell? ⟨b, j, none⟩ = some v) : ((w.alloc o).alloc o').cell? ⟨b, j, none⟩ = some v :=
  ((((Below.refl _ w).alloc (Nat.le_refl _) o).alloc (by rw [World.size_alloc]; omega) o').cell (p := ⟨b, j, none⟩) hb).trans h
/-- What lex.Scan tells of a text. -/
def Scans (s : ByteArray) (er l c : Int) (ts : List Tok) : Prop :=
  ∀ W, Calls Try.prog 21 #[.string s] W fun e w' => ∃ a n cap, e = .returned (.tuple #[.slice a n cap, .agg #[.int .i64 er, .int .i64 l, .int .i64 c]]) ∧ Below W.heap.size W w' ∧ Rd w'.heap.size w' a n cap 5 (tokVs ts)
theorem scans_of {s : ByteArray} {er l c : Int} {ts : List Tok} (hs : s.size ≤ 1000000) (h : lexes s = (er, l, c, ts)) : Scans s er l c ts := fun W => by
  have := scan_any s W hs
  rw [h] at this
  exact this
set_option maxRecDepth 100000 in
set_option maxHeartbeats 2000000 in
theorem lexLines_main (a b : ByteArray) (w : World) (ha : a.size ≤ 1500) (hb : b.size ≤ 1500) :
    Calls Try.prog 5 #[.string a, .string b] w fun e w' => e = .returned (.bool true) ∧ Below w.heap.size w w' := by
  have e1 : decide ((1500 : Int) < (a.size : Int)) = false := by rw [decide_eq_false_iff_not]; omega
  have e2 : decide ((1500 : Int) < (b.size : Int)) = false := by rw [decide_eq_false_iff_not]; omega
  have hsz : ((a ++ ⟨#[10]⟩) ++ b).size ≤ 1000000 := by
    have := length_data ((a ++ ⟨#[10]⟩) ++ b)
    rw [join_data, List.length_append, List.length_cons, length_data, length_data] at this
    omega
  have s1 : ¬ (9223372036854775807 < a.size + 1) := by omega
  have s2 : ¬ (9223372036854775807 < a.size + 1 + b.size) := by omega
  have hja := lex_join a b ((a ++ ⟨#[10]⟩) ++ b) ha hb (join_data a b)
  have hsa : a.size ≤ 1000000 := by omega
  have hsb : b.size ≤ 1000000 := by omega
  obtain ⟨S, hS0⟩ : ∃ S, (a ++ ⟨#[10]⟩) ++ b = S := ⟨_, rfl⟩
  rw [hS0] at hja hsz
  have HS0 := Lib.hid hS0
  clear hS0
  have tok1 : True := trivial
  have tok2 : True := trivial
  have tok3 : True := trivial
  rcases hja with ⟨l, c, hA, hS⟩ | ⟨ts0, e, hA, hB⟩
  · have HSA := Lib.hid (scans_of hsa hA)
    have HSS := Lib.hid (scans_of hsz hS)
    obtain ⟨eb, lb, cb, tb, hLB⟩ : ∃ eb lb cb tb, lexes b = (eb, lb, cb, tb) := ⟨_, _, _, _, rfl⟩
    have HSB := Lib.hid (scans_of hsb hLB)
    clear hA hS hLB hsa hsb hsz
    go_enter Try.func5, Try.ntmps5
    go_wp2_with (first
     | (go_at_call 20 ; refine (awake02_any _).mono ?_; rintro e w1 ⟨rfl, hb⟩; have HB1 := Lib.hid hb; clear hb)
     | (
       go_at_call 21
       have _t := tok1
       skip
       refine (HSA.out _).mono ?_
       rintro e' w2 ⟨aA, nA, capA, rfl, hb, hR⟩
       have HBA : Hid (Below w.heap.size w (w2.alloc (.cells #[.int .i64 1, .int .i64 l, .int .i64 c] 38))) := Lib.hid ((HB1.out.trans (hb.mono HB1.out.size)).alloc (Nat.le_trans HB1.out.size hb.size) _)
       have HKA := Lib.hid hb
       have HRA := Lib.hid (hR.mono ((below_new w2 (.cells #[.int .i64 1, .int .i64 l, .int .i64 c] 38)).mono (Nat.le_refl _)))
       have HFA : Hid (Bo (w2.alloc (.cells #[.int .i64 1, .int .i64 l, .int .i64 c] 38)) w2.heap.size 38 #[.int .i64 1, .int .i64 l, .int .i64 c]) := Lib.hid (Bo.new _ _ _)
       clear hb hR tok1 _t)
     | (
       go_at_call 21
       have _t := tok2
       skip
       refine (HSB.out _).mono ?_
       rintro e' w3 ⟨aB, nB, capB, rfl, hb, hR⟩
       have HBB : Hid (Below w.heap.size w (w3.alloc (.cells #[.int .i64 eb, .int .i64 lb, .int .i64 cb] 38))) := Lib.hid ((HBA.out.trans (hb.mono HBA.out.size)).alloc (Nat.le_trans HBA.out.size hb.size) _)
       have HKB := Lib.hid hb
       have HRB := Lib.hid (hR.mono ((below_new w3 (.cells #[.int .i64 eb, .int .i64 lb, .int .i64 cb] 38)).mono (Nat.le_refl _)))
       have HFB : Hid (Bo (w3.alloc (.cells #[.int .i64 eb, .int .i64 lb, .int .i64 cb] 38)) w3.heap.size 38 #[.int .i64 eb, .int .i64 lb, .int .i64 cb]) := Lib.hid (Bo.new _ _ _)
       clear hb hR tok2 _t)
     | (
       go_at_call 21
       have _t := tok3
       rw [HS0.out]
       refine (HSS.out _).mono ?_
       rintro e' w4 ⟨aS, nS, capS, rfl, hb, hR⟩
       have HBS : Hid (Below w.heap.size w (w4.alloc (.cells #[.int .i64 1, .int .i64 l, .int .i64 c] 38))) := Lib.hid ((HBB.out.trans (hb.mono HBB.out.size)).alloc (Nat.le_trans HBB.out.size hb.size) _)
       have HKS := Lib.hid hb
       have HRS := Lib.hid (hR.mono ((below_new w4 (.cells #[.int .i64 1, .int .i64 l, .int .i64 c] 38)).mono (Nat.le_refl _)))
       have HFS : Hid (Bo (w4.alloc (.cells #[.int .i64 1, .int .i64 l, .int .i64 c] 38)) w4.heap.size 38 #[.int .i64 1, .int .i64 l, .int .i64 c]) := Lib.hid (Bo.new _ _ _)
       obtain ⟨x0, x1, x2⟩ := ((((HFA.out.keep HKB.out).alloc (.cells #[.int .i64 eb, .int .i64 lb, .int .i64 cb] 38)).keep hb).alloc (.cells #[.int .i64 1, .int .i64 l, .int .i64 c] 38)).t3
       obtain ⟨y0, y1, y2⟩ := ((HFB.out.keep hb).alloc (.cells #[.int .i64 1, .int .i64 l, .int .i64 c] 38)).t3
       obtain ⟨z0, z1, z2⟩ := HFS.out.t3
       obtain rfl : nS = _ := hR.tokLen.symm
       clear hb hR tok3 _t))
    go_ret
    exact ⟨rfl, HBS.out⟩
  · rcases hB with ⟨l, c, hB, hl0, hl1, hS⟩ | ⟨m, hB, hml, hS⟩
    · have HSA := Lib.hid (scans_of hsa hA)
      have HSB := Lib.hid (scans_of hsb hB)
      have hnl : nls a.data.toList ≤ 1500 := by
        have := List.count_le_length (a := (10 : UInt8)) (l := a.data.toList)
        rw [length_data] at this
        exact Nat.le_trans this ha
      obtain ⟨d, hd⟩ : ∃ d, d = 1 + nls a.data.toList := ⟨_, rfl⟩
      rw [← hd] at hS
      have HSS := Lib.hid (scans_of hsz hS)
      clear hA hB hS hsa hsb hsz
      have HD := Lib.hid hd
      have hdl : (d : Int) ≤ 1501 := by omega
      clear hd hnl
      go_enter Try.func5, Try.ntmps5
      go_wp2_with (first
       | (go_at_call 20 ; refine (awake02_any _).mono ?_; rintro e w1 ⟨rfl, hb⟩; have HB1 := Lib.hid hb; clear hb)
       | (
       go_at_call 21
       have _t := tok1
       skip
       refine (HSA.out _).mono ?_
       rintro e' w2 ⟨aA, nA, capA, rfl, hb, hR⟩
       have HBA : Hid (Below w.heap.size w (w2.alloc (.cells #[.int .i64 0, .int .i64 0, .int .i64 0] 38))) := Lib.hid ((HB1.out.trans (hb.mono HB1.out.size)).alloc (Nat.le_trans HB1.out.size hb.size) _)
       have HKA := Lib.hid hb
       have HRA := Lib.hid (hR.mono ((below_new w2 (.cells #[.int .i64 0, .int .i64 0, .int .i64 0] 38)).mono (Nat.le_refl _)))
       have HFA : Hid (Bo (w2.alloc (.cells #[.int .i64 0, .int .i64 0, .int .i64 0] 38)) w2.heap.size 38 #[.int .i64 0, .int .i64 0, .int .i64 0]) := Lib.hid (Bo.new _ _ _)
       clear hb hR tok1 _t)
       | (
       go_at_call 21
       have _t := tok2
       skip
       refine (HSB.out _).mono ?_
       rintro e' w3 ⟨aB, nB, capB, rfl, hb, hR⟩
       have HBB : Hid (Below w.heap.size w (w3.alloc (.cells #[.int .i64 1, .int .i64 l, .int .i64 c] 38))) := Lib.hid ((HBA.out.trans (hb.mono HBA.out.size)).alloc (Nat.le_trans HBA.out.size hb.size) _)
       have HKB := Lib.hid hb
       have HRB := Lib.hid (hR.mono ((below_new w3 (.cells #[.int .i64 1, .int .i64 l, .int .i64 c] 38)).mono (Nat.le_refl _)))
       have HFB : Hid (Bo (w3.alloc (.cells #[.int .i64 1, .int .i64 l, .int .i64 c] 38)) w3.heap.size 38 #[.int .i64 1, .int .i64 l, .int .i64 c]) := Lib.hid (Bo.new _ _ _)
       clear hb hR tok2 _t)
       | (
       go_at_call 21
       have _t := tok3
       rw [HS0.out]
       refine (HSS.out _).mono ?_
       rintro e' w4 ⟨aS, nS, capS, rfl, hb, hR⟩
       have HBS : Hid (Below w.heap.size w (w4.alloc (.cells #[.int .i64 1, .int .i64 (l + (d : Int)), .int .i64 c] 38))) := Lib.hid ((HBB.out.trans (hb.mono HBB.out.size)).alloc (Nat.le_trans HBB.out.size hb.size) _)
       have HKS := Lib.hid hb
       have HRS := Lib.hid (hR.mono ((below_new w4 (.cells #[.int .i64 1, .int .i64 (l + (d : Int)), .int .i64 c] 38)).mono (Nat.le_refl _)))
       have HFS : Hid (Bo (w4.alloc (.cells #[.int .i64 1, .int .i64 (l + (d : Int)), .int .i64 c] 38)) w4.heap.size 38 #[.int .i64 1, .int .i64 (l + (d : Int)), .int .i64 c]) := Lib.hid (Bo.new _ _ _)
       obtain ⟨x0, x1, x2⟩ := ((((HFA.out.keep HKB.out).alloc (.cells #[.int .i64 1, .int .i64 l, .int .i64 c] 38)).keep hb).alloc (.cells #[.int .i64 1, .int .i64 (l + (d : Int)), .int .i64 c] 38)).t3
       obtain ⟨y0, y1, y2⟩ := ((HFB.out.keep hb).alloc (.cells #[.int .i64 1, .int .i64 (l + (d : Int)), .int .i64 c] 38)).t3
       obtain ⟨z0, z1, z2⟩ := HFS.out.t3
       obtain rfl : nS = _ := hR.tokLen.symm
       clear hb hR tok3 _t))
      go_loop [11, 12] (fun ln ii => ∃ k : Nat, k ≤ a.size ∧ ii = .int .i64 k ∧ ln = .int .i64 ((1 + nls (a.data.toList.take k) : Nat) : Int)) (fun _ ii => a.size - (intOf ii).toNat)
      case atStart => exact ⟨0, Nat.zero_le _, rfl, rfl⟩
      case round =>
        obtain ⟨k, hk, rfl, rfl⟩ := hrel
        by_cases hlt : k < a.size
        · have hlt' : (k : Int) < (a.size : Int) := by omega
          have htk : nls (a.data.toList.take (k + 1)) = nls (a.data.toList.take k) + if a[k] = 10 then 1 else 0 := by
            rw [take_snoc a k hlt]
            simp only [nls, List.count_append, List.count_cons, List.count_nil, beq_iff_eq, Nat.zero_add]
          have hkn : nls (a.data.toList.take k) ≤ 1500 := by
            have := List.count_le_length (a := (10 : UInt8)) (l := a.data.toList.take k)
            rw [List.length_take, length_data] at this
            exact Nat.le_trans this (by omega)
          by_cases h10 : a[k] = 10
          · have g1 : ((a[k].toNat : Int) == 10) = true := by rw [h10]; rfl
            rw [if_pos h10] at htk
            have HTK := Lib.hid htk
            clear h10 htk
            generalize nls (a.data.toList.take k) = v at *
            go_wp2
            go_round
            case rel => exact ⟨k + 1, by omega, by go_num, by rw [HTK.out]; go_num⟩
            case measure => simp [intOf]; omega
          · have g1 : ((a[k].toNat : Int) == 10) = false := by rw [beq_eq_false_iff_ne]; exact fun e => h10 (UInt8.toNat_inj.1 (by show a[k].toNat = 10; omega))
            rw [if_neg h10] at htk
            have HTK := Lib.hid htk
            clear h10 htk
            generalize nls (a.data.toList.take k) = v at *
            go_wp2
            go_round
            case rel => exact ⟨k + 1, by omega, by go_num, by rw [HTK.out]; rfl⟩
            case measure => simp [intOf]; omega
        · have hlt' : ¬ (k : Int) < (a.size : Int) := by omega
          have hke : nls (a.data.toList.take k) = nls a.data.toList := by rw [take_all a k hlt]
          rw [hke, ← HD.out]
          go_wp2
          go_ret
          exact ⟨rfl, HBS.out⟩
    · have HSA := Lib.hid (scans_of hsa hA)
      have HSB := Lib.hid (scans_of hsb hB)
      have hnl : nls a.data.toList ≤ 1500 := by
        have := List.count_le_length (a := (10 : UInt8)) (l := a.data.toList)
        rw [length_data] at this
        exact Nat.le_trans this ha
      obtain ⟨d, hd⟩ : ∃ d, d = 1 + nls a.data.toList := ⟨_, rfl⟩
      rw [← hd] at hS
      have HSS := Lib.hid (scans_of hsz hS)
      have HML := Lib.hid hml
      have HD := Lib.hid hd
      have hdl : (d : Int) ≤ 1501 := by omega
      have hlA := lexes_len a
      have hlB := lexes_len b
      rw [hA] at hlA
      rw [hB] at hlB
      have HLA : Hid ((ts0 ++ [e]).length ≤ 3001) := Lib.hid (by simp only at hlA; omega)
      have HLB : Hid (m.length ≤ 3001) := Lib.hid (by simp only at hlB; omega)
      clear hA hB hS hsa hsb hsz hd hnl hml hlA hlB
      go_enter Try.func5, Try.ntmps5
      go_wp2_with (first
       | (go_at_call 20 ; refine (awake02_any _).mono ?_; rintro e w1 ⟨rfl, hb⟩; have HB1 := Lib.hid hb; clear hb)
       | (
       go_at_call 21
       have _t := tok1
       skip
       refine (HSA.out _).mono ?_
       rintro e' w2 ⟨aA, nA, capA, rfl, hb, hR⟩
       have HBA : Hid (Below w.heap.size w (w2.alloc (.cells #[.int .i64 0, .int .i64 0, .int .i64 0] 38))) := Lib.hid ((HB1.out.trans (hb.mono HB1.out.size)).alloc (Nat.le_trans HB1.out.size hb.size) _)
       have HKA := Lib.hid hb
       have HRA := Lib.hid (hR.mono ((below_new w2 (.cells #[.int .i64 0, .int .i64 0, .int .i64 0] 38)).mono (Nat.le_refl _)))
       have HFA : Hid (Bo (w2.alloc (.cells #[.int .i64 0, .int .i64 0, .int .i64 0] 38)) w2.heap.size 38 #[.int .i64 0, .int .i64 0, .int .i64 0]) := Lib.hid (Bo.new _ _ _)
       clear hb hR tok1 _t)
       | (
       go_at_call 21
       have _t := tok2
       skip
       refine (HSB.out _).mono ?_
       rintro e' w3 ⟨aB, nB, capB, rfl, hb, hR⟩
       have HBB : Hid (Below w.heap.size w (w3.alloc (.cells #[.int .i64 0, .int .i64 0, .int .i64 0] 38))) := Lib.hid ((HBA.out.trans (hb.mono HBA.out.size)).alloc (Nat.le_trans HBA.out.size hb.size) _)
       have HKB := Lib.hid hb
       have HRB := Lib.hid (hR.mono ((below_new w3 (.cells #[.int .i64 0, .int .i64 0, .int .i64 0] 38)).mono (Nat.le_refl _)))
       have HFB : Hid (Bo (w3.alloc (.cells #[.int .i64 0, .int .i64 0, .int .i64 0] 38)) w3.heap.size 38 #[.int .i64 0, .int .i64 0, .int .i64 0]) := Lib.hid (Bo.new _ _ _)
       clear hb hR tok2 _t)
       | (
       go_at_call 21
       have _t := tok3
       rw [HS0.out]
       refine (HSS.out _).mono ?_
       rintro e' w4 ⟨aS, nS, capS, rfl, hb, hR⟩
       have HBS : Hid (Below w.heap.size w (w4.alloc (.cells #[.int .i64 0, .int .i64 0, .int .i64 0] 38))) := Lib.hid ((HBB.out.trans (hb.mono HBB.out.size)).alloc (Nat.le_trans HBB.out.size hb.size) _)
       have HKS := Lib.hid hb
       have HRS := Lib.hid (hR.mono ((below_new w4 (.cells #[.int .i64 0, .int .i64 0, .int .i64 0] 38)).mono (Nat.le_refl _)))
       have HFS : Hid (Bo (w4.alloc (.cells #[.int .i64 0, .int .i64 0, .int .i64 0] 38)) w4.heap.size 38 #[.int .i64 0, .int .i64 0, .int .i64 0]) := Lib.hid (Bo.new _ _ _)
       obtain ⟨x0, x1, x2⟩ := ((((HFA.out.keep HKB.out).alloc (.cells #[.int .i64 0, .int .i64 0, .int .i64 0] 38)).keep hb).alloc (.cells #[.int .i64 0, .int .i64 0, .int .i64 0] 38)).t3
       obtain ⟨y0, y1, y2⟩ := ((HFB.out.keep hb).alloc (.cells #[.int .i64 0, .int .i64 0, .int .i64 0] 38)).t3
       obtain ⟨z0, z1, z2⟩ := HFS.out.t3
       have hzB : w2.heap.size + 1 ≤ w3.heap.size := by have := HKB.out.size; rw [World.size_alloc] at this; exact this
       have hzS : w3.heap.size + 1 ≤ w4.heap.size := by have := hb.size; rw [World.size_alloc] at this; exact this
       have HA4 : Hid (Rd w4.heap.size (w4.alloc (.cells #[.int .i64 0, .int .i64 0, .int .i64 0] 38)) aA nA capA 5 (tokVs (ts0 ++ [e]))) := Lib.hid (((((HRA.out.mono (HKB.out.mono (by rw [World.size_alloc]; omega))).le (show w2.heap.size ≤ w3.heap.size by omega)).mono (below_new w3 (.cells #[.int .i64 0, .int .i64 0, .int .i64 0] 38))).mono (hb.mono (by rw [World.size_alloc]; omega))).le (by omega) |>.mono (below_new w4 (.cells #[.int .i64 0, .int .i64 0, .int .i64 0] 38)))
       have HB4 : Hid (Rd w4.heap.size (w4.alloc (.cells #[.int .i64 0, .int .i64 0, .int .i64 0] 38)) aB nB capB 5 (tokVs m)) := Lib.hid (((HRB.out.mono (hb.mono (by rw [World.size_alloc]; omega))).le (by omega)).mono (below_new w4 (.cells #[.int .i64 0, .int .i64 0, .int .i64 0] 38)))
       have hnA := HA4.out.tokLen
       have hnB := HB4.out.tokLen
       have hnS := HRS.out.tokLen
       have hlA : nA ≤ 3001 := by have := HLA.out; omega
       have hlB : nB ≤ 3001 := by have := HLB.out; omega
       rw [List.length_append] at hnA hnS
       rw [List.length_map] at hnS
       simp only [List.length_cons, List.length_nil, Nat.zero_add] at hnA
       have hcA := HA4.out.2.1
       have hcB := HB4.out.2.1
       have hcS := HRS.out.2.1
       have hmA := HA4.out.2.2.1
       have hmB := HB4.out.2.2.1
       have hmS := HRS.out.2.2.1
       have hnn : (nS : Int) = (nA : Int) + (nB : Int) - 1 := by omega
       have hn1 : 1 ≤ nA := by omega
       have hg1 : ((nS : Int) == (nA : Int) + (nB : Int) - 1) = true := by rw [beq_iff_eq]; exact hnn
       have hg2 : ((nS : Int) != (nA : Int) + (nB : Int) - 1) = false := by rw [bne, hg1]; rfl
       have hg3 : ((nA : Int) == 0) = false := by rw [beq_eq_false_iff_ne]; omega
       obtain ⟨p, hp⟩ : ∃ p, ts0.length = p := ⟨_, rfl⟩
       have HP := Lib.hid hp
       have HNA : Hid (p + 1 = nA) := Lib.hid (by omega)
       have HNS : Hid (p + nB = nS) := Lib.hid (by omega)
       clear hnA hnB hnS hp
       clear hb hR tok3 _t))
      go_loop [11, 12] (fun ln ii => ∃ k : Nat, k ≤ a.size ∧ ii = .int .i64 k ∧ ln = .int .i64 ((1 + nls (a.data.toList.take k) : Nat) : Int)) (fun _ ii => a.size - (intOf ii).toNat)
      case atStart => exact ⟨0, Nat.zero_le _, rfl, rfl⟩
      case round =>
        obtain ⟨k, hk, rfl, rfl⟩ := hrel
        by_cases hlt : k < a.size
        · have hlt' : (k : Int) < (a.size : Int) := by omega
          have htk : nls (a.data.toList.take (k + 1)) = nls (a.data.toList.take k) + if a[k] = 10 then 1 else 0 := by
            rw [take_snoc a k hlt]
            simp only [nls, List.count_append, List.count_cons, List.count_nil, beq_iff_eq, Nat.zero_add]
          have hkn : nls (a.data.toList.take k) ≤ 1500 := by
            have := List.count_le_length (a := (10 : UInt8)) (l := a.data.toList.take k)
            rw [List.length_take, length_data] at this
            exact Nat.le_trans this (by omega)
          by_cases h10 : a[k] = 10
          · have g1 : ((a[k].toNat : Int) == 10) = true := by rw [h10]; rfl
            rw [if_pos h10] at htk
            have HTK := Lib.hid htk
            clear h10 htk
            generalize nls (a.data.toList.take k) = v at *
            go_wp2
            go_round
            case rel => exact ⟨k + 1, by omega, by go_num, by rw [HTK.out]; go_num⟩
            case measure => simp [intOf]; omega
          · have g1 : ((a[k].toNat : Int) == 10) = false := by rw [beq_eq_false_iff_ne]; exact fun e => h10 (UInt8.toNat_inj.1 (by show a[k].toNat = 10; omega))
            rw [if_neg h10] at htk
            have HTK := Lib.hid htk
            clear h10 htk
            generalize nls (a.data.toList.take k) = v at *
            go_wp2
            go_round
            case rel => exact ⟨k + 1, by omega, by go_num, by rw [HTK.out]; rfl⟩
            case measure => simp [intOf]; omega
        · have hlt' : ¬ (k : Int) < (a.size : Int) := by omega
          have hke : nls (a.data.toList.take k) = nls a.data.toList := by rw [take_all a k hlt]
          rw [hke, ← HD.out]
          go_wp2
          go_loopw [13, 14, 15, 116] (fun _ _ _ j wr => ∃ k2 : Nat, k2 ≤ nS ∧ j = .int .i64 k2 ∧ Hid (Below (w4.heap.size + 1) (w4.alloc (.cells #[.int .i64 0, .int .i64 0, .int .i64 0] 38)) wr)) (fun _ _ _ j _ => nS - (intOf j).toNat)
          case atStart => exact ⟨0, Nat.zero_le _, rfl, Lib.hid (Below.refl _ _)⟩
          case round =>
            obtain ⟨k2, hk2, rfl, HW⟩ := hrel
            have HWW : Hid (Below w4.heap.size (w4.alloc (.cells #[.int .i64 0, .int .i64 0, .int .i64 0] 38)) wr) := Lib.hid (HW.out.mono (Nat.le_succ _))
            have HBW : Hid (Below w.heap.size w wr) := Lib.hid (HBS.out.trans (HW.out.mono (by have := HBS.out.size; rw [World.size_alloc] at this; exact this)))
            by_cases hk2l : k2 < nS
            · have hk2i : (k2 : Int) < (nS : Int) := by omega
              obtain ⟨bS, oS, rfl, hbS, hlS, c0, c1, c2, c3, c4⟩ := (HRS.out.mono HWW.out).tokAt k2 hk2l
              by_cases hkp : k2 < p
              · have hkA : k2 < nA := by have := HNA.out; omega
                have hkA' : (k2 : Int) < (nA : Int) - 1 := by have := HNA.out; omega
                obtain ⟨bA, oA, rfl, hbA, hlA, r0, r1, r2, r3, r4⟩ := (HA4.out.mono HWW.out).tokAt k2 hkA
                have heq : (ts0 ++ [e])[k2] = (ts0 ++ m.map (shT d))[k2] := by
                  have h0 : k2 < ts0.length := by have := HP.out; omega
                  rw [List.getElem_append_left h0, List.getElem_append_left h0]
                rw [heq] at r0 r1 r2 r3 r4
                generalize (ts0 ++ m.map (shT d))[k2] = t at *
                obtain ⟨tk, tS, tn, tl, tc⟩ := t
                simp only at c0 c1 c2 c3 c4 r0 r1 r2 r3 r4
                clear heq
                have hbw : bA < wr.heap.size := by have := HWW.out.size; rw [World.size_alloc] at this; omega
                replace r0 := cell_a2 (.cells #[.int .i64 tk, .string tS, .int .i64 tn, .int .i64 tl, .int .i64 tc] 46) (.cells #[.int .i64 0, .string ⟨#[]⟩, .int .i64 0, .int .i64 0, .int .i64 0] 46) hbw r0
                replace r1 := cell_a2 (.cells #[.int .i64 tk, .string tS, .int .i64 tn, .int .i64 tl, .int .i64 tc] 46) (.cells #[.int .i64 0, .string ⟨#[]⟩, .int .i64 0, .int .i64 0, .int .i64 0] 46) hbw r1
                replace r2 := cell_a2 (.cells #[.int .i64 tk, .string tS, .int .i64 tn, .int .i64 tl, .int .i64 tc] 46) (.cells #[.int .i64 0, .string ⟨#[]⟩, .int .i64 0, .int .i64 0, .int .i64 0] 46) hbw r2
                replace r3 := cell_a2 (.cells #[.int .i64 tk, .string tS, .int .i64 tn, .int .i64 tl, .int .i64 tc] 46) (.cells #[.int .i64 0, .string ⟨#[]⟩, .int .i64 0, .int .i64 0, .int .i64 0] 46) hbw r3
                replace r4 := cell_a2 (.cells #[.int .i64 tk, .string tS, .int .i64 tn, .int .i64 tl, .int .i64 tc] 46) (.cells #[.int .i64 0, .string ⟨#[]⟩, .int .i64 0, .int .i64 0, .int .i64 0] 46) hbw r4
                go_wp2
                go_roundw
                case rel => exact ⟨k2 + 1, by omega, by go_num, Lib.hid ((HW.out.alloc (by have := HW.out.size; simp only [World.size_alloc] at *; omega) _).alloc (by have := HW.out.size; simp only [World.size_alloc] at *; omega) _)⟩
                case measure => simp [intOf]; omega
              · have hkA' : ¬ (k2 : Int) < (nA : Int) - 1 := by have := HNA.out; omega
                obtain ⟨q, hq⟩ : ∃ q, k2 = p + q := ⟨k2 - p, by omega⟩
                have hqB : q < nB := by have := HNS.out; omega
                have hqi : (k2 : Int) - (nA : Int) + 1 = (q : Int) := by have := HNA.out; omega
                obtain ⟨bB, oB, rfl, hbB, hlB, r0, r1, r2, r3, r4⟩ := (HB4.out.mono HWW.out).tokAt q hqB
                have heq : (ts0 ++ m.map (shT d))[k2] = shT d m[q] := by
                  have h0 : ts0.length ≤ k2 := by have := HP.out; omega
                  rw [List.getElem_append_right h0, List.getElem_map]
                  congr 2
                  have := HP.out; omega
                have hml := HML.out m[q] (List.getElem_mem hlB)
                rw [heq] at c0 c1 c2 c3 c4
                generalize m[q] = t at *
                obtain ⟨tk, tS, tn, tl, tc⟩ := t
                simp only [shT] at c0 c1 c2 c3 c4 r0 r1 r2 r3 r4 hml
                obtain ⟨hm0, hm1⟩ := hml
                clear heq hq
                have hbw : bB < wr.heap.size := by have := HWW.out.size; rw [World.size_alloc] at this; omega
                replace r0 := cell_a2 (.cells #[.int .i64 tk, .string tS, .int .i64 tn, .int .i64 (tl + (d : Int)), .int .i64 tc] 46) (.cells #[.int .i64 0, .string ⟨#[]⟩, .int .i64 0, .int .i64 0, .int .i64 0] 46) hbw r0
                replace r1 := cell_a2 (.cells #[.int .i64 tk, .string tS, .int .i64 tn, .int .i64 (tl + (d : Int)), .int .i64 tc] 46) (.cells #[.int .i64 0, .string ⟨#[]⟩, .int .i64 0, .int .i64 0, .int .i64 0] 46) hbw r1
                replace r2 := cell_a2 (.cells #[.int .i64 tk, .string tS, .int .i64 tn, .int .i64 (tl + (d : Int)), .int .i64 tc] 46) (.cells #[.int .i64 0, .string ⟨#[]⟩, .int .i64 0, .int .i64 0, .int .i64 0] 46) hbw r2
                replace r3 := cell_a2 (.cells #[.int .i64 tk, .string tS, .int .i64 tn, .int .i64 (tl + (d : Int)), .int .i64 tc] 46) (.cells #[.int .i64 0, .string ⟨#[]⟩, .int .i64 0, .int .i64 0, .int .i64 0] 46) hbw r3
                replace r4 := cell_a2 (.cells #[.int .i64 tk, .string tS, .int .i64 tn, .int .i64 (tl + (d : Int)), .int .i64 tc] 46) (.cells #[.int .i64 0, .string ⟨#[]⟩, .int .i64 0, .int .i64 0, .int .i64 0] 46) hbw r4
                go_wp2
                go_roundw
                case rel => exact ⟨k2 + 1, by omega, by go_num, Lib.hid ((HW.out.alloc (by have := HW.out.size; simp only [World.size_alloc] at *; omega) _).alloc (by have := HW.out.size; simp only [World.size_alloc] at *; omega) _)⟩
                case measure => simp [intOf]; omega
            · have hk2i : ¬ (k2 : Int) < (nS : Int) := by omega
              go_wp2
              go_ret
              exact ⟨rfl, HBW.out⟩
theorem lexLines_any (a b : ByteArray) (w : World) (ha : a.size ≤ maxLen) (hb : b.size ≤ maxLen) :
    Calls Try.prog 5 #[.string a, .string b] w fun e w' => e = .returned (.bool true) ∧ Below w.heap.size w w' := by
  by_cases h : 1500 < a.size ∨ 1500 < b.size
  · exact lexLines_far a b w ha hb h
  · exact lexLines_main a b w (by omega) (by omega)
end Go.Proofs.Ytppejoccljfblaa
