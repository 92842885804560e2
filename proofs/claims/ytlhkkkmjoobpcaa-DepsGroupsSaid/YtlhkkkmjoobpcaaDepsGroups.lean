/-
  The law of chapter 10 on deps.Groups. No condition but how the graph lies.
-/
import Derived.Test.YtlhkkkmjoobpcaaRGroups
import Derived.Test.YtlhkkkmjoobpcaaDepsReach
import Derived.Test.YtlhkkkmjoobpcaaHeld
namespace Go.Proofs.Ytlhkkkmjoobpcaa
open Go.RowKit

set_option maxRecDepth 100000 in
set_option maxHeartbeats 20000000 in
theorem depsGroups_any {l : List (List Int)} {n cap : Nat} {a : Option Addr} (w : World) (h : MemW w (.s 1 (grRows l)) (.slice a n cap)) :
    Calls Try.prog 3 #[.slice a n cap] w fun e w' => e = .returned (.bool true) ∧ Below w.heap.size w w' := by
  have hl := gr_len h
  have HL := Lib.hid hl.1
  have hcap := hl.2.1
  have hmx := hl.2.2
  have H := Lib.hid h
  clear hl h
  go_enter Try.func3, Try.ntmps3
  go_wp2_with fail
  refine (awake_any w).mono ?_
  rintro e w1 ⟨rfl, hb1⟩
  have H1 := Lib.hid (MemW.keep H.out hb1)
  have B1 := Lib.hid hb1
  clear hb1
  go_wp2_with fail
  refine (fewG_any w1 H1.out).mono ?_
  rintro e w1' ⟨rfl, rfl⟩
  cases hf : fewG l with
  | false =>
    go_wp2_with fail
    go_ret
    exact ⟨rfl, B1.out⟩
  | true =>
    have hd := fewG_row hf
    have HD := Lib.hid hd.1
    have hn : n ≤ 1000 := by have := hd.2; have := HL.out; omega
    have HRUN : Hid (RunG l (List.replicate n false) (groupsS l n).2 [] (rounR l n).2) := Lib.hid (by have := run_groups l; rwa [HL.out] at this)
    have HSUM : Hid (((rounR l n).2.map List.length).sum = n) := Lib.hid (by have := roun_sum l; rwa [HL.out] at this)
    clear hd hf H
    go_wp2_with fail
    refine (Groups_any w1 H1.out HD.out hn HRUN.out).mono ?_
    rintro e w2 ⟨y, rfl, hm2, hb2⟩
    have H2 := Lib.hid (MemW.keep H1.out hb2)
    have B2 := Lib.hid (Below.to B1.out hb2)
    obtain ⟨a2, n2, c2, rfl, hm2'⟩ : ∃ a2 n2 c2, y = .slice a2 n2 c2 ∧ MemW w2 (.s 1 (grRows (rounR l n).2)) (.slice a2 n2 c2) := by
      obtain ⟨a2, n2, c2, e, _⟩ := hm2.parts
      exact ⟨a2, n2, c2, e, e ▸ hm2⟩
    have HM2 := Lib.hid hm2'
    clear hm2 hm2' hb2 H1
    go_wp2_with fail
    refine (rgroups_any w2 H2.out hn).mono ?_
    rintro e w3 ⟨y, rfl, hm3, hb3⟩
    have HA := Lib.hid (MemW.keep HM2.out hb3)
    have B3 := Lib.hid (Below.to B2.out hb3)
    obtain ⟨a3, n3, c3, rfl, hm3'⟩ : ∃ a3 n3 c3, y = .slice a3 n3 c3 ∧ MemW w3 (.s 1 (grRows (rounR l n).2)) (.slice a3 n3 c3) := by
      obtain ⟨a3, n3, c3, e, _⟩ := hm3.parts
      exact ⟨a3, n3, c3, e, e ▸ hm3⟩
    have HX := Lib.hid hm3'
    have hl2 := gr_len HA.out
    have hl3 := gr_len HX.out
    have HRL := Lib.hid hl2.1
    have hcap2 := hl2.2.1
    have hmx2 := hl2.2.2
    obtain rfl : n2 = n3 := hl2.1.symm.trans hl3.1
    clear hm3 hm3' hb3 H2 HM2 HRUN HD hl2 hl3
    generalize (rounR l n).2 = R at *
    go_wp2_with fail
    go_loopw [5, 23] (fun v i' wr => ∃ k : Nat, k ≤ n2 ∧ i' = .int .i64 k ∧ v = .int .i64 (((R.take k).map List.length).sum : Nat) ∧ Hid (Below w3.heap.size w3 wr)) (fun _ i' _ => n2 - (intOf i').toNat)
    case atStart => exact ⟨0, Nat.zero_le _, rfl, by simp, Lib.hid (Below.refl _ _)⟩
    case round =>
      obtain ⟨k, hk, rfl, rfl, HB⟩ := hrel
      by_cases hlt : k < n2
      · have hltz : (k : Int) < (n2 : Int) := by omega
        obtain ⟨b1, o1, g1, a4, n4, c4, rfl, hb1, Hg1, x0, G1⟩ := gr_at (MemW.keep HA.out HB.out) k hlt
        obtain ⟨b2, o2, g2, a5, n5, c5, rfl, hb2, Hg2, y0, G2⟩ := gr_at (MemW.keep HX.out HB.out) k hlt
        obtain rfl : g1 = g2 := Option.some.inj (Hg1.out.symm.trans Hg2.out)
        have hn4 := G1.out.len.1
        rw [intRows_len] at hn4
        have HSP : Hid (((R.take (k + 1)).map List.length).sum = ((R.take k).map List.length).sum + n4) := Lib.hid (by rw [take_at Hg1.out, List.map_append, List.sum_append]; simp [hn4])
        have hsl : ((R.take (k + 1)).map List.length).sum ≤ 1000 := by
          have h1 := HSUM.out
          rw [← List.take_append_drop (k + 1) R, List.map_append, List.sum_append] at h1
          omega
        rw [HSP.out] at hsl
        generalize ((R.take k).map List.length).sum = sk at *
        have HCUR : Hid (Below wr.heap.size wr wr.drew) := Lib.hid (below_drew _)
        go_wp2_with fail
        refine wp_region_held_drew (S := fun w' => Below (wr).heap.size (wr) w') (by kernel_rfl) (below_drew _) (fun hS0 => ?_)
        refine takeL 0 (v := ?_) rfl (by kernel_rfl) (by kernel_rfl) (by kernel_rfl) (fun _ _ _ h => h) (by rfl) ?_ (by assumption) ?_
        rotate_left
        · (intro w hSw; (try dsimp only at hSw); replace x0 := cell_below x0 hSw; replace y0 := cell_below y0 hSw; go_simp; try with_reducible rfl)
        try simp only [Act.put, List.setIfInBounds_toArray, List.set_cons_zero, List.set_cons_succ]
        refine takeL 1 (v := ?_) rfl (by kernel_rfl) (by kernel_rfl) (by kernel_rfl) (fun _ _ _ h => h) (by rfl) ?_ (by assumption) ?_
        rotate_left
        · (intro w hSw; (try dsimp only at hSw); replace x0 := cell_below x0 hSw; replace y0 := cell_below y0 hSw; go_simp; try with_reducible rfl)
        try simp only [Act.put, List.setIfInBounds_toArray, List.set_cons_zero, List.set_cons_succ]
        refine takeL 2 (v := ?_) rfl (by kernel_rfl) (by kernel_rfl) (by kernel_rfl) (fun _ _ _ h => h) (by rfl) ?_ (by assumption) ?_
        rotate_left
        · (intro w hSw; (try dsimp only at hSw); replace x0 := cell_below x0 hSw; replace y0 := cell_below y0 hSw; go_simp; try with_reducible rfl)
        try simp only [Act.put, List.setIfInBounds_toArray, List.set_cons_zero, List.set_cons_succ]
        refine takeL 3 (v := ?_) rfl (by kernel_rfl) (by kernel_rfl) (by kernel_rfl) (fun _ _ _ h => h) (by rfl) ?_ (by assumption) ?_
        rotate_left
        · (intro w hSw; (try dsimp only at hSw); replace x0 := cell_below x0 hSw; replace y0 := cell_below y0 hSw; go_simp; try with_reducible rfl)
        try simp only [Act.put, List.setIfInBounds_toArray, List.set_cons_zero, List.set_cons_succ]
        refine takeL 4 (v := ?_) rfl (by kernel_rfl) (by kernel_rfl) (by kernel_rfl) (fun _ _ _ h => h) (by rfl) ?_ (by assumption) ?_
        rotate_left
        · (intro w hSw; (try dsimp only at hSw); replace x0 := cell_below x0 hSw; replace y0 := cell_below y0 hSw; go_simp; try with_reducible rfl)
        try simp only [Act.put, List.setIfInBounds_toArray, List.set_cons_zero, List.set_cons_succ]
        refine takeL 5 (v := ?_) rfl (by kernel_rfl) (by kernel_rfl) (by kernel_rfl) (fun _ _ _ h => h) (by rfl) ?_ (by assumption) ?_
        rotate_left
        · (intro w hSw; (try dsimp only at hSw); replace x0 := cell_below x0 hSw; replace y0 := cell_below y0 hSw; go_simp; try with_reducible rfl)
        try simp only [Act.put, List.setIfInBounds_toArray, List.set_cons_zero, List.set_cons_succ]
        refine takeL 6 (v := ?_) rfl (by kernel_rfl) (by kernel_rfl) (by kernel_rfl) (fun _ _ _ h => h) (by rfl) ?_ (by assumption) ?_
        rotate_left
        · (intro w hSw; (try dsimp only at hSw); replace x0 := cell_below x0 hSw; replace y0 := cell_below y0 hSw; go_simp; try with_reducible rfl)
        try simp only [Act.put, List.setIfInBounds_toArray, List.set_cons_zero, List.set_cons_succ]
        refine takeL 7 (v := ?_) rfl (by kernel_rfl) (by kernel_rfl) (by kernel_rfl) (fun _ _ _ h => h) (by rfl) ?_ (by assumption) ?_
        rotate_left
        · (intro w hSw; (try dsimp only at hSw); replace x0 := cell_below x0 hSw; replace y0 := cell_below y0 hSw; go_simp; try with_reducible rfl)
        try simp only [Act.put, List.setIfInBounds_toArray, List.set_cons_zero, List.set_cons_succ]
        refine callL 8 rfl (by kernel_rfl) (by rfl) (fun K hK => ?_)
        go_simp
        refine (intsEq_any _ (MemW.keep G1.out HCUR.out) (MemW.keep G2.out HCUR.out)).mono ?_
        rintro e wx1 ⟨rfl, hb⟩
        have HC1 := Lib.hid hb
        have HCUR := Lib.hid (Below.to HCUR.out hb)
        rw [decide_eq_true rfl]
        clear hb
        go_simp
        refine hK.out _ _ ?_ (fun hS1 => ?_)
        · exact Below.to hS0 HC1.out
        clear hK K
        refine takeL 9 (v := ?_) rfl (by kernel_rfl) (by kernel_rfl) (by kernel_rfl) (fun _ _ _ h => h) (by rfl) ?_ (by assumption) ?_
        rotate_left
        · (intro w hSw; (try dsimp only at hSw); replace x0 := cell_below x0 hSw; replace y0 := cell_below y0 hSw; go_simp; try with_reducible rfl)
        try simp only [Act.put, List.setIfInBounds_toArray, List.set_cons_zero, List.set_cons_succ]
        refine wpAnyH_done (by kernel_rfl) ?_ _
        replace x0 := cell_below x0 HCUR.out
        have hq1 := World.block_lt_of_cell? _ _ x0
        go_wp2_with fail
        go_roundw
        case rel => exact ⟨k + 1, by omega, by go_num, by rw [HSP.out]; rfl, Lib.hid (Below.to HB.out HCUR.out)⟩
        case measure => simp [intOf]; omega
      · obtain rfl : n2 = k := by omega
        have hltz : ¬ (n2 : Int) < (n2 : Int) := by omega
        rw [List.take_of_length_le (by rw [HRL.out]; exact Nat.le_refl _), HSUM.out]
        go_wp2_with fail
        go_ret
        exact ⟨rfl, (Below.to B3.out HB.out)⟩
end Go.Proofs.Ytlhkkkmjoobpcaa
