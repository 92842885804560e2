/-
  The document's Groups. No condition but how the graph lies, and how great it is.
-/
import Derived.Test.YtlhkkkmjoobpcaaGroupsM
namespace Go.Proofs.Ytlhkkkmjoobpcaa
open Go.RowKit

def brRows (ls : List (List Bool)) : List (List At) := ls.map fun o => [.s 1 (brows o)]
theorem brRows_len (ls : List (List Bool)) : (brRows ls).length = ls.length := by simp [brRows]
theorem brRows_app (l m : List (List Bool)) : brRows (l ++ m) = brRows l ++ brRows m := by simp [brRows]
theorem info_sb : (Try.prog.info? 29).map (fun i => (i.zero, i.size, i.bytes)) = some (some (.slice none 0 0), 1, 24) := by kernel_rfl
theorem BoB.memS {S : Nat → Prop} {w : World} {g : Nat} {o : List Bool} (h : BoB w g o) {n : Nat} (hn : o.length = n) (hm : n ≤ 1048576) (hS : S g) : Mem S w (.s 1 (brows o)) (.slice (some ⟨g, 0, none⟩) n n) := by
  refine .s g 0 n n 1 _ (fun i _ => .bool (on o i)) (by rw [brows_len]; exact hn) (Nat.le_refl _) (by omega) hS (fun i hi => by simp [brows]) (fun i j hi hj => ?_) (fun i j hi hj => ?_)
  · obtain rfl : j = 0 := by omega
    rw [Nat.zero_add, Nat.mul_one, Nat.add_zero]
    exact h.at (by omega)
  · have hi' : i < o.length := by rw [brows_len] at hi; exact hi
    have e : (brows o)[i] = [.v (.bool o[i])] := by simp [brows]
    have hj' : j < ((brows o)[i]).length := hj
    rw [e] at hj'
    obtain rfl : j = 0 := by simpa using hj'
    have e2 : on o i = o[i] := by unfold on; rw [List.getElem?_eq_getElem hi']; rfl
    simp only [e, List.getElem_cons_zero, e2]
    exact .v _ rfl
theorem br_at {S : Nat → Prop} {w : World} {ls : List (List Bool)} {a : Option Addr} {n cap : Nat} (h : Mem S w (.s 1 (brRows ls)) (.slice a n cap)) (i : Nat) (hi : i < n) :
    ∃ b o r a' n' c', a = some ⟨b, o, none⟩ ∧ S b ∧ Hid (ls[i]? = some r) ∧ w.cell? ⟨b, o + i, none⟩ = some (.slice a' n' c') ∧ Hid (Mem S w (.s 1 (brows r)) (.slice a' n' c')) := by
  have hl := h.len.1
  rw [brRows_len] at hl
  have hi' : i < ls.length := by omega
  obtain ⟨b, o, ha, hS, _, cs, h2, hc⟩ := Mem.at h i (by rw [brRows_len]; exact hi')
  have e : (brRows ls)[i]'(by rw [brRows_len]; exact hi') = [.s 1 (brows ls[i])] := by simp [brRows]
  rw [e] at h2
  cases h2 with
  | cons g0 h2 =>
    cases h2
    have h3 := hc 0 (by simp)
    rw [Nat.mul_one, Nat.add_zero] at h3
    obtain ⟨a', n', c', rfl, _⟩ := g0.parts
    exact ⟨b, o, ls[i], a', n', c', ha, hS, Lib.hid (List.getElem?_eq_getElem hi'), h3, Lib.hid g0⟩
def mkP (l : List (List Int)) (k : Nat) : List (List Bool) := (List.range k).map fun i : Nat => marksR l (i : Int)
theorem mkP_succ (l : List (List Int)) (k : Nat) : mkP l (k + 1) = mkP l k ++ [marksR l (k : Int)] := by
  unfold mkP; rw [List.range_succ, List.map_append]; rfl
theorem mkP_len (l : List (List Int)) (k : Nat) : (mkP l k).length = k := by simp [mkP]
theorem mkP_at {l : List (List Int)} {n k : Nat} (h : k < n) : (mkP l n)[k]? = some (marksR l (k : Int)) := by
  unfold mkP; rw [List.getElem?_map, List.getElem?_range h]; rfl
theorem marksR_len' (l : List (List Int)) (i : Int) : (marksR l i).length = l.length := by
  unfold marksR
  split
  · exact roundsR_len l i _
  · simp
theorem rounR_len (l : List (List Int)) : ∀ k, (rounR l k).1.length = l.length ∧ (rounR l k).2.length ≤ k
  | 0 => ⟨by rw [rounR, List.length_replicate], Nat.le_refl _⟩
  | k + 1 => by
    obtain ⟨h1, h2⟩ := rounR_len l k
    rw [rounR, stepR]
    split
    · exact ⟨h1, by omega⟩
    · exact ⟨by rw [markT_len]; exact h1, by rw [List.length_append]; simp; omega⟩
theorem rdyP_succ (l : List (List Int)) (told : List Bool) (i k : Nat) : rdyP l told i (k + 1) = (rdyP l told i k && (ownG l i k || !(on (marksR l (i : Int)) k && !on told k))) := by
  unfold rdyP
  rw [List.range_succ, List.all_append]; simp
theorem ownG_marks (l : List (List Int)) (i k : Nat) : ownG l i k = (decide (k = i) || (on (marksR l (i : Int)) k && on (marksR l (k : Int)) i)) := by
  rw [Bool.eq_iff_iff, ownG_iff, Bool.or_eq_true, Bool.and_eq_true, decide_eq_true_eq, marks_iff, marks_iff]; rfl
theorem pick_none {l : List (List Int)} {told : List Bool} (h : ∀ j, j < l.length → (!on told j && rdyP l told j l.length) = false) : pickR l told = none := by
  unfold pickR
  rw [List.find?_eq_none]
  intro i hi
  rw [h i (List.mem_range.1 hi)]; simp
theorem pick_some {l : List (List Int)} {told : List Bool} {i : Nat} (hi : i < l.length) (h : (!on told i && rdyP l told i l.length) = true) (hl : ∀ j, j < i → (!on told j && rdyP l told j l.length) = false) : pickR l told = some i := by
  unfold pickR
  rw [List.find?_range_eq_some]
  exact ⟨h, List.mem_range.2 hi, fun j hj => by rw [hl j hj]; rfl⟩
set_option maxRecDepth 100000 in
set_option maxHeartbeats 20000000 in
theorem rgroups_any {l : List (List Int)} {n cap : Nat} {a : Option Addr} (w : World) (h : MemW w (.s 1 (grRows l)) (.slice a n cap)) (hn : n ≤ 1000) :
    Calls Try.prog 8 #[.slice a n cap] w fun e w' => ∃ y, e = .returned y ∧ MemW w' (.s 1 (grRows (rounR l n).2)) y ∧ Below w.heap.size w w' := by
  have hl := gr_len h
  have HL := Lib.hid hl.1
  have hcap := hl.2.1
  have hmx := hl.2.2
  have H := Lib.hid h
  have HN := Lib.hid hn
  clear hl h
  go_enter Try.func8, Try.ntmps8
  go_wp2
  go_loopw [4, 19] (fun v i wr => ∃ k : Nat, k ≤ n ∧ i = .int .i64 k ∧ Hid (Below w.heap.size w wr) ∧ Hid (OwnD 0 w.heap.size 29 1 wr v (brRows (mkP l k)))) (fun _ i _ => n - (intOf i).toNat)
  case atStart => exact ⟨0, Nat.zero_le _, rfl, Lib.hid (Below.refl _ _), Lib.hid (OwnD.nil _ _ _ _ _)⟩
  case round =>
    obtain ⟨k, hk, rfl, HB, HO⟩ := hrel
    by_cases hlt : k < n
    · have hltz : (k : Int) < (n : Int) := by omega
      have HRS := Lib.hid (mkP_succ l k)
      have HRL := Lib.hid (mkP_len l k)
      have hs := HB.out.size
      obtain ⟨a3, c3, rfl, hc3, hm3⟩ := HO.out.form
      have hol := HO.out.lt
      generalize (brRows (mkP l k)).length = rl at *
      go_wp2_with (first
        | (go_at_call 11
           refine (rreach_any (k : Int) wr (MemW.keep H.out HB.out) HN.out).mono ?_
           rintro e w2 ⟨gq, rfl, hg2, hgs, hb2⟩
           have HO2 := Lib.hid (HO.out.keep hb2)
           have HB2 := Lib.hid (Below.to HB.out hb2)
           have hs2 := HB2.out.size
           have HM2 := Lib.hid (hg2.memS (S := fun b => Nw 0 w.heap.size w2.heap.size b ∧ (Value.slice a3 rl c3).ownBlock ≠ some b) (n := n) (by rw [marksR_len']; exact HL.out) (by have := HN.out; omega) ⟨⟨.inr (by omega), Bo.lt hg2⟩, fun e => by have := (hol gq e).2; omega⟩)
           clear hg2 hb2)
        | (at_builtin
           refine wpList_append_D2 rfl _ _ rfl Try.underlying37 info_sb rfl (by decide) rfl rfl (HO2.out.alloc _) (own_row (row := [.s 1 (brows (marksR l (k : Int)))]) rfl HO2.out hs2 (.cons HM2.out .nil)) (by have := HRL.out; have := HN.out; simp only [brRows_len, List.length_cons, List.length_nil]; omega) (by have := HRL.out; have := HN.out; simp only [brRows_len, List.length_cons, List.length_nil]; omega) (by rw [World.size_alloc]; omega) ?_
           intro v' w6 ho hg _
           have HO6 := Lib.hid ho
           have HB6 := Lib.hid (grown_below (HB2.out.alloc hs2 _) hg (Nat.le_refl _) (fun k hk => (HO2.out.lt k hk).1))
           clear ho hg))
      go_roundw
      case rel => exact ⟨k + 1, by omega, by go_num, HB6, Lib.hid (by rw [HRS.out, brRows_app]; exact HO6.out)⟩
      case measure => simp [intOf]; omega
    · obtain rfl : n = k := by omega
      have hltz : ¬ (n : Int) < (n : Int) := by omega
      obtain ⟨a3, c3, rfl, hc3, hm3⟩ := HO.out.form
      rw [brRows_len, mkP_len] at HO hc3 ⊢
      have HRM := Lib.hid HO.out.memW
      have hws := HB.out.size
      clear HO
      have hmk := run_madeB n (by omega)
      have HD0 := Lib.hid (Bo.new wr 4 (boolCells (List.replicate n false)))
      have HW1 := Lib.hid (below_new wr (.cells (boolCells (List.replicate n false)) 4))
      have HSZ : Hid ((wr.alloc (.cells (boolCells (List.replicate n false)) 4)).heap.size = wr.heap.size + 1) := Lib.hid (World.size_alloc _ _)
      have HLG := Lib.hid (rounR_len l)
      have HG0 : Hid (rounR l 0 = (List.replicate n false, [])) := Lib.hid (by rw [rounR, HL.out])
      go_wp2
      clear hmk
      generalize hgd : wr.heap.size = gD at *
      have HGD := Lib.hid hgd
      generalize wr.alloc (.cells (boolCells (List.replicate n false)) 4) = wq at *
      go_loopw [7, 32] (fun v i w3 => ∃ r : Nat, r ≤ n ∧ i = .int .i64 r ∧ Hid (Far (fun b => b = gD) wq w3) ∧ Hid (BoB w3 gD (rounR l r).1) ∧ Hid (OwnD 0 (gD + 1) 27 1 w3 v (grRows (rounR l r).2))) (fun _ i _ => n - (intOf i).toNat)
      case atStart => exact ⟨0, Nat.zero_le _, rfl, Lib.hid (Far.refl _ _), Lib.hid (by rw [HG0.out]; exact HD0.out), Lib.hid (by rw [HG0.out]; exact OwnD.nil _ _ _ _ _)⟩
      case round =>
        obtain ⟨r, hr, rfl, HF, HM, HO⟩ := hrel
        rename World => w3
        by_cases hlt : r < n
        · have hltz : (r : Int) < (n : Int) := by omega
          have HRS : Hid (rounR l (r + 1) = stepR l (rounR l r)) := Lib.hid rfl
          have HLk := Lib.hid (HLG.out r)
          rw [HL.out] at HLk
          obtain ⟨a5, c5, rfl, hc5, hm5⟩ := HO.out.form
          generalize hgs : rounR l r = gs at *
          obtain ⟨told, out⟩ := gs
          clear hgs
          simp only at HRS HM HO HLk hc5
          generalize hrl : (grRows out).length = rl at *
          have HRL := Lib.hid (show out.length = rl by rw [← hrl, grRows_len])
          clear hrl
          go_wp2
          go_loopw [7, 8] (fun v7 i w4 => ∃ k : Nat, k ≤ n ∧ i = .int .i64 k ∧ v7 = .slice a5 rl c5 ∧ Hid (Below w3.heap.size w3 w4) ∧ Hid (∀ j, j < k → (!on told j && rdyP l told j l.length) = false)) (fun _ i _ => n - (intOf i).toNat)
          case atStart => exact ⟨0, Nat.zero_le _, rfl, rfl, Lib.hid (Below.refl _ _), Lib.hid fun j hj => absurd hj (Nat.not_lt_zero _)⟩
          case round =>
            obtain ⟨k, hk, rfl, rfl, HB4, HNO⟩ := hrel
            rename World => w4
            have HF4 : Hid (Far (fun b => b = gD) wq w4) := Lib.hid (far_below HF.out HB4.out)
            have HM4 : Hid (BoB w4 gD told) := Lib.hid (Bo.keep HM.out HB4.out)
            have HO4 := Lib.hid (HO.out.keep HB4.out)
            have hs4 := HB4.out.size
            by_cases hlk : k < n
            · have hlkz : (k : Int) < (n : Int) := by omega
              have c4 := HM4.out.at (k := k) (by have := HLk.out.1; omega)
              have hq4 := Bo.lt HM4.out
              cases hon : on told k with
              | true =>
                rw [hon] at c4
                have HNO2 : Hid (∀ j, j < k + 1 → (!on told j && rdyP l told j l.length) = false) := Lib.hid fun j hj => by
                  by_cases e : j = k
                  · subst e; rw [hon]; rfl
                  · exact HNO.out j (by omega)
                clear hon
                go_wp2
                go_roundw
                case rel => exact ⟨k + 1, by omega, by go_num, rfl, HB4, HNO2⟩
                case measure => simp [intOf]; omega
              | false =>
                rw [hon] at c4
                have HON := Lib.hid hon
                clear hon
                go_wp2
                go_loopw [9, 10, 11] (fun v9 v10 i w5 => ∃ j : Nat, j ≤ n ∧ i = .int .i64 j ∧ v10 = .bool (rdyP l told k j) ∧ Hid (Below w4.heap.size w4 w5) ∧ Hid (OwnD 0 w4.heap.size 3 1 w5 v9 (intRows (grpP l k j)))) (fun _ _ i _ => n - (intOf i).toNat)
                case atStart => exact ⟨0, Nat.zero_le _, rfl, rfl, Lib.hid (Below.refl _ _), Lib.hid (OwnD.nil _ _ _ _ _)⟩
                case round =>
                  obtain ⟨j, hj, rfl, rfl, HB5, HO5⟩ := hrel
                  rename World => w5
                  have hs5 := HB5.out.size
                  have HF5 : Hid (Far (fun b => b = gD) wq w5) := Lib.hid (far_below HF4.out HB5.out)
                  have HFr : Hid (Far (fun b => b = gD) wr w5) := Lib.hid ((Far.of (by rw [HGD.out]; exact HW1.out)).trans HF5.out)
                  have HR5 : Hid (MemW w5 (.s 1 (brRows (mkP l n))) (.slice a3 n c3)) := Lib.hid (HRM.out.mono (fun b hb => Nat.lt_of_lt_of_le hb HFr.out.size) fun b hb => HFr.out.block b hb (fun e => by have := HGD.out; omega))
                  have HM5 : Hid (BoB w5 gD told) := Lib.hid (Bo.keep HM4.out HB5.out)
                  have HO5r := Lib.hid (HO4.out.keep HB5.out)
                  obtain ⟨a9, c9, rfl, hc9, hm9⟩ := HO5.out.form
                  by_cases hlj : j < n
                  · have hljz : (j : Int) < (n : Int) := by omega
                    have HGP := Lib.hid (grpP_succ l k j)
                    have HRP := Lib.hid (rdyP_succ l told k j)
                    have HLN := Lib.hid (grpP_len l k j)
                    have HOW := Lib.hid (ownG_marks l k j)
                    have t5 := HM5.out.at (k := j) (by have := HLk.out.1; omega)
                    have hq5 := Bo.lt HM5.out
                    obtain ⟨b1, o1, r1, a1, n1, c1, he1, hb1, Hr1, x0, G1⟩ := br_at HR5.out k hlk
                    obtain ⟨b2, o2, r2, a2, n2, c2, he2, hb2, Hr2, y0, G2⟩ := br_at HR5.out j hlj
                    rw [he1] at he2
                    cases he2
                    subst he1
                    have hr1 := Hr1.out
                    rw [mkP_at hlk] at hr1
                    obtain rfl := Option.some.inj hr1
                    have hr2 := Hr2.out
                    rw [mkP_at hlj] at hr2
                    obtain rfl := Option.some.inj hr2
                    have hn1 := G1.out.len
                    have hn2 := G2.out.len
                    rw [brows_len, marksR_len', HL.out] at hn1 hn2
                    obtain rfl : n = n1 := hn1.1
                    obtain rfl : n = n2 := hn2.1
                    obtain ⟨d1, p1, rfl, hd1, z1⟩ := bool_at G1.out j hlj
                    obtain ⟨d2, p2, rfl, hd2, z2⟩ := bool_at G2.out k hlk
                    clear hr1 hr2 hn1 hn2
                    generalize hr9 : (intRows (grpP l k j)).length = r9 at *
                    clear hr9
                    generalize rdyP l told k j = rd at *
                    by_cases hjk : j = k
                    · have e1 : ((j : Int) == (k : Int)) = true := by rw [beq_iff_eq]; omega
                      have hown : ownG l k j = true := by rw [HOW.out, decide_eq_true hjk]; rfl
                      rw [hown, if_pos rfl] at HGP
                      rw [hown, Bool.true_or, Bool.and_true] at HRP
                      clear hown hjk
                      go_wp2_with (first
                        | (at_builtin
                           refine wpList_append_D2 rfl _ _ rfl Try.underlying27 info_intG rfl (by decide) rfl rfl (HO5.out.alloc _) (own_int (j : Int) _ rfl HO5.out hs5) (by have := HLN.out; simp only [intRows_len, List.length_cons, List.length_nil]; omega) (by have := HLN.out; simp only [intRows_len, List.length_cons, List.length_nil]; omega) (by rw [World.size_alloc]; omega) ?_
                           intro v' w6 ho hg _
                           have HO6 := Lib.hid ho
                           have HB6 := Lib.hid (grown_below (HB5.out.alloc hs5 _) hg (Nat.le_refl _) (fun k hk => (HO5.out.lt k hk).1))
                           clear ho hg))
                      go_roundw
                      case rel => exact ⟨j + 1, by omega, by go_num, by rw [HRP.out], HB6, Lib.hid (by rw [HGP.out, intRows_app]; exact HO6.out)⟩
                      case measure => simp [intOf]; omega
                    · have e1 : ((j : Int) == (k : Int)) = false := by rw [beq_eq_false_iff_ne]; omega
                      rw [decide_eq_false hjk, Bool.false_or] at HOW
                      cases m1 : on (marksR l (k : Int)) j with
                      | false =>
                        rw [m1] at z1 HOW HRP
                        have hown : ownG l k j = false := by rw [HOW.out]; rfl
                        rw [hown, if_neg (by simp)] at HGP
                        rw [hown] at HRP
                        have HRP2 : Hid (rdyP l told k (j + 1) = rd) := Lib.hid (by rw [HRP.out]; simp)
                        clear hown hjk m1 HRP
                        go_wp2
                        go_roundw
                        case rel => exact ⟨j + 1, by omega, by go_num, by rw [HRP2.out], HB5, Lib.hid (by rw [HGP.out]; exact HO5.out)⟩
                        case measure => simp [intOf]; omega
                      | true =>
                        cases m2 : on (marksR l (j : Int)) k with
                        | true =>
                          rw [m1] at z1 HOW
                          rw [m2] at z2 HOW
                          have hown : ownG l k j = true := by rw [HOW.out]; rfl
                          rw [hown, if_pos rfl] at HGP
                          rw [hown, Bool.true_or, Bool.and_true] at HRP
                          clear hown hjk m1 m2
                          go_wp2_with (first
                            | (at_builtin
                               refine wpList_append_D2 rfl _ _ rfl Try.underlying27 info_intG rfl (by decide) rfl rfl (HO5.out.alloc _) (own_int (j : Int) _ rfl HO5.out hs5) (by have := HLN.out; simp only [intRows_len, List.length_cons, List.length_nil]; omega) (by have := HLN.out; simp only [intRows_len, List.length_cons, List.length_nil]; omega) (by rw [World.size_alloc]; omega) ?_
                               intro v' w6 ho hg _
                               have HO6 := Lib.hid ho
                               have HB6 := Lib.hid (grown_below (HB5.out.alloc hs5 _) hg (Nat.le_refl _) (fun k hk => (HO5.out.lt k hk).1))
                               clear ho hg))
                          go_roundw
                          case rel => exact ⟨j + 1, by omega, by go_num, by rw [HRP.out], HB6, Lib.hid (by rw [HGP.out, intRows_app]; exact HO6.out)⟩
                          case measure => simp [intOf]; omega
                        | false =>
                          rw [m1] at z1 HOW HRP
                          rw [m2] at z2 HOW
                          have hown : ownG l k j = false := by rw [HOW.out]; rfl
                          rw [hown, if_neg (by simp)] at HGP
                          rw [hown] at HRP
                          clear hown hjk m1 m2
                          cases ht : on told j with
                          | true =>
                            rw [ht] at t5 HRP
                            have HRP2 : Hid (rdyP l told k (j + 1) = rd) := Lib.hid (by rw [HRP.out]; simp)
                            clear ht HRP
                            go_wp2
                            go_roundw
                            case rel => exact ⟨j + 1, by omega, by go_num, by rw [HRP2.out], HB5, Lib.hid (by rw [HGP.out]; exact HO5.out)⟩
                            case measure => simp [intOf]; omega
                          | false =>
                            rw [ht] at t5 HRP
                            have HRP2 : Hid (rdyP l told k (j + 1) = false) := Lib.hid (by rw [HRP.out]; simp)
                            clear ht HRP
                            go_wp2
                            go_roundw
                            case rel => exact ⟨j + 1, by omega, by go_num, by rw [HRP2.out], HB5, Lib.hid (by rw [HGP.out]; exact HO5.out)⟩
                            case measure => simp [intOf]; omega
                  · obtain rfl : n = j := by omega
                    have hljz : ¬ (n : Int) < (n : Int) := by omega
                    cases hrd : rdyP l told k n with
                    | false =>
                      have HNO2 : Hid (∀ j, j < k + 1 → (!on told j && rdyP l told j l.length) = false) := Lib.hid fun j hj => by
                        by_cases e : j = k
                        · subst e; rw [HL.out, hrd, Bool.and_false]
                        · exact HNO.out j (by omega)
                      have HBB := Lib.hid (Below.to HB4.out HB5.out)
                      clear hrd
                      go_wp2
                      go_roundw
                      case rel => exact ⟨k + 1, by omega, by go_num, rfl, HBB, HNO2⟩
                      case measure => simp [intOf]; omega
                    | true =>
                      have HST : Hid (rounR l (r + 1) = (markT told (grpP l k n), out ++ [grpP l k n])) := Lib.hid (by
                        rw [HRS.out, stepR, pick_some (i := k) (by rw [HL.out]; exact hlk) (by rw [HL.out, hrd, HON.out]; rfl) HNO.out, HL.out])
                      clear hrd
                      have hol := HO5r.out.lt
                      have HG5 := Lib.hid HO5.out.mem
                      have hgl := HO5.out.form
                      have HGL : Hid (∀ x ∈ grpP l k n, 0 ≤ x ∧ x < (n : Int)) := Lib.hid fun x hx => by
                        rw [← HL.out] at hx ⊢
                        obtain ⟨q, rfl, hq, _⟩ := mem_grp.1 hx
                        omega
                      rw [intRows_len] at hc9 ⊢
                      rw [intRows_len] at HG5
                      clear hgl
                      generalize grpP l k n = G at *
                      generalize hn9 : G.length = n9 at *
                      have HN9 := Lib.hid hn9
                      clear hn9
                      have h9m : n9 ≤ 9223372036854775807 := by omega
                      go_wp2
                      go_loopw [91] (fun v w6 => ∃ j : Nat, j ≤ n9 ∧ v = .int .i64 j ∧ Hid (Far (fun b => b = gD) w5 w6) ∧ Hid (BoB w6 gD (markT told (G.take j)))) (fun v _ => n9 - (intOf v).toNat)
                      case atStart => exact ⟨0, Nat.zero_le _, rfl, Lib.hid (Far.refl _ _), HM5⟩
                      case round =>
                        obtain ⟨j, hj, rfl, HF6, HM6⟩ := hrel
                        rename World => w6
                        have hw6 := HF6.out.size
                        have hsz := HSZ.out
                        have hs3 := HF.out.size
                        by_cases hlj : j < n9
                        · have hljz : (j : Int) < (n9 : Int) := by omega
                          have HG6 : Hid (MemW w6 (.s 1 (intRows G)) (.slice a9 n9 c9)) := Lib.hid (HG5.out.mono (fun b hb => by
                            have h2 := hb.2
                            show b < w6.heap.size
                            omega) (fun b hb => HF6.out.block b hb.2 (by rcases hb.1 with h | h <;> omega)))
                          obtain ⟨b7, o7, z, rfl, hb7, Hz, y0⟩ := int_at HG6.out j hlj
                          have hz := HGL.out z (List.mem_of_getElem? Hz.out)
                          obtain ⟨kz, rfl⟩ := Int.eq_ofNat_of_zero_le hz.1
                          have hkz : kz < n := by omega
                          have hkzz : (kz : Int) < (n : Int) := by omega
                          have hMl : (markT told (G.take j)).length = n := by rw [markT_len]; have := HLk.out.1; omega
                          have c7 := HM6.out.at (k := kz) (by rw [hMl]; exact hkz)
                          have hz7 := Bo.frozen HM6.out kz
                          have HMS : Hid (markT told (G.take (j + 1)) = (markT told (G.take j)).set kz true) := Lib.hid (by unfold markT; rw [foldl_take Hz.out, Int.toNat_natCast])
                          have HM7 := Lib.hid (HM6.out.put kz)
                          have HF7 : Hid (Far (fun b => b = gD) w5 (w6.setCell ⟨gD, kz, none⟩ (.bool true))) := Lib.hid (far_cell HF6.out (p := ⟨gD, kz, none⟩) rfl _)
                          clear hz
                          go_wp2
                          go_roundw
                          case rel => exact ⟨j + 1, by omega, by go_num, HF7, Lib.hid (by rw [HMS.out]; exact HM7.out)⟩
                          case measure => simp [intOf]; omega
                        · obtain rfl : n9 = j := by omega
                          have hljz : ¬ (n9 : Int) < (n9 : Int) := by omega
                          rw [List.take_of_length_le (by rw [HN9.out]; exact Nat.le_refl _)] at HM6
                          have HO6 := Lib.hid (HO5r.out.farQ HF6.out (by omega))
                          have HGS := Lib.hid (HG5.out.mono (S' := fun b => Nw 0 (gD + 1) w6.heap.size b ∧ (Value.slice a5 rl c5).ownBlock ≠ some b) (w' := w6) (fun b hb => ⟨⟨.inr (by rcases hb.1 with h | h <;> omega), by have := hb.2; omega⟩, fun e => by
                            have h1 := (HO4.out.lt b e).2
                            rcases hb.1 with h | h <;> omega⟩) (fun b hb => HF6.out.block b hb.2 (by rcases hb.1 with h | h <;> omega)))
                          have hs6 : gD + 1 ≤ w6.heap.size := by omega
                          have HLr := Lib.hid (show out.length ≤ n by have := HLk.out.2; omega)
                          go_wp2_with (first
                            | (at_builtin
                               refine wpList_append_D2 rfl _ _ rfl Try.underlying22 info_sl rfl (by decide) rfl rfl (HO6.out.alloc _) (own_sl HO6.out hs6 HGS.out) (by have := HLr.out; simp only [grRows_len, List.length_cons, List.length_nil]; omega) (by have := HLr.out; simp only [grRows_len, List.length_cons, List.length_nil]; omega) (by rw [World.size_alloc]; omega) ?_
                               intro v6 w8 ho hg _
                               have hlt5 := HO6.out.lt
                               have HO8 := Lib.hid ho
                               have HM8 : Hid (BoB w8 gD (markT told G)) := Lib.hid (Bo.grown (Bo.alloc HM6.out _) hg (fun q hq => by have := (hlt5 q hq).1; omega))
                               have HF8 : Hid (Far (fun b => b = gD) wq w8) := Lib.hid (far_grown (far_below (HF5.out.trans HF6.out) (below_new w6 _)) hg (fun q hq => by have := (hlt5 q hq).1; have := HSZ.out; omega))
                               clear ho hg hlt5))
                          go_roundw
                          case rel => exact ⟨r + 1, by omega, by go_num, HF8, Lib.hid (by rw [HST.out]; exact HM8.out), Lib.hid (by rw [HST.out, grRows_app]; exact HO8.out)⟩
                          case measure => simp [intOf]; omega
            · obtain rfl : n = k := by omega
              have hlkz : ¬ (n : Int) < (n : Int) := by omega
              have HST : Hid (rounR l (r + 1) = (told, out)) := Lib.hid (by
                rw [HRS.out, stepR, pick_none (by rw [HL.out]; have := HNO.out; rw [HL.out] at this; exact this)])
              go_wp2
              go_roundw
              case rel => exact ⟨r + 1, by omega, by go_num, HF4, Lib.hid (by rw [HST.out]; exact HM4.out), Lib.hid (by rw [HST.out]; exact HO4.out)⟩
              case measure => simp [intOf]; omega
        · obtain rfl : n = r := by omega
          have hltz : ¬ (n : Int) < (n : Int) := by omega
          go_wp2
          go_ret
          exact ⟨_, rfl, HO.out.memW, (HB.out.trans (HW1.out.mono hws)).trans (far_low HF.out (by omega) (by have := HSZ.out; omega))⟩
end Go.Proofs.Ytlhkkkmjoobpcaa
