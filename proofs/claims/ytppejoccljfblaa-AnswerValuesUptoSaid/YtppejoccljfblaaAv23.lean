/-
  The reference's Sort: by insertion. No condition but how the terms lie, and how many there are.
-/
import Derived.Test.YtppejoccljfblaaAv11
import Derived.Test.YtppejoccljfblaaAv7
import Derived.BigQuiet
import Derived.Deep.RegionLawGrows
import Derived.Test.YtppejoccljfblaaAv10
namespace Go.Proofs.Ytppejoccljfblaa
open Go.RowKit

def leT (x y : Tm) : Prop := ¬ cmpT y x < 0
theorem leT_trans {x y z : Tm} (h1 : leT x y) (h2 : leT y z) : leT x z := by
  unfold leT at *
  have h3 := cmpT_3 x y z
  have e1 := cmpT_neg x y
  have e2 := cmpT_neg y z
  have e3 := cmpT_neg x z
  unfold T3 at h3; omega
theorem leT_of {x y : Tm} (h : cmpT x y < 0) : leT x y := by
  unfold leT
  have := cmpT_neg x y
  omega
theorem ins_sorted {x : Tm} {L : List Tm} {i : Nat} (h : L.Pairwise leT) (hi : i ≤ L.length) (hlo : ∀ y, i ≠ 0 → L[i - 1]? = some y → ¬ cmpT x y < 0) (hhi : ∀ j y, i ≤ j → L[j]? = some y → cmpT x y < 0) : (L.take i ++ [x] ++ L.drop i).Pairwise leT := by
  have hp : (L.take i ++ L.drop i).Pairwise leT := by rw [List.take_append_drop]; exact h
  rw [List.pairwise_append] at hp
  obtain ⟨p1, p2, p3⟩ := hp
  have hd : ∀ y ∈ L.drop i, leT x y := fun y hy => by
    obtain ⟨j, hj⟩ := List.getElem?_of_mem hy
    rw [List.getElem?_drop] at hj
    exact leT_of (hhi (i + j) y (by omega) hj)
  have ht : ∀ y ∈ L.take i, leT y x := fun y hy => by
    have h0 : i ≠ 0 := fun e => by subst e; simp at hy
    have hl1 : i - 1 < L.length := by omega
    have hz : leT L[i - 1] x := hlo _ h0 (List.getElem?_eq_getElem hl1)
    obtain ⟨j, hj⟩ := List.getElem?_of_mem hy
    have hji : j < i := by
      have := (List.getElem?_eq_some_iff.1 hj).1
      rw [List.length_take] at this; omega
    rw [List.getElem?_take_of_lt hji] at hj
    obtain ⟨hjl, rfl⟩ := List.getElem?_eq_some_iff.1 hj
    rcases Nat.lt_or_eq_of_le (show j ≤ i - 1 by omega) with h1 | h1
    · exact leT_trans ((List.pairwise_iff_getElem.1 h) j (i - 1) hjl hl1 h1) hz
    · subst h1; exact hz
  rw [List.append_assoc, List.pairwise_append]
  refine ⟨p1, ?_, fun a ha b hb => ?_⟩
  · rw [List.singleton_append, List.pairwise_cons]; exact ⟨hd, p2⟩
  · rw [List.singleton_append] at hb
    rcases List.mem_cons.1 hb with rfl | hb
    · exact ht a ha
    · exact p3 a ha b hb
theorem ins_perm (x : Tm) (L : List Tm) (i : Nat) : (L.take i ++ [x] ++ L.drop i).Perm (L ++ [x]) := by
  rw [List.append_assoc]
  refine (List.Perm.append_left _ List.perm_append_comm).trans ?_
  rw [← List.append_assoc, List.take_append_drop]


set_option maxRecDepth 100000 in
set_option maxHeartbeats 20000000 in
theorem sort3_any {ts : List Tm} {a : Option Addr} {n cap : Nat} (w : World) (h : Tms w ts a n cap) (hn : n ≤ 1000) :
    Calls Try.prog 58 #[.slice a n cap] w fun e w' => ∃ y, e = .returned y ∧ Below w.heap.size w w' ∧ ∃ L : List Tm, L.Perm ts ∧ L.Pairwise leT ∧ OwnD w.heap.size w.heap.size 96 4 w' y (Tm.rows L) := by
  have hcap := h.len.2.1
  have hmx := h.len.2.2
  have HL := Lib.hid h.len.1
  have H := Lib.hid h
  clear h
  go_enter Try.func58, Try.ntmps58
  go_wp2
  go_loopw [3, 9] (fun v vi wr => ∃ (k : Nat) (L : List Tm), vi = .int .i64 k ∧ k ≤ n ∧ L.length = k ∧ Hid (Below w.heap.size w wr) ∧ Hid (OwnD w.heap.size w.heap.size 96 4 wr v (Tm.rows L)) ∧ Hid (L.Perm (ts.take k)) ∧ Hid (L.Pairwise leT)) (fun _ vi _ => n - (intOf vi).toNat)
  case atStart => exact ⟨0, [], rfl, Nat.zero_le _, rfl, Below.refl _ _, OwnD.nil _ _ _ _ _, Lib.hid (by rw [List.take_zero]), Lib.hid .nil⟩
  case round =>
    obtain ⟨k, L, rfl, hk, hLk, HB, HO, HP, HS⟩ := hrel
    obtain ⟨wo, rfl⟩ : ∃ wo : World, wo = wr := ⟨_, rfl⟩
    by_cases hlt : k < n
    · have hltz : (k : Int) < (n : Int) := by omega
      obtain ⟨b, o, x, ax, nx, capx, rfl, hbB, Hx, x0, x1, x2, x3, GX⟩ := tm_at (Mem.keep H.out (Nat.le_refl _) HB.out) k hlt
      obtain ⟨va, vc, rfl, hvk, hvc⟩ := HO.out.form
      rw [Tm.rows_len, hLk] at HO hvk ⊢
      have HBX := Lib.hid (Bo.new wo 96 #[.int .i64 x.kind, .string x.name, .int .i64 x.n, .slice ax nx capx])
      have HX := Lib.hid GX
      have HWR := Lib.hid HB.out.size
      have HLK := Lib.hid hLk
      clear GX hLk
      go_wp2
      clear x0 x1 x2 x3
      go_loopw [6] (fun vj wj => ∃ i : Nat, vj = .int .i64 i ∧ i ≤ k ∧ Hid (Below (wo.heap.size + 1) (wo.alloc (.cells #[.int .i64 x.kind, .string x.name, .int .i64 x.n, .slice ax nx capx] 96)) wj) ∧ Hid (∀ j y, i ≤ j → L[j]? = some y → cmpT x y < 0)) (fun vj _ => (intOf vj).toNat)
      case atStart => exact ⟨k, rfl, Nat.le_refl _, Below.refl _ _, Lib.hid fun j y hj hy => by
        have := (List.getElem?_eq_some_iff.1 hy).1
        rw [HLK.out] at this; omega⟩
      case round =>
        obtain ⟨i, rfl, hik, HBJ, HHI⟩ := hrel
        have HBJ2 : Hid (Below wo.heap.size wo wr) := Lib.hid ((below_new wo _).trans (HBJ.out.mono (Nat.le_succ _)))
        have HOJ := Lib.hid (HO.out.keep HBJ2.out)
        have HXJ := Lib.hid (HBX.out.below HBJ.out (Nat.lt_succ_self _))
        by_cases hi0 : 0 < i
        · obtain ⟨ip, rfl⟩ : ∃ ip, i = ip + 1 := ⟨i - 1, by omega⟩
          obtain ⟨g, og, y, ay, ny, capy, rfl, hgS, Hy, z0, z1, z2, z3, GY⟩ := tm_at HOJ.out.mem ip (by omega)
          obtain ⟨y0, y1, y2, y3⟩ := HXJ.out.c4
          have MX : Hid (MemW wr.drew (.s 4 (Tm.rows x.args)) (.slice ax nx capx)) := Lib.hid (HX.out.mono (fun q hq => Nat.lt_of_lt_of_le hq (Nat.le_trans HWR.out HBJ2.out.size)) fun q hq => HBJ2.out.block q (Nat.lt_of_lt_of_le hq HWR.out))
          have MY : Hid (MemW wr.drew (.s 4 (Tm.rows y.args)) (.slice ay ny capy)) := Lib.hid (GY.out.mono (fun q hq => hq.2) fun _ _ => rfl)
          have hd0 : decide ((0 : Int) < (ip : Int) + 1) = true := decide_eq_true (by omega)
          have hz1 : (ip : Int) < (k : Int) := by omega
          have w1 : IntKind.i64.wrap ((ip : Int) + 1 - 1) = (ip : Int) := by rw [IntKind.wrap_i64]; omega
          have w2 : IntKind.i64.wrap (ip : Int) = (ip : Int) := by rw [IntKind.wrap_i64]; omega
          by_cases hc : cmpT x y < 0
          · have HH2 : Hid (∀ j z, ip ≤ j → L[j]? = some z → cmpT x z < 0) := Lib.hid fun j z hj hz => by
              by_cases e : j = ip
              · subst e
                have := Hy.out.symm.trans hz
                cases this; exact hc
              · exact HHI.out j z (by omega) hz
            have hd : decide (cmpT x y < 0) = true := decide_eq_true hc
            clear hc
            go_wp2
            go_still_tail 9, (by kernel_rfl)
            change wpList _ _ _ _ _ wr.drew
            go_wp2_with fail
            refine (compare3_any x y _ ax ay nx ny capx capy MX.out MY.out).mono ?_
            rintro e w2 ⟨rfl, hb⟩
            have HB2 := Lib.hid hb
            clear hb
            go_wp2_with fail
            go_roundw
            case rel => exact ⟨ip, by go_num, by omega, HBJ.out.drew.trans (HB2.out.mono (by have := HBJ.out.size; rw [World.size_alloc] at this; exact this)), HH2.out⟩
            case measure => simp [intOf] <;> omega
          · have hd : decide (cmpT x y < 0) = false := decide_eq_false hc
            have HLO : Hid (∀ z, ip + 1 ≠ 0 → L[ip + 1 - 1]? = some z → ¬ cmpT x z < 0) := Lib.hid fun z _ hz => by
              have := Hy.out.symm.trans hz
              cases this; exact hc
            clear hc
            go_wp2
            go_still_tail 9, (by kernel_rfl)
            change wpList _ _ _ _ _ wr.drew
            go_wp2_with fail
            refine (compare3_any x y _ ax ay nx ny capx capy MX.out MY.out).mono ?_
            rintro e w2' ⟨rfl, hb⟩
            have HBW : Hid (Below (wo.heap.size + 1) (wo.alloc (.cells #[.int .i64 x.kind, .string x.name, .int .i64 x.n, .slice ax nx capx] 96)) w2') := Lib.hid (HBJ.out.drew.trans (hb.mono (by have := HBJ.out.size; rw [World.size_alloc] at this; exact this)))
            clear hb y0 y1 y2 y3 z0 z1 z2 z3
            go_wp2_with fail
            have hic : ∃ i : Nat, ip + 1 = i := ⟨_, rfl⟩
            obtain ⟨i, hi⟩ := hic
            have hiz : (ip : Int) + 1 = (i : Int) := by omega
            rw [hi] at hik HLO HHI
            simp only [hiz]
            have hi0n : ¬ i = 0 := by omega
            clear hi hiz hi0 hz1 hd0
            rcases ownD_form3 HO.out with ⟨e0, e1, e2, e3⟩ | ⟨gq, e0, e1, hkc, hcm⟩
            · cases e0
            · cases e0
              clear e1
              by_cases hv : vc = i
              · obtain rfl : k = i := by omega
                obtain rfl : k = vc := by omega
                have HBOW : Hid (Below wo.heap.size wo w2') := Lib.hid ((below_new wo _).trans (HBW.out.mono (Nat.le_succ _)))
                have HOW := Lib.hid (HO.out.keep HBOW.out)
                have HXW := Lib.hid (HBX.out.below HBW.out (Nat.lt_succ_self _))
                have HMW : Hid (MemW w2' (.s 4 (Tm.rows x.args)) (.slice ax nx capx)) := Lib.hid (HX.out.mono (fun q hq => Nat.lt_of_lt_of_le hq (Nat.le_trans HWR.out HBOW.out.size)) fun q hq => HBOW.out.block q (Nat.lt_of_lt_of_le hq HWR.out))
                have HWZ : Hid (w.heap.size ≤ w2'.heap.size) := Lib.hid (Nat.le_trans HWR.out HBOW.out.size)
                have HIS := Lib.hid (ins_sorted (x := x) (L := L) (i := k) HS.out (by rw [HLK.out]; exact hik) (fun y h0 hy => Int.not_lt.2 (HLO.out y h0 hy)) HHI.out)
                have HIP : Hid ((L.take k ++ [x] ++ L.drop k).Perm (ts.take (k + 1))) := Lib.hid ((ins_perm x L k).trans (by rw [take_at Hx.out]; exact List.Perm.append_right _ HP.out))
                have HRL : Hid (((Tm.rows L).drop k).length ≤ 1000) := Lib.hid (by rw [List.length_drop, Tm.rows_len, HLK.out]; omega)
                have HRN : Hid (k + (((Tm.rows L).drop k).length + 1) ≤ 1001) := Lib.hid (by rw [List.length_drop, Tm.rows_len, HLK.out]; omega)
                have hi0z : (0 : Int) ≤ (k : Int) := by omega
                have hikz : (k : Int) ≤ (k : Int) := by omega
                obtain ⟨y0, y1, y2, y3⟩ := HXW.out.c4
                have HR1 : Hid (MemW w2' (.s 4 ((Tm.rows L).drop k)) (.slice (some ⟨g, 0, none⟩) 0 0)) := Lib.hid (by rw [List.drop_of_length_le (by rw [Tm.rows_len, HLK.out]; omega)]; exact .e _ _ 4 (by omega))
                have hicz : (k : Int) ≤ (k : Int) := by omega
                have HT1 : Hid (MemW w2' (.s 4 ((Tm.rows L).take k)) (.slice (some ⟨g, 0, none⟩) k k)) := Lib.hid (Mem.take k hik HOW.out.memW k (Nat.le_refl _) (by omega))
                go_region_held3 (fun w' => w'.cell? ⟨wo.heap.size, 0, none⟩ = some (.int .i64 x.kind) ∧ w'.cell? ⟨wo.heap.size, 1, none⟩ = some (.string x.name) ∧ w'.cell? ⟨wo.heap.size, 2, none⟩ = some (.int .i64 x.n) ∧ w'.cell? ⟨wo.heap.size, 3, none⟩ = some (.slice ax nx capx))
                  ((repeat' apply And.intro) <;> (repeat (first | with_reducible assumption | with_reducible refine cell_drew ?_ | with_reducible refine cell_alloc _ ?_ | with_reducible refine cell_row_far _ ?_ (by omega) | with_reducible refine cell_below ?_ HB5.out | with_reducible refine cell_below ?_ HB6.out)))
                  (first | (refine stepx_app (by rfl) (.tmp 34) (.tmp 37) (by rfl) (by rfl) (by rfl) (ins_app1 (by exact ⟨rfl, rfl, rfl, rfl⟩) rfl HR1.out HMW.out HRL.out) ?_; rintro v5 w5 ⟨g5, c5, rfl, hm5, hb5⟩; have HM5 := Lib.hid hm5; have HB5 := Lib.hid hb5; clear hm5 hb5) | (refine stepx_app (by rfl) (.tmp 32) (.tmp 38) (by rfl) (by rfl) (by rfl) (ins_app2 (W1 := w5) (base := w.heap.size) (by exact ⟨rfl, rfl, rfl, rfl⟩) (HT1.out.keep HB5.out) HM5.out (Nat.succ_pos _) HRN.out (Nat.le_trans HWZ.out HB5.out.size)) ?_; rintro v6 w6 ⟨ho6, hb6⟩; have HO6 := Lib.hid ho6; have HB6 := Lib.hid hb6; clear ho6 hb6))
                all_goals go_wp2
                all_goals go_roundw
                case rel => exact ⟨k + 1, L.take k ++ [x] ++ L.drop k, by go_num, by omega, by simp only [List.length_append, List.length_take, List.length_drop, List.length_cons, List.length_nil, HLK.out]; omega, Lib.hid (HB.out.trans ((HBOW.out.trans ((HB5.out.trans (HB6.out.mono HB5.out.size)).mono HBOW.out.size)).mono HB.out.size)), Lib.hid (by have := HO6.out; rw [show Tm.rows (L.take k ++ [x] ++ L.drop k) = (Tm.rows L).take k ++ (x.row :: (Tm.rows L).drop k) by simp [Tm.rows_eq]]; exact this), HIP, HIS⟩
                case measure => simp [intOf] <;> omega
              · have HBOW : Hid (Below wo.heap.size wo w2') := Lib.hid ((below_new wo _).trans (HBW.out.mono (Nat.le_succ _)))
                have HOW := Lib.hid (HO.out.keep HBOW.out)
                have HXW := Lib.hid (HBX.out.below HBW.out (Nat.lt_succ_self _))
                have HMW : Hid (MemW w2' (.s 4 (Tm.rows x.args)) (.slice ax nx capx)) := Lib.hid (HX.out.mono (fun q hq => Nat.lt_of_lt_of_le hq (Nat.le_trans HWR.out HBOW.out.size)) fun q hq => HBOW.out.block q (Nat.lt_of_lt_of_le hq HWR.out))
                have HWZ : Hid (w.heap.size ≤ w2'.heap.size) := Lib.hid (Nat.le_trans HWR.out HBOW.out.size)
                have HIS := Lib.hid (ins_sorted (x := x) (L := L) (i := i) HS.out (by rw [HLK.out]; exact hik) (fun y h0 hy => Int.not_lt.2 (HLO.out y h0 hy)) HHI.out)
                have HIP : Hid ((L.take i ++ [x] ++ L.drop i).Perm (ts.take (k + 1))) := Lib.hid ((ins_perm x L i).trans (by rw [take_at Hx.out]; exact List.Perm.append_right _ HP.out))
                have HRL : Hid (((Tm.rows L).drop i).length ≤ 1000) := Lib.hid (by rw [List.length_drop, Tm.rows_len, HLK.out]; omega)
                have HRN : Hid (i + (((Tm.rows L).drop i).length + 1) ≤ 1001) := Lib.hid (by rw [List.length_drop, Tm.rows_len, HLK.out]; omega)
                have hi0z : (0 : Int) ≤ (i : Int) := by omega
                have hikz : (i : Int) ≤ (k : Int) := by omega
                obtain ⟨y0, y1, y2, y3⟩ := HXW.out.c4
                have HR1 : Hid (MemW w2' (.s 4 ((Tm.rows L).drop i)) (.slice (some ⟨g, i * 4, none⟩) (k - i) (vc - i))) := Lib.hid (by have := Mem.drop i hik HOW.out.memW; simp only [Nat.zero_add] at this; exact this)
                have hicz : (i : Int) ≤ (vc : Int) := by omega
                have HT1 : Hid (MemW w2' (.s 4 ((Tm.rows L).take i)) (.slice (some ⟨g, 0, none⟩) i i)) := Lib.hid (Mem.take i hik HOW.out.memW i (Nat.le_refl _) (by omega))
                go_region_held3 (fun w' => w'.cell? ⟨wo.heap.size, 0, none⟩ = some (.int .i64 x.kind) ∧ w'.cell? ⟨wo.heap.size, 1, none⟩ = some (.string x.name) ∧ w'.cell? ⟨wo.heap.size, 2, none⟩ = some (.int .i64 x.n) ∧ w'.cell? ⟨wo.heap.size, 3, none⟩ = some (.slice ax nx capx))
                  ((repeat' apply And.intro) <;> (repeat (first | with_reducible assumption | with_reducible refine cell_drew ?_ | with_reducible refine cell_alloc _ ?_ | with_reducible refine cell_row_far _ ?_ (by omega) | with_reducible refine cell_below ?_ HB5.out | with_reducible refine cell_below ?_ HB6.out)))
                  (first | (refine stepx_app (by rfl) (.tmp 34) (.tmp 37) (by rfl) (by rfl) (by rfl) (ins_app1 (by exact ⟨rfl, rfl, rfl, rfl⟩) rfl HR1.out HMW.out HRL.out) ?_; rintro v5 w5 ⟨g5, c5, rfl, hm5, hb5⟩; have HM5 := Lib.hid hm5; have HB5 := Lib.hid hb5; clear hm5 hb5) | (refine stepx_app (by rfl) (.tmp 32) (.tmp 38) (by rfl) (by rfl) (by rfl) (ins_app2 (W1 := w5) (base := w.heap.size) (by exact ⟨rfl, rfl, rfl, rfl⟩) (HT1.out.keep HB5.out) HM5.out (Nat.succ_pos _) HRN.out (Nat.le_trans HWZ.out HB5.out.size)) ?_; rintro v6 w6 ⟨ho6, hb6⟩; have HO6 := Lib.hid ho6; have HB6 := Lib.hid hb6; clear ho6 hb6))
                all_goals go_wp2
                all_goals go_roundw
                case rel => exact ⟨k + 1, L.take i ++ [x] ++ L.drop i, by go_num, by omega, by simp only [List.length_append, List.length_take, List.length_drop, List.length_cons, List.length_nil, HLK.out]; omega, Lib.hid (HB.out.trans ((HBOW.out.trans ((HB5.out.trans (HB6.out.mono HB5.out.size)).mono HBOW.out.size)).mono HB.out.size)), Lib.hid (by have := HO6.out; rw [show Tm.rows (L.take i ++ [x] ++ L.drop i) = (Tm.rows L).take i ++ (x.row :: (Tm.rows L).drop i) by simp [Tm.rows_eq]]; exact this), HIP, HIS⟩
                case measure => simp [intOf] <;> omega
        · obtain rfl : i = 0 := by omega
          clear hi0
          go_wp2
          go_quiet (fail)
          go_wp2_with fail
          have HBW : Hid (Below (wo.heap.size + 1) (wo.alloc (.cells #[.int .i64 x.kind, .string x.name, .int .i64 x.n, .slice ax nx capx] 96)) (wr.drewN nq)) := Lib.hid (below_drewN HBJ.out nq)
          generalize wr.drewN nq = w2' at HBW ⊢
          have HLO : Hid (∀ z, (0 : Nat) ≠ 0 → L[0 - 1]? = some z → 0 ≤ cmpT x z) := Lib.hid fun _ h => absurd rfl h
          rcases ownD_form3 HO.out with ⟨rfl, e1, e2, e3⟩ | ⟨gq, rfl, e1, hkc, hcm⟩
          · obtain rfl : 0 = k := by omega
            obtain rfl : 0 = vc := by omega
            have HBOW : Hid (Below wo.heap.size wo w2') := Lib.hid ((below_new wo _).trans (HBW.out.mono (Nat.le_succ _)))
            have HOW := Lib.hid (HO.out.keep HBOW.out)
            have HXW := Lib.hid (HBX.out.below HBW.out (Nat.lt_succ_self _))
            have HMW : Hid (MemW w2' (.s 4 (Tm.rows x.args)) (.slice ax nx capx)) := Lib.hid (HX.out.mono (fun q hq => Nat.lt_of_lt_of_le hq (Nat.le_trans HWR.out HBOW.out.size)) fun q hq => HBOW.out.block q (Nat.lt_of_lt_of_le hq HWR.out))
            have HWZ : Hid (w.heap.size ≤ w2'.heap.size) := Lib.hid (Nat.le_trans HWR.out HBOW.out.size)
            have HIS := Lib.hid (ins_sorted (x := x) (L := L) (i := 0) HS.out (by rw [HLK.out]; exact hik) (fun y h0 hy => Int.not_lt.2 (HLO.out y h0 hy)) HHI.out)
            have HIP : Hid ((L.take 0 ++ [x] ++ L.drop 0).Perm (ts.take (0 + 1))) := Lib.hid ((ins_perm x L 0).trans (by rw [take_at Hx.out]; exact List.Perm.append_right _ HP.out))
            have HRL : Hid (((Tm.rows L).drop 0).length ≤ 1000) := Lib.hid (by rw [List.length_drop, Tm.rows_len, HLK.out]; omega)
            have HRN : Hid (0 + (((Tm.rows L).drop 0).length + 1) ≤ 1001) := Lib.hid (by rw [List.length_drop, Tm.rows_len, HLK.out]; omega)
            have hi0z : (0 : Int) ≤ (0 : Int) := by omega
            have hikz : (0 : Int) ≤ (0 : Int) := by omega
            obtain ⟨y0, y1, y2, y3⟩ := HXW.out.c4
            have HR1 : Hid (MemW w2' (.s 4 ((Tm.rows L).drop 0)) (.slice none 0 0)) := Lib.hid (by rw [List.drop_of_length_le (by rw [Tm.rows_len, HLK.out]; omega)]; exact .e _ _ 4 (by omega))
            have hicz : (0 : Int) ≤ (0 : Int) := by omega
            have HT1 : Hid (MemW w2' (.s 4 ((Tm.rows L).take 0)) (.slice none 0 0)) := Lib.hid (Mem.take 0 hik HOW.out.memW 0 (Nat.le_refl _) (by omega))
            go_region_held3 (fun w' => w'.cell? ⟨wo.heap.size, 0, none⟩ = some (.int .i64 x.kind) ∧ w'.cell? ⟨wo.heap.size, 1, none⟩ = some (.string x.name) ∧ w'.cell? ⟨wo.heap.size, 2, none⟩ = some (.int .i64 x.n) ∧ w'.cell? ⟨wo.heap.size, 3, none⟩ = some (.slice ax nx capx))
              ((repeat' apply And.intro) <;> (repeat (first | with_reducible assumption | with_reducible refine cell_drew ?_ | with_reducible refine cell_alloc _ ?_ | with_reducible refine cell_row_far _ ?_ (by omega) | with_reducible refine cell_below ?_ HB5.out | with_reducible refine cell_below ?_ HB6.out)))
              (first | (refine stepx_app (by rfl) (.tmp 34) (.tmp 37) (by rfl) (by rfl) (by rfl) (ins_app1 (by exact ⟨rfl, rfl, rfl, rfl⟩) rfl HR1.out HMW.out HRL.out) ?_; rintro v5 w5 ⟨g5, c5, rfl, hm5, hb5⟩; have HM5 := Lib.hid hm5; have HB5 := Lib.hid hb5; clear hm5 hb5) | (refine stepx_app (by rfl) (.tmp 32) (.tmp 38) (by rfl) (by rfl) (by rfl) (ins_app2 (W1 := w5) (base := w.heap.size) (by exact ⟨rfl, rfl, rfl, rfl⟩) (HT1.out.keep HB5.out) HM5.out (Nat.succ_pos _) HRN.out (Nat.le_trans HWZ.out HB5.out.size)) ?_; rintro v6 w6 ⟨ho6, hb6⟩; have HO6 := Lib.hid ho6; have HB6 := Lib.hid hb6; clear ho6 hb6))
            all_goals go_wp2
            all_goals go_roundw
            case rel => exact ⟨0 + 1, L.take 0 ++ [x] ++ L.drop 0, by go_num, by omega, by simp only [List.length_append, List.length_take, List.length_drop, List.length_cons, List.length_nil, HLK.out]; omega, Lib.hid (HB.out.trans ((HBOW.out.trans ((HB5.out.trans (HB6.out.mono HB5.out.size)).mono HBOW.out.size)).mono HB.out.size)), Lib.hid (by have := HO6.out; rw [show Tm.rows (L.take 0 ++ [x] ++ L.drop 0) = (Tm.rows L).take 0 ++ (x.row :: (Tm.rows L).drop 0) by simp [Tm.rows_eq]]; exact this), HIP, HIS⟩
            case measure => simp [intOf] <;> omega
          · clear e1
            by_cases hv : vc = 0
            · obtain rfl : 0 = k := by omega
              obtain rfl : 0 = vc := by omega
              have HBOW : Hid (Below wo.heap.size wo w2') := Lib.hid ((below_new wo _).trans (HBW.out.mono (Nat.le_succ _)))
              have HOW := Lib.hid (HO.out.keep HBOW.out)
              have HXW := Lib.hid (HBX.out.below HBW.out (Nat.lt_succ_self _))
              have HMW : Hid (MemW w2' (.s 4 (Tm.rows x.args)) (.slice ax nx capx)) := Lib.hid (HX.out.mono (fun q hq => Nat.lt_of_lt_of_le hq (Nat.le_trans HWR.out HBOW.out.size)) fun q hq => HBOW.out.block q (Nat.lt_of_lt_of_le hq HWR.out))
              have HWZ : Hid (w.heap.size ≤ w2'.heap.size) := Lib.hid (Nat.le_trans HWR.out HBOW.out.size)
              have HIS := Lib.hid (ins_sorted (x := x) (L := L) (i := 0) HS.out (by rw [HLK.out]; exact hik) (fun y h0 hy => Int.not_lt.2 (HLO.out y h0 hy)) HHI.out)
              have HIP : Hid ((L.take 0 ++ [x] ++ L.drop 0).Perm (ts.take (0 + 1))) := Lib.hid ((ins_perm x L 0).trans (by rw [take_at Hx.out]; exact List.Perm.append_right _ HP.out))
              have HRL : Hid (((Tm.rows L).drop 0).length ≤ 1000) := Lib.hid (by rw [List.length_drop, Tm.rows_len, HLK.out]; omega)
              have HRN : Hid (0 + (((Tm.rows L).drop 0).length + 1) ≤ 1001) := Lib.hid (by rw [List.length_drop, Tm.rows_len, HLK.out]; omega)
              have hi0z : (0 : Int) ≤ (0 : Int) := by omega
              have hikz : (0 : Int) ≤ (0 : Int) := by omega
              obtain ⟨y0, y1, y2, y3⟩ := HXW.out.c4
              have HR1 : Hid (MemW w2' (.s 4 ((Tm.rows L).drop 0)) (.slice (some ⟨gq, 0, none⟩) 0 0)) := Lib.hid (by rw [List.drop_of_length_le (by rw [Tm.rows_len, HLK.out]; omega)]; exact .e _ _ 4 (by omega))
              have hicz : (0 : Int) ≤ (0 : Int) := by omega
              have HT1 : Hid (MemW w2' (.s 4 ((Tm.rows L).take 0)) (.slice (some ⟨gq, 0, none⟩) 0 0)) := Lib.hid (Mem.take 0 hik HOW.out.memW 0 (Nat.le_refl _) (by omega))
              go_region_held3 (fun w' => w'.cell? ⟨wo.heap.size, 0, none⟩ = some (.int .i64 x.kind) ∧ w'.cell? ⟨wo.heap.size, 1, none⟩ = some (.string x.name) ∧ w'.cell? ⟨wo.heap.size, 2, none⟩ = some (.int .i64 x.n) ∧ w'.cell? ⟨wo.heap.size, 3, none⟩ = some (.slice ax nx capx))
                ((repeat' apply And.intro) <;> (repeat (first | with_reducible assumption | with_reducible refine cell_drew ?_ | with_reducible refine cell_alloc _ ?_ | with_reducible refine cell_row_far _ ?_ (by omega) | with_reducible refine cell_below ?_ HB5.out | with_reducible refine cell_below ?_ HB6.out)))
                (first | (refine stepx_app (by rfl) (.tmp 34) (.tmp 37) (by rfl) (by rfl) (by rfl) (ins_app1 (by exact ⟨rfl, rfl, rfl, rfl⟩) rfl HR1.out HMW.out HRL.out) ?_; rintro v5 w5 ⟨g5, c5, rfl, hm5, hb5⟩; have HM5 := Lib.hid hm5; have HB5 := Lib.hid hb5; clear hm5 hb5) | (refine stepx_app (by rfl) (.tmp 32) (.tmp 38) (by rfl) (by rfl) (by rfl) (ins_app2 (W1 := w5) (base := w.heap.size) (by exact ⟨rfl, rfl, rfl, rfl⟩) (HT1.out.keep HB5.out) HM5.out (Nat.succ_pos _) HRN.out (Nat.le_trans HWZ.out HB5.out.size)) ?_; rintro v6 w6 ⟨ho6, hb6⟩; have HO6 := Lib.hid ho6; have HB6 := Lib.hid hb6; clear ho6 hb6))
              all_goals go_wp2
              all_goals go_roundw
              case rel => exact ⟨0 + 1, L.take 0 ++ [x] ++ L.drop 0, by go_num, by omega, by simp only [List.length_append, List.length_take, List.length_drop, List.length_cons, List.length_nil, HLK.out]; omega, Lib.hid (HB.out.trans ((HBOW.out.trans ((HB5.out.trans (HB6.out.mono HB5.out.size)).mono HBOW.out.size)).mono HB.out.size)), Lib.hid (by have := HO6.out; rw [show Tm.rows (L.take 0 ++ [x] ++ L.drop 0) = (Tm.rows L).take 0 ++ (x.row :: (Tm.rows L).drop 0) by simp [Tm.rows_eq]]; exact this), HIP, HIS⟩
              case measure => simp [intOf] <;> omega
            · have HBOW : Hid (Below wo.heap.size wo w2') := Lib.hid ((below_new wo _).trans (HBW.out.mono (Nat.le_succ _)))
              have HOW := Lib.hid (HO.out.keep HBOW.out)
              have HXW := Lib.hid (HBX.out.below HBW.out (Nat.lt_succ_self _))
              have HMW : Hid (MemW w2' (.s 4 (Tm.rows x.args)) (.slice ax nx capx)) := Lib.hid (HX.out.mono (fun q hq => Nat.lt_of_lt_of_le hq (Nat.le_trans HWR.out HBOW.out.size)) fun q hq => HBOW.out.block q (Nat.lt_of_lt_of_le hq HWR.out))
              have HWZ : Hid (w.heap.size ≤ w2'.heap.size) := Lib.hid (Nat.le_trans HWR.out HBOW.out.size)
              have HIS := Lib.hid (ins_sorted (x := x) (L := L) (i := 0) HS.out (by rw [HLK.out]; exact hik) (fun y h0 hy => Int.not_lt.2 (HLO.out y h0 hy)) HHI.out)
              have HIP : Hid ((L.take 0 ++ [x] ++ L.drop 0).Perm (ts.take (k + 1))) := Lib.hid ((ins_perm x L 0).trans (by rw [take_at Hx.out]; exact List.Perm.append_right _ HP.out))
              have HRL : Hid (((Tm.rows L).drop 0).length ≤ 1000) := Lib.hid (by rw [List.length_drop, Tm.rows_len, HLK.out]; omega)
              have HRN : Hid (0 + (((Tm.rows L).drop 0).length + 1) ≤ 1001) := Lib.hid (by rw [List.length_drop, Tm.rows_len, HLK.out]; omega)
              have hi0z : (0 : Int) ≤ (0 : Int) := by omega
              have hikz : (0 : Int) ≤ (k : Int) := by omega
              obtain ⟨y0, y1, y2, y3⟩ := HXW.out.c4
              have HR1 : Hid (MemW w2' (.s 4 ((Tm.rows L).drop 0)) (.slice (some ⟨gq, 0, none⟩) (k - 0) (vc - 0))) := Lib.hid (HOW.out.memW)
              have hicz : (0 : Int) ≤ (vc : Int) := by omega
              have HT1 : Hid (MemW w2' (.s 4 ((Tm.rows L).take 0)) (.slice (some ⟨gq, 0, none⟩) 0 0)) := Lib.hid (Mem.take 0 hik HOW.out.memW 0 (Nat.le_refl _) (by omega))
              go_region_held3 (fun w' => w'.cell? ⟨wo.heap.size, 0, none⟩ = some (.int .i64 x.kind) ∧ w'.cell? ⟨wo.heap.size, 1, none⟩ = some (.string x.name) ∧ w'.cell? ⟨wo.heap.size, 2, none⟩ = some (.int .i64 x.n) ∧ w'.cell? ⟨wo.heap.size, 3, none⟩ = some (.slice ax nx capx))
                ((repeat' apply And.intro) <;> (repeat (first | with_reducible assumption | with_reducible refine cell_drew ?_ | with_reducible refine cell_alloc _ ?_ | with_reducible refine cell_row_far _ ?_ (by omega) | with_reducible refine cell_below ?_ HB5.out | with_reducible refine cell_below ?_ HB6.out)))
                (first | (refine stepx_app (by rfl) (.tmp 34) (.tmp 37) (by rfl) (by rfl) (by rfl) (ins_app1 (by exact ⟨rfl, rfl, rfl, rfl⟩) rfl HR1.out HMW.out HRL.out) ?_; rintro v5 w5 ⟨g5, c5, rfl, hm5, hb5⟩; have HM5 := Lib.hid hm5; have HB5 := Lib.hid hb5; clear hm5 hb5) | (refine stepx_app (by rfl) (.tmp 32) (.tmp 38) (by rfl) (by rfl) (by rfl) (ins_app2 (W1 := w5) (base := w.heap.size) (by exact ⟨rfl, rfl, rfl, rfl⟩) (HT1.out.keep HB5.out) HM5.out (Nat.succ_pos _) HRN.out (Nat.le_trans HWZ.out HB5.out.size)) ?_; rintro v6 w6 ⟨ho6, hb6⟩; have HO6 := Lib.hid ho6; have HB6 := Lib.hid hb6; clear ho6 hb6))
              all_goals go_wp2
              all_goals go_roundw
              case rel => exact ⟨k + 1, L.take 0 ++ [x] ++ L.drop 0, by go_num, by omega, by simp only [List.length_append, List.length_take, List.length_drop, List.length_cons, List.length_nil, HLK.out]; omega, Lib.hid (HB.out.trans ((HBOW.out.trans ((HB5.out.trans (HB6.out.mono HB5.out.size)).mono HBOW.out.size)).mono HB.out.size)), Lib.hid (by have := HO6.out; rw [show Tm.rows (L.take 0 ++ [x] ++ L.drop 0) = (Tm.rows L).take 0 ++ (x.row :: (Tm.rows L).drop 0) by simp [Tm.rows_eq]]; exact this), HIP, HIS⟩
              case measure => simp [intOf] <;> omega
    · obtain rfl : k = n := by omega
      have hltz : ¬ (k : Int) < (k : Int) := by omega
      obtain ⟨va, vc, rfl, hvk, hvc⟩ := HO.out.form
      go_wp2
      go_ret
      exact ⟨_, rfl, HB.out, L, by have := HP.out; rw [List.take_of_length_le (by rw [HL.out]; exact Nat.le_refl _)] at this; exact this, HS.out, HO.out⟩
end Go.Proofs.Ytppejoccljfblaa

/-
  The reference's Set, over what its Sort gives. No condition but how the terms lie, and how many there are.
-/
namespace Go.Proofs.Ytppejoccljfblaa
open Go.RowKit

theorem cT_last (y : Tm) : ∀ l : List Tm, (cT (l ++ [y])).getLast? = some y := by
  intro l
  rcases List.eq_nil_or_concat l with rfl | ⟨l', z, rfl⟩
  · rfl
  · rw [List.concat_eq_append, cT_snoc]
    split
    · rename_i h; subst h; exact cT_last y l'
    · simp
termination_by l => l.length
theorem cT_lastStep {L : List Tm} {k : Nat} {x : Tm} (h : L[k]? = some x) : cT (L.take (k + 1)) = if (cT (L.take k)).getLast? = some x then cT (L.take k) else cT (L.take k) ++ [x] := by
  rw [take_at h]
  rcases List.eq_nil_or_concat (L.take k) with e | ⟨l', z, e⟩
  · rw [e]; rfl
  · rw [e, List.concat_eq_append, cT_snoc, cT_last]
    by_cases hx : x = z
    · subst hx; simp
    · rw [if_neg hx, if_neg (fun e => hx (by injection e with e; exact e.symm))]

set_option maxRecDepth 100000 in
set_option maxHeartbeats 20000000 in
theorem set3_any {ts : List Tm} {a : Option Addr} {n cap : Nat} (w : World) (h : Tms w ts a n cap) (hn : n ≤ 1000) :
    Calls Try.prog 60 #[.slice a n cap] w fun e w' => ∃ y, e = .returned y ∧ Below w.heap.size w w' ∧ ∃ L : List Tm, L.Perm ts ∧ L.Pairwise leT ∧ MemW w' (.s 4 (Tm.rows (cT L))) y := by
  have hcap := h.len.2.1
  have hmx := h.len.2.2
  have HL := Lib.hid h.len.1
  have H := Lib.hid h
  clear h
  go_enter Try.func60, Try.ntmps60
  go_wp2_with fail
  refine (sort3_any w H.out hn).mono ?_
  rintro e w1 ⟨y, rfl, hb1, L, hp, hs, ho⟩
  obtain ⟨al, cl, rfl, hlc, hcm⟩ := ho.form
  have hLn : (Tm.rows L).length = n := by rw [Tm.rows_len, hp.length_eq, HL.out]
  have HLL : Hid (L.length = n) := Lib.hid (by rw [hp.length_eq, HL.out])
  have hm := ho.memW
  rw [hLn] at hm hlc ⊢
  have HM := Lib.hid hm
  have HB1 := Lib.hid hb1
  have HP := Lib.hid hp
  have HS := Lib.hid hs
  clear hm hb1 hp hs ho hLn
  go_wp2_with fail
  go_loopw [3, 9] (fun v vi wr => ∃ k : Nat, vi = .int .i64 k ∧ k ≤ n ∧ Hid (Below w1.heap.size w1 wr) ∧ Hid (OwnD w1.heap.size w1.heap.size 96 4 wr v (Tm.rows (cT (L.take k))))) (fun _ vi _ => n - (intOf vi).toNat)
  case atStart => exact ⟨0, rfl, Nat.zero_le _, Below.refl _ _, OwnD.nil _ _ _ _ _⟩
  case round =>
    obtain ⟨k, rfl, hk, HB, HO⟩ := hrel
    by_cases hlt : k < n
    · have hltz : (k : Int) < (n : Int) := by omega
      obtain ⟨b, o, x, ax, nx, capx, rfl, hbB, Hx, x0, x1, x2, x3, GX⟩ := tm_at (Mem.keep HM.out (Nat.le_refl _) HB.out) k hlt
      have HST0 := Lib.hid (cT_lastStep Hx.out)
      have HLN : Hid ((cT (L.take k)).length ≤ 1000) := Lib.hid (by have := cT_len (L.take k); rw [List.length_take] at this; omega)
      have HLN' := Lib.hid (cT_len (L.take k))
      have HX := Lib.hid GX
      have HWR := Lib.hid HB.out.size
      obtain ⟨C, hC⟩ : ∃ C, cT (L.take k) = C := ⟨_, rfl⟩
      rw [hC] at HO HST0 HLN
      obtain ⟨va, vc, rfl, hvk, hvc⟩ := HO.out.form
      obtain ⟨m, hm⟩ : ∃ m, C.length = m := ⟨_, rfl⟩
      rw [Tm.rows_len, hm] at HO hvk ⊢
      have HCM := Lib.hid hm
      clear GX HLN' hC hm
      have HBX := Lib.hid (Bo.new wr 96 #[.int .i64 x.kind, .string x.name, .int .i64 x.n, .slice ax nx capx])
      by_cases hm0 : m = 0
      · subst hm0
        have HST : Hid (cT (L.take (k + 1)) = C ++ [x]) := Lib.hid (by rw [HST0.out, List.eq_nil_of_length_eq_zero HCM.out]; rfl)
        clear HST0
        go_wp2
        go_quiet (fail)
        have HBQ : Hid (Below wr.heap.size wr ((wr.alloc (.cells #[.int .i64 x.kind, .string x.name, .int .i64 x.n, .slice ax nx capx] 96)).drewN nq)) := Lib.hid (below_drewN (below_new _ _) nq)
        have HBZ : Hid (Bo ((wr.alloc (.cells #[.int .i64 x.kind, .string x.name, .int .i64 x.n, .slice ax nx capx] 96)).drewN nq) wr.heap.size 96 #[.int .i64 x.kind, .string x.name, .int .i64 x.n, .slice ax nx capx]) := Lib.hid (HBX.out.keep (below_drewN (Below.refl _ _) nq))
        clear x0 x1 x2 x3 HBX
        generalize (wr.alloc (.cells #[.int .i64 x.kind, .string x.name, .int .i64 x.n, .slice ax nx capx] 96)).drewN nq = wz at HBQ HBZ ⊢
        have HBA : Hid (Below w1.heap.size w1 wz) := Lib.hid (HB.out.trans (HBQ.out.mono HB.out.size))
        have HOA := Lib.hid (HO.out.keep HBQ.out)
        have HWA : Hid (w1.heap.size ≤ wz.heap.size) := Lib.hid HBA.out.size
        have HXA := Lib.hid (HOA.out.old (Nat.le_refl _) HWA.out (Mem.keep HX.out (Nat.le_refl _) (HBQ.out.mono HWR.out)))
        obtain ⟨x0, x1, x2, x3⟩ := HBZ.out.c4
        go_wp2_with (first
          | (at_builtin
             refine wpList_append_D2 rfl _ _ rfl Try.underlying89 info_term5 rfl (by decide) rfl rfl (HOA.out.alloc _) (own_one x HOA.out HWA.out HXA.out) (by rw [Tm.rows_len]; have := HLN.out; simp only [Tm.rows, List.length_cons, List.length_nil]; omega) (by rw [Tm.rows_len]; have := HLN.out; simp only [Tm.rows, List.length_cons, List.length_nil]; omega) (by rw [World.size_alloc]; exact Nat.le_trans HWA.out (Nat.le_succ _)) ?_
             intro v' w6 ho hg _
             have HO6 := Lib.hid ho
             have HB6 : Hid (Below w1.heap.size w1 w6) := Lib.hid (grown_below (HBA.out.trans ((below_new _ _).mono HWA.out)) hg (Nat.le_refl _) (fun q hq => (HOA.out.lt q hq).1))
             clear ho hg))
        go_roundw
        case rel => exact ⟨k + 1, by go_num, by omega, HB6.out, Lib.hid (by have := HO6.out; rw [← Tm.rows_app] at this; rw [HST.out]; exact this)⟩
        case measure => simp [intOf] <;> omega
      · obtain ⟨c, rfl⟩ : ∃ c, m = c + 1 := ⟨m - 1, by omega⟩
        clear hm0
        obtain ⟨g, og, y, ay, ny, capy, rfl, hgS, Hy, z0, z1, z2, z3, GY⟩ := tm_at HO.out.mem c (by omega)
        have HLAST : Hid (C.getLast? = some y) := Lib.hid (by rw [List.getLast?_eq_getElem?, HCM.out]; exact Hy.out)
        obtain ⟨t0, t1, t2, t3⟩ := HBX.out.c4
        have HBW := Lib.hid (below_new wr (.cells #[.int .i64 x.kind, .string x.name, .int .i64 x.n, .slice ax nx capx] 96))
        have hs0 := cell_alloc (.cells #[.int .i64 x.kind, .string x.name, .int .i64 x.n, .slice ax nx capx] 96) z0
        have hs1 := cell_alloc (.cells #[.int .i64 x.kind, .string x.name, .int .i64 x.n, .slice ax nx capx] 96) z1
        have hs2 := cell_alloc (.cells #[.int .i64 x.kind, .string x.name, .int .i64 x.n, .slice ax nx capx] 96) z2
        have hs3 := cell_alloc (.cells #[.int .i64 x.kind, .string x.name, .int .i64 x.n, .slice ax nx capx] 96) z3
        have HWS : Hid (wr.heap.size < (wr.alloc (.cells #[.int .i64 x.kind, .string x.name, .int .i64 x.n, .slice ax nx capx] 96)).heap.size) := Lib.hid (by rw [World.size_alloc]; omega)
        have MX : Hid (MemW (wr.alloc (.cells #[.int .i64 x.kind, .string x.name, .int .i64 x.n, .slice ax nx capx] 96)).drew (.s 4 (Tm.rows x.args)) (.slice ax nx capx)) := Lib.hid (MemW.drew (MemW.alloc (HX.out.mono (fun q hq => Nat.lt_of_lt_of_le hq HWR.out) fun _ _ => rfl) _))
        have MY : Hid (MemW (wr.alloc (.cells #[.int .i64 x.kind, .string x.name, .int .i64 x.n, .slice ax nx capx] 96)).drew (.s 4 (Tm.rows y.args)) (.slice ay ny capy)) := Lib.hid (MemW.drew (MemW.alloc (GY.out.mono (fun q hq => hq.2) fun _ _ => rfl) _))
        have hne : ((c : Int) + 1 == 0) = false := by rw [beq_eq_false_iff_ne]; omega
        have hw1 : IntKind.i64.wrap ((c : Int) + 1 - 1) = (c : Int) := by rw [IntKind.wrap_i64]; omega
        have hw2 : IntKind.i64.wrap (c : Int) = (c : Int) := by rw [IntKind.wrap_i64]; omega
        have hcz : (c : Int) < (c : Int) + 1 := by omega
        by_cases hxy : y = x
        · have hd : (cmpT y x != 0) = false := by rw [bne_eq_false_iff_eq]; exact (cmpT_zero y x).2 hxy
          have HST : Hid (cT (L.take (k + 1)) = C) := Lib.hid (by rw [HST0.out, HLAST.out, hxy, if_pos rfl])
          clear HST0 hxy
          go_wp2
          clear x0 x1 x2 x3 z0 z1 z2 z3
          generalize wr.alloc (.cells #[.int .i64 x.kind, .string x.name, .int .i64 x.n, .slice ax nx capx] 96) = wa at *
          go_still_tail 11, (by kernel_rfl)
          change wpList _ _ _ _ _ wa.drew
          go_wp2_with fail
          refine (compare3_any y x _ ay ax ny nx capy capx MY.out MX.out).mono ?_
          rintro e w2 ⟨rfl, hb⟩
          have HB2 := Lib.hid hb
          clear hb t0 t1 t2 t3 hs0 hs1 hs2 hs3
          have HBQ : Hid (Below wr.heap.size wr w2) := Lib.hid (HBW.out.trans (((below_drew _).trans HB2.out).mono HBW.out.size))
          go_wp2_with fail
          go_roundw
          case rel => exact ⟨k + 1, by go_num, by omega, HB.out.trans (HBQ.out.mono HB.out.size), Lib.hid (by rw [HST.out]; exact HO.out.keep HBQ.out)⟩
          case measure => simp [intOf] <;> omega
        · have hd : (cmpT y x != 0) = true := by rw [bne_iff_ne]; exact fun e => hxy ((cmpT_zero y x).1 e)
          have HST : Hid (cT (L.take (k + 1)) = C ++ [x]) := Lib.hid (by rw [HST0.out, HLAST.out, if_neg (fun e => hxy (by injection e))])
          clear HST0 hxy
          go_wp2
          clear x0 x1 x2 x3 z0 z1 z2 z3
          generalize wr.alloc (.cells #[.int .i64 x.kind, .string x.name, .int .i64 x.n, .slice ax nx capx] 96) = wa at *
          go_still_tail 11, (by kernel_rfl)
          change wpList _ _ _ _ _ wa.drew
          go_wp2_with fail
          refine (compare3_any y x _ ay ax ny nx capy capx MY.out MX.out).mono ?_
          rintro e w2 ⟨rfl, hb⟩
          have HB2 := Lib.hid hb
          clear hb t0 t1 t2 t3 hs0 hs1 hs2 hs3
          have HBQ : Hid (Below wr.heap.size wr w2) := Lib.hid (HBW.out.trans (((below_drew _).trans HB2.out).mono HBW.out.size))
          have HBZ : Hid (Bo w2 wr.heap.size 96 #[.int .i64 x.kind, .string x.name, .int .i64 x.n, .slice ax nx capx]) := Lib.hid (HBX.out.below ((below_drew _).trans HB2.out) HWS.out)
          generalize w2 = wz at HBQ HBZ ⊢
          have HBA : Hid (Below w1.heap.size w1 wz) := Lib.hid (HB.out.trans (HBQ.out.mono HB.out.size))
          have HOA := Lib.hid (HO.out.keep HBQ.out)
          have HWA : Hid (w1.heap.size ≤ wz.heap.size) := Lib.hid HBA.out.size
          have HXA := Lib.hid (HOA.out.old (Nat.le_refl _) HWA.out (Mem.keep HX.out (Nat.le_refl _) (HBQ.out.mono HWR.out)))
          obtain ⟨x0, x1, x2, x3⟩ := HBZ.out.c4
          go_wp2_with (first
            | (at_builtin
               refine wpList_append_D2 rfl _ _ rfl Try.underlying89 info_term5 rfl (by decide) rfl rfl (HOA.out.alloc _) (own_one x HOA.out HWA.out HXA.out) (by rw [Tm.rows_len]; have := HLN.out; simp only [Tm.rows, List.length_cons, List.length_nil]; omega) (by rw [Tm.rows_len]; have := HLN.out; simp only [Tm.rows, List.length_cons, List.length_nil]; omega) (by rw [World.size_alloc]; exact Nat.le_trans HWA.out (Nat.le_succ _)) ?_
               intro v' w6 ho hg _
               have HO6 := Lib.hid ho
               have HB6 : Hid (Below w1.heap.size w1 w6) := Lib.hid (grown_below (HBA.out.trans ((below_new _ _).mono HWA.out)) hg (Nat.le_refl _) (fun q hq => (HOA.out.lt q hq).1))
               clear ho hg))
          go_roundw
          case rel => exact ⟨k + 1, by go_num, by omega, HB6.out, Lib.hid (by have := HO6.out; rw [← Tm.rows_app] at this; rw [HST.out]; exact this)⟩
          case measure => simp [intOf] <;> omega
    · obtain rfl : k = n := by omega
      have hltz : ¬ (k : Int) < (k : Int) := by omega
      rw [List.take_of_length_le (by rw [HLL.out]; exact Nat.le_refl _)] at HO
      obtain ⟨va, vc, rfl, hvk, hvc⟩ := HO.out.form
      go_wp2
      go_ret
      exact ⟨_, rfl, HB1.out.trans (HB.out.mono HB1.out.size), L, HP.out, HS.out, HO.out.memW⟩
end Go.Proofs.Ytppejoccljfblaa
