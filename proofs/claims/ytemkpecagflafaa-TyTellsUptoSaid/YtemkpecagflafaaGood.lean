/-
  Good: whether a type is one as the document has them, and small. No condition but how it lies, and how great it is.
-/
import Derived.Test.YtemkpecagflafaaAll
import Derived.Test.YtemkpecagflafaaSame
import Derived.Test.YtemkpecagflafaaOpenTm
namespace Go.Proofs.Ytemkpecagflafaa
open Go.RowKit
attribute [local go_sem] toList_beq neq_toList empty_beq

def goodX (x : Tm) : Bool :=
  if x.kind = 1 then decide (x.args.length = 0) && x.name == ⟨#[]⟩ && decide (-100000 ≤ x.n) && decide (x.n ≤ 100000)
  else if x.kind = 2 then x.n == 0 else if x.kind = 3 then decide (x.args.length = 2) && x.name == ⟨#[]⟩ && x.n == 0 else false
def goodB (t : Tm) : Bool := decide (t.size ≤ 60) && t.all.all goodX
theorem all_take_tm {p : Tm → Bool} {l : List Tm} {k : Nat} {x : Tm} (h : l[k]? = some x) (h1 : (l.take k).all p = true) (h2 : p x = true) : (l.take (k + 1)).all p = true := by
  rw [take_at h, List.all_append, h1]; simp [h2]
theorem all_not {p : Tm → Bool} {l : List Tm} {k : Nat} {x : Tm} (h : l[k]? = some x) (h2 : p x = false) : l.all p = false := by
  rw [List.all_eq_false]; exact ⟨x, mem_of_at h, by rw [h2]; decide⟩

set_option maxRecDepth 100000 in
set_option maxHeartbeats 2000000 in
theorem good_any {t : Tm} {n cap : Nat} {a : Option Addr} (w : World) (h : MemW w (.s 4 (Tm.rows t.args)) (.slice a n cap)) (hs : t.size ≤ 1048576) :
    Calls Try.prog 57 #[.agg #[.int .i64 t.kind, .string t.name, .int .i64 t.n, .slice a n cap]] w fun e w' => e = .returned (.bool (goodB t)) ∧ Below w.heap.size w w' := by
  have HA := Lib.hid (all09 (B := w.heap.size) hs (Mem.keep h (Nat.le_refl _) (below_new w (.cells #[.int .i64 t.kind, .string t.name, .int .i64 t.n, .slice a n cap] 52))) (by rw [World.size_alloc]; omega))
  have HS := Lib.hid hs
  clear h hs
  by_cases h60 : t.size ≤ 60
  · have HG : Hid (goodB t = t.all.all goodX) := Lib.hid (by unfold goodB; rw [decide_eq_true h60, Bool.true_and])
    have H60 := Lib.hid h60
    clear h60
    go_enter Try.func57, Try.ntmps57
    go_wp2_with (first
      | (go_at_call 40
         refine HA.out.mono ?_
         rintro e w5 ⟨aa, na, ca, rfl, hb, hm⟩
         have hnl := hm.len
         rw [Tm.rows_len] at hnl
         have HNL := Lib.hid hnl.1
         have hna : na ≤ 60 := by have := H60.out; unfold Tm.size at this; omega
         have hca := hnl.2.1
         have hcm := hnl.2.2
         have HB5 : Hid (Below w.heap.size w w5) := Lib.hid (Below.toA (Below.refl _ _) hb)
         have HM5 : Hid (MemW w5 (.s 4 (Tm.rows t.all)) (.slice aa na ca)) := Lib.hid (hm.mono (fun _ hb => hb.2) fun _ _ => rfl)
         clear hb hm hnl))
    go_loopw [13] (fun i wr => ∃ k : Nat, k ≤ na ∧ i = .int .i64 k ∧ Hid (Below w5.heap.size w5 wr) ∧ Hid ((t.all.take k).all goodX = true)) (fun i _ => na - (intOf i).toNat)
    case atStart => exact ⟨0, Nat.zero_le _, rfl, Below.refl _ _, by rw [List.take_zero]; rfl⟩
    case round =>
      obtain ⟨k, hk, rfl, HB, HC⟩ := hrel
      by_cases hlt : k < na
      · obtain ⟨b, o, x, ax, nx, capx, rfl, hbB, Hx, x0, x1, x2, x3, GX⟩ := (Tms.keep HM5.out HB.out).at k hlt
        have hnx := (Tms.len GX.out).1
        have HYES : Hid (goodX x = true → (t.all.take (k + 1)).all goodX = true) := Lib.hid fun h => all_take_tm Hx.out HC.out h
        have HNO : Hid (goodX x = false → goodB t = false) := Lib.hid fun h => by rw [HG.out]; exact all_not Hx.out h
        have HU : Hid (goodX x = if x.kind = 1 then decide (nx = 0) && x.name == ⟨#[]⟩ && decide (-100000 ≤ x.n) && decide (x.n ≤ 100000)
            else if x.kind = 2 then x.n == 0 else if x.kind = 3 then decide (nx = 2) && x.name == ⟨#[]⟩ && x.n == 0 else false) := Lib.hid (by unfold goodX; rw [hnx])
        clear hnx
        by_cases k1 : x.kind = 1
        · have e1 : (x.kind == 1) = true := by rw [beq_iff_eq]; exact k1
          by_cases h1 : nx = 0
          · subst h1
            by_cases h2 : x.name = ⟨#[]⟩
            · have e2 : (x.name == ⟨#[]⟩) = true := by rw [beq_iff_eq]; exact h2
              by_cases h3 : -100000 ≤ x.n
              · by_cases h4 : x.n ≤ 100000
                · have f3 : ¬ x.n < -100000 := by omega
                  have f4 : ¬ 100000 < x.n := by omega
                  have HF := Lib.hid (HYES.out (by rw [HU.out]; rw [if_pos k1]; simp [e2, h3, h4]))
                  clear k1 h2 h3 h4
                  go_wp2
                  go_roundw
                  case rel => exact ⟨k + 1, by omega, by go_num, HB.out.alloc HB.out.size _, HF.out⟩
                  case measure => simp [intOf]; omega
                · have f3 : ¬ x.n < -100000 := by omega
                  have f4 : 100000 < x.n := by omega
                  have HF := Lib.hid (HNO.out (by rw [HU.out]; rw [if_pos k1]; simp [h4]))
                  clear k1 h2 h3 h4
                  go_wp2
                  go_ret
                  exact ⟨ret_bool HF.out.symm, (HB5.out.trans (HB.out.mono HB5.out.size)).alloc (Nat.le_trans HB5.out.size HB.out.size) _⟩
              · have f3 : x.n < -100000 := by omega
                have HF := Lib.hid (HNO.out (by rw [HU.out]; rw [if_pos k1]; simp [h3]))
                clear k1 h2 h3
                go_wp2
                go_ret
                exact ⟨ret_bool HF.out.symm, (HB5.out.trans (HB.out.mono HB5.out.size)).alloc (Nat.le_trans HB5.out.size HB.out.size) _⟩
            · have e2 : (x.name == ⟨#[]⟩) = false := by rw [beq_eq_false_iff_ne]; exact h2
              have HF := Lib.hid (HNO.out (by rw [HU.out]; rw [if_pos k1]; simp [e2]))
              clear k1 h2
              go_wp2
              go_ret
              exact ⟨ret_bool HF.out.symm, (HB5.out.trans (HB.out.mono HB5.out.size)).alloc (Nat.le_trans HB5.out.size HB.out.size) _⟩
          · have f1 : (0 : Int) < (nx : Int) := by omega
            have f1' : 0 < nx := by omega
            have HF := Lib.hid (HNO.out (by rw [HU.out]; rw [if_pos k1]; simp [h1]))
            clear k1
            go_wp2
            go_ret
            exact ⟨ret_bool HF.out.symm, (HB5.out.trans (HB.out.mono HB5.out.size)).alloc (Nat.le_trans HB5.out.size HB.out.size) _⟩
        have e1 : (x.kind == 1) = false := by rw [beq_eq_false_iff_ne]; exact k1
        by_cases k2 : x.kind = 2
        · have e2 : (x.kind == 2) = true := by rw [beq_iff_eq]; exact k2
          by_cases h1 : x.n = 0
          · have e3 : (x.n != 0) = false := by rw [bne_eq_false_iff_eq]; exact h1
            have HF := Lib.hid (HYES.out (by rw [HU.out]; rw [if_neg k1, if_pos k2]; rw [beq_iff_eq]; exact h1))
            clear k1 k2 h1
            go_wp2
            go_roundw
            case rel => exact ⟨k + 1, by omega, by go_num, HB.out.alloc HB.out.size _, HF.out⟩
            case measure => simp [intOf]; omega
          · have e3 : (x.n != 0) = true := by rw [bne_iff_ne]; exact h1
            have HF := Lib.hid (HNO.out (by rw [HU.out]; rw [if_neg k1, if_pos k2]; rw [beq_eq_false_iff_ne]; exact h1))
            clear k1 k2 h1
            go_wp2
            go_ret
            exact ⟨ret_bool HF.out.symm, (HB5.out.trans (HB.out.mono HB5.out.size)).alloc (Nat.le_trans HB5.out.size HB.out.size) _⟩
        have e2 : (x.kind == 2) = false := by rw [beq_eq_false_iff_ne]; exact k2
        by_cases k3 : x.kind = 3
        · have e3 : (x.kind == 3) = true := by rw [beq_iff_eq]; exact k3
          by_cases h1 : nx = 2
          · subst h1
            by_cases h2 : x.name = ⟨#[]⟩
            · have e4 : (x.name == ⟨#[]⟩) = true := by rw [beq_iff_eq]; exact h2
              by_cases h3 : x.n = 0
              · have e5 : (x.n != 0) = false := by rw [bne_eq_false_iff_eq]; exact h3
                have HF := Lib.hid (HYES.out (by rw [HU.out]; rw [if_neg k1, if_neg k2, if_pos k3]; simp [e4, h3]))
                clear k1 k2 k3 h2 h3
                go_wp2
                go_roundw
                case rel => exact ⟨k + 1, by omega, by go_num, HB.out.alloc HB.out.size _, HF.out⟩
                case measure => simp [intOf]; omega
              · have e5 : (x.n != 0) = true := by rw [bne_iff_ne]; exact h3
                have HF := Lib.hid (HNO.out (by rw [HU.out]; rw [if_neg k1, if_neg k2, if_pos k3]; simp [h3]))
                clear k1 k2 k3 h2 h3
                go_wp2
                go_ret
                exact ⟨ret_bool HF.out.symm, (HB5.out.trans (HB.out.mono HB5.out.size)).alloc (Nat.le_trans HB5.out.size HB.out.size) _⟩
            · have e4 : (x.name == ⟨#[]⟩) = false := by rw [beq_eq_false_iff_ne]; exact h2
              have HF := Lib.hid (HNO.out (by rw [HU.out]; rw [if_neg k1, if_neg k2, if_pos k3]; simp [e4]))
              clear k1 k2 k3 h2
              go_wp2
              go_ret
              exact ⟨ret_bool HF.out.symm, (HB5.out.trans (HB.out.mono HB5.out.size)).alloc (Nat.le_trans HB5.out.size HB.out.size) _⟩
          · have f4 : ((nx : Int) != 2) = true := by rw [bne_iff_ne]; omega
            have HF := Lib.hid (HNO.out (by rw [HU.out]; rw [if_neg k1, if_neg k2, if_pos k3]; simp [h1]))
            clear k1 k2 k3
            go_wp2
            go_ret
            exact ⟨ret_bool HF.out.symm, (HB5.out.trans (HB.out.mono HB5.out.size)).alloc (Nat.le_trans HB5.out.size HB.out.size) _⟩
        have e3 : (x.kind == 3) = false := by rw [beq_eq_false_iff_ne]; exact k3
        have HF := Lib.hid (HNO.out (by rw [HU.out]; rw [if_neg k1, if_neg k2, if_neg k3]))
        clear k1 k2 k3
        go_wp2
        go_ret
        exact ⟨ret_bool HF.out.symm, (HB5.out.trans (HB.out.mono HB5.out.size)).alloc (Nat.le_trans HB5.out.size HB.out.size) _⟩
      · have HT : Hid (goodB t = true) := Lib.hid (by
          have h1 := HC.out
          rw [List.take_of_length_le (by rw [HNL.out]; omega)] at h1
          rw [HG.out]; exact h1)
        go_wp2
        go_ret
        exact ⟨ret_bool HT.out.symm, HB5.out.trans (HB.out.mono HB5.out.size)⟩
  · have HG : Hid (goodB t = false) := Lib.hid (by unfold goodB; rw [decide_eq_false h60, Bool.false_and])
    go_enter Try.func57, Try.ntmps57
    go_wp2_with (first
      | (go_at_call 40
         refine HA.out.mono ?_
         rintro e w5 ⟨aa, na, ca, rfl, hb, hm⟩
         have hnl := hm.len
         rw [Tm.rows_len] at hnl
         have h60' : (60 : Int) < (na : Int) := by have h1 := hnl.1; unfold Tm.size at h60; omega
         have HB5 : Hid (Below w.heap.size w w5) := Lib.hid (Below.toA (Below.refl _ _) hb)
         clear hb hm hnl))
    go_ret
    exact ⟨ret_bool HG.out.symm, HB5.out⟩
end Go.Proofs.Ytemkpecagflafaa
