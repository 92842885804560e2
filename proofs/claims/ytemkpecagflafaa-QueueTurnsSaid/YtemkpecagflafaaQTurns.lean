/-
  The walk of the law QueueTurns: it answers true at every input. No condition but how the slice lies.
-/
import Derived.Test.YtemkpecagflafaaQEnds
namespace Go.Proofs.Ytemkpecagflafaa
open Go.RowKit

def rot (l : List Int) (k : Nat) : List Int := l.drop k ++ l.take k
theorem rot_length (l : List Int) (k : Nat) : (rot l k).length = l.length := by unfold rot; simp; omega
theorem rot_zero (l : List Int) : rot l 0 = l := by simp [rot]
theorem rot_all (l : List Int) (k : Nat) (h : k = l.length) : rot l k = l := by subst h; simp [rot]
theorem rot_head (l : List Int) (k : Nat) (h : k < l.length) : rot l k = l[k] :: (l.drop (k + 1) ++ l.take k) := by
  unfold rot; rw [List.drop_eq_getElem_cons h]; rfl
theorem rot_next (l : List Int) (k : Nat) (h : k < l.length) : (l.drop (k + 1) ++ l.take k) ++ [l[k]] = rot l (k + 1) := by
  unfold rot; rw [List.append_assoc, take_snoc_int]
theorem rot_first (l : List Int) (k r : Nat) (h : k < l.length) (hr : r < l.length) (hk : (k + 1) % l.length = r) : (rot l (k + 1)).take 1 = [l[r]] := by
  subst hk
  by_cases h1 : k + 1 < l.length
  · rw [rot_head l (k + 1) h1]
    simp [Nat.mod_eq_of_lt h1]
  · have h2 : k + 1 = l.length := by omega
    rw [rot_all l (k + 1) h2]
    cases l with
    | nil => simp at h
    | cons x t => simp [h2]

set_option maxRecDepth 100000 in
set_option maxHeartbeats 2000000 in
theorem queueTurns_any {B n cap : Nat} {a : Option Addr} {l : List Int} (y : Int) (w : World) (h : Rd B w a n cap 1 (ints l)) (hB : B ≤ w.heap.size) :
    Calls Try.prog 5 #[.slice a n cap, .int .i64 y] w fun e w' => e = .returned (.bool true) ∧ Below w.heap.size w w' := by
  have HB0 := Lib.hid (Below.refl w.heap.size w)
  have hcap := h.2.1
  have hm := h.2.2.1
  have hL := h.intLen
  have H := Lib.hid (h.le hB)
  clear h hB
  by_cases h40 : 40 < n
  · go_enter Try.func5, Try.ntmps5
    go_wp2_with (first | (go_at_call 15; refine (awake27_any _).mono ?_; (rintro e w1 ⟨rfl, hq⟩; have HB := Lib.hid hq; clear hq)))
    go_ret
    exact ⟨rfl, HB.out⟩
  · go_enter Try.func5, Try.ntmps5
    go_wp2_with (first | (go_at_call 15; refine (awake27_any _).mono ?_; (rintro e wa ⟨rfl, hq⟩; have HB := Lib.hid hq; have HR := Lib.hid (H.out.mono hq); clear hq)) | (go_at_call 16; refine (of_st HB.out HR.out HB.out.size (by omega)).mono ?_; (rintro e w1 ⟨rfl, hq⟩; have HQ := Lib.hid hq; clear hq)))
    go_loopw [6, 7, 20] (fun _ _ i wr => ∃ k : Nat, k ≤ n ∧ i = .int .i64 k ∧ Hid (QB w.heap.size w wr wa.heap.size (rot l k))) (fun _ _ i _ => n - (intOf i).toNat)
    case atStart => exact ⟨0, Nat.zero_le _, rfl, by rw [rot_zero]; exact HQ.out⟩
    case round =>
      obtain ⟨k, hk, rfl, HQ1⟩ := hrel
      by_cases hlt : k < n
      · have hkl : k < l.length := by omega
        obtain ⟨r, hr, hrn, hrd⟩ : ∃ r : Nat, ((k : Int) + 1) % n = r ∧ r < n ∧ (k + 1) % n = r := ⟨(k + 1) % n, by simp, Nat.mod_lt _ (by omega), rfl⟩
        have hq1 := HQ1.out
        rw [rot_head l k hkl] at hq1
        have HQ2 := Lib.hid hq1
        have HN := Lib.hid (rot_next l k hkl)
        obtain ⟨b, o, rfl, hl, hc⟩ := H.out.intAt r hrn
        have HF := Lib.hid (rot_first l k r hkl hl (by rw [hL]; exact hrd))
        have HC := Lib.hid hc
        have HR1 := Lib.hid hr
        have hlen := rot_length l (k + 1)
        have hri : (r : Int) < n := by omega
        have hri0 : (0 : Int) ≤ (r : Int) := by omega
        have h1n : n ≤ 40 := by omega
        have hn0 : (0 : Int) < n := by omega
        have hn1 : ¬ n = 0 := by omega
        have htm : ((k : Int) + 1).tmod n = r := by rw [Int.tmod_eq_emod_of_nonneg (by omega)]; exact HR1.out
        have hk1 : (k : Int) + 1 ≤ 40 := by omega
        have hwr : IntKind.i64.wrap ((k : Int) + 1) = (k : Int) + 1 := by rw [IntKind.wrap_i64]; omega
        clear hq1 hr hrd hc
        generalize l[r] = x at *
        generalize l[k] = z at *
        go_wp2_with (first | (go_at_call 22; refine (turn_st _ HQ2.out (by simp; omega)).mono ?_; (rintro e w2 ⟨rfl, hq⟩; rw [HN.out] at hq; have HQ3 := Lib.hid hq; clear hq)) | (go_at_call 23; refine (len_st HQ3.out).mono ?_; (rintro e w2 ⟨rfl, rfl⟩; rw [hlen, hL])) | (go_at_call 20; refine (all_st _ HQ3.out (by omega)).mono ?_; (rintro e w2 ⟨⟨a2, n2, cap2, rfl, HG, hn2⟩, hq⟩; have HQ4 := Lib.hid hq; clear hq; rw [show (1 : Int).toNat = 1 from rfl, HF.out] at HG hn2; obtain rfl : n2 = 1 := hn2; have hcap2 := HG.out.2.1; have hm2 := HG.out.2.2.1; obtain ⟨b2, o2, rfl, hl2, hc2⟩ := HG.out.intAt 0 (by omega); have hc2' : w2.cell? ⟨b2, o2, none⟩ = some (Value.int .i64 x) := hc2; clear hc2; have hc3 := (HQ4.out.1.cell (p := ⟨b, o + r, none⟩) (by have := World.block_lt_of_cell? w _ HC.out; exact this)).trans HC.out)))
        go_quiet (fail)
        go_wp2
        go_roundw
        case rel => exact ⟨k + 1, by omega, by go_num, HQ4.out.below (below_drewN (Below.refl _ _) _)⟩
        case measure => simp [intOf]; omega
      · have HQ2 := HQ1.out
        obtain rfl : k = n := by omega
        rw [rot_all l k hL.symm] at HQ2
        have HQ3 := Lib.hid HQ2
        have HT := Lib.hid (show l.take (1000 : Int).toNat = l from List.take_of_length_le (by simp; omega))
        clear HQ2 HQ1 hk hlt
        go_wp2_with (first | (go_at_call 18; refine (qPush_nil _ _).mono ?_; (rintro e w' ⟨rfl, rfl⟩)) | (go_at_call 17; refine (qBack_nil _ _).mono ?_; (rintro e w' ⟨rfl, rfl⟩)) | (go_at_call 19; refine (qPop_nil _).mono ?_; (rintro e w' ⟨rfl, rfl⟩)) | (go_at_call 22; refine (qTurn_nil _).mono ?_; (rintro e w' ⟨rfl, rfl⟩)) | (go_at_call 23; refine (qLen_nil _).mono ?_; (rintro e w' ⟨rfl, rfl⟩)) | (go_at_call 20; refine (all_st _ HQ3.out (by omega)).mono ?_; (rintro e w2 ⟨⟨a2, n2, cap2, rfl, HG, hn2⟩, hq⟩; have HQ4 := Lib.hid hq; clear hq HQ3; rw [HT.out] at HG hn2; rw [hL] at hn2; subst hn2)) | (go_at_call 20; refine (lawAll_nil _).mono ?_; (rintro e w4 ⟨hb4, a4, n4, cap4, rfl, hR4⟩; have hn4 := hR4.intLen; simp at hn4; subst hn4; have HE := Lib.hid (HE0.out.trans (hb4.mono HE0.out.size)); clear hb4 hR4)) | (go_at_call 21; refine (ints_any _ HG.out (H.out.mono HQ4.out.1) (Nat.le_refl _) HQ4.out.size).mono ?_; (rintro e w3 ⟨rfl, hq⟩; have HE0 := Lib.hid (HQ4.out.1.trans (hq.mono HQ4.out.size)); clear hq)))
        go_ret
        exact ⟨ret_bool (by simp), HE.out⟩
end Go.Proofs.Ytemkpecagflafaa
