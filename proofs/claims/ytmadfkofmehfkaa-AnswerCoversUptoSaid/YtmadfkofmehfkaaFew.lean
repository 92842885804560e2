/-
  Few: whether terms are few. No condition but how they lie, and how many there are.
-/
import Derived.Test.YtmadfkofmehfkaaAll3
namespace Go.Proofs.Ytmadfkofmehfkaa
open Go.RowKit

def fewB (l : List Tm) : Bool := decide ((Tm.alls l).length ≤ 200) && decide (l.length ≤ 30)
set_option maxRecDepth 100000 in
set_option maxHeartbeats 2000000 in
theorem few_any {l : List Tm} {n cap : Nat} {a : Option Addr} (w : World) (h : MemW w (.s 4 (Tm.rows l)) (.slice a n cap)) (hs : (Tm.alls l).length ≤ 1048576) :
    Calls Try.prog 8 #[.slice a n cap] w fun e w' => e = .returned (.bool (fewB l)) ∧ Below w.heap.size w w' := by
  have hl := Tms.len h
  have HL := Lib.hid hl.1
  have hcap := hl.2.1
  have hmx := hl.2.2
  have H := Lib.hid h
  have HS := Lib.hid hs
  clear hl h hs
  go_enter Try.func8, Try.ntmps8
  go_wp2
  go_loopw [3, 8] (fun v i wr => ∃ (k m : Nat), k ≤ n ∧ i = .int .i64 k ∧ v = .int .i64 m ∧ m ≤ 200 ∧ Hid (m = (Tm.alls (l.take k)).length) ∧ Hid (Below w.heap.size w wr)) (fun _ i _ => n - (intOf i).toNat)
  case atStart => exact ⟨0, 0, Nat.zero_le _, rfl, rfl, by omega, by show 0 = _; rw [List.take_zero, Tm.alls]; rfl, Below.refl _ _⟩
  case round =>
    obtain ⟨k, m, hk, rfl, rfl, hm, HM, HB⟩ := hrel
    by_cases hlt : k < n
    · obtain ⟨b, o, x, ax, nx, capx, rfl, hbB, Hx, x0, x1, x2, x3, GX⟩ := (Tms.keep H.out HB.out).at k hlt
      have hxs : x.size ≤ 1048576 := Nat.le_trans (Tm.size_mem (mem_of_at Hx.out)) HS.out
      have SX := Lib.hid hxs
      have hxz : (Tm.rows x.all).length = x.size := by rw [Tm.rows_len]; rfl
      have HN : Hid (m + x.size = (Tm.alls (l.take (k + 1))).length) := Lib.hid (by rw [Tm.alls_at Hx.out, List.length_append, HM.out]; rfl)
      by_cases h2 : 200 < m + x.size
      · have h2' : (200 : Int) < (m : Int) + x.size := by omega
        have HF : Hid (fewB l = false) := Lib.hid (by
          have := Tm.alls_le (ts := l) (k + 1)
          rw [← HN.out] at this
          unfold fewB; rw [decide_eq_false (by omega)]; rfl)
        go_wp2_with (first
          | (go_at_call 35 ; refine (all03 SX.out (MemW.keep GX.out (below_new wr _)) (Nat.le_refl _)).mono ?_; rintro e w5 ⟨aa5, na5, ca5, rfl, hb, hm⟩; have hna := hm.len.1.symm.trans hxz; subst hna; have HB5 := Lib.hid hb; clear hb hm))
        go_ret
        exact ⟨ret_bool HF.out.symm, Below.toA HB.out HB5.out⟩
      · have h2' : (m : Int) + x.size ≤ 200 := by omega
        have h3' : ¬ (200 : Int) < (m : Int) + x.size := by omega
        go_wp2_with (first
          | (go_at_call 35 ; refine (all03 SX.out (MemW.keep GX.out (below_new wr _)) (Nat.le_refl _)).mono ?_; rintro e w5 ⟨aa5, na5, ca5, rfl, hb, hm⟩; have hna := hm.len.1.symm.trans hxz; subst hna; have HB5 := Lib.hid hb; clear hb hm))
        go_roundw
        case rel => exact ⟨k + 1, m + x.size, by omega, by go_num, by go_num, by omega, HN.out, Below.toA HB.out HB5.out⟩
        case measure => simp [intOf]; omega
    · have hkn : k = n := by omega
      have HF : Hid (fewB l = decide ((n : Int) ≤ 30)) := Lib.hid (by
        have h1 := HM.out
        rw [List.take_of_length_le (by rw [HL.out]; omega)] at h1
        unfold fewB
        rw [decide_eq_true (by omega), Bool.true_and, HL.out]
        exact decide_eq_decide.2 (by omega))
      clear hkn
      go_wp2
      all_goals
        go_ret
        refine ⟨ret_bool ?_, HB.out⟩
        first
          | exact HF.out.symm
          | (rw [HF.out]; simp; omega)
end Go.Proofs.Ytmadfkofmehfkaa
