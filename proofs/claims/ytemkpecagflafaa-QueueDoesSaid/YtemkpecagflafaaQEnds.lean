/-
  The walk of the law QueueEnds: it answers true at every input. No condition but how the slice lies.
-/
import Derived.Test.YtemkpecagflafaaQLaws
namespace Go.Proofs.Ytemkpecagflafaa
open Go.RowKit

theorem Rd.prefix {B : Nat} {w : World} {a : Option Addr} {n cap : Nat} {l l' : List Int} (h : Rd B w a n cap 1 (ints (l ++ l'))) (k : Nat) (hk : k = l.length) : Rd B w a k cap 1 (ints l) := by
  subst hk
  obtain ⟨h1, h2, h3, h4⟩ := h
  have e : ints (l ++ l') = ints l ++ ints l' := by simp [ints]
  rw [e] at h1 h4
  rw [List.length_append, ints_length, ints_length] at h1
  refine ⟨by rw [ints_length]; omega, by omega, h3, ?_⟩
  rcases h4 with h4 | ⟨b, o, ha, hb, hc⟩
  · exact .inl (by omega)
  · refine .inr ⟨b, o, ha, hb, fun j hj => ?_⟩
    rw [hc j (by rw [List.length_append]; omega), Option.some_inj]
    exact List.getElem_append_left hj

set_option maxRecDepth 100000 in
set_option maxHeartbeats 2000000 in
theorem queueEnds_any {B n cap : Nat} {a : Option Addr} {l : List Int} (x y : Int) (w : World) (h : Rd B w a n cap 1 (ints l)) (hB : B ≤ w.heap.size) :
    Calls Try.prog 3 #[.slice a n cap, .int .i64 x, .int .i64 y] w fun e w' => e = .returned (.bool true) ∧ Below w.heap.size w w' := by
  have HB0 := Lib.hid (Below.refl w.heap.size w)
  have hcap := h.2.1
  have hm := h.2.2.1
  have hL := h.intLen
  have H := Lib.hid (h.le hB)
  clear h hB
  by_cases h40 : 40 < n
  · go_enter Try.func3, Try.ntmps3
    go_wp2_with (first | (go_at_call 15; refine (awake27_any _).mono ?_; (rintro e w1 ⟨rfl, hq⟩; have HB := Lib.hid hq; clear hq)))
    go_ret
    exact ⟨rfl, HB.out⟩
  · have HT := Lib.hid (show (l ++ [y]).take (1000 : Int).toNat = l ++ [y] from List.take_of_length_le (by simp; omega))
    go_enter Try.func3, Try.ntmps3
    go_wp2_with (first | (go_at_call 15; refine (awake27_any _).mono ?_; (rintro e w1 ⟨rfl, hq⟩; have HB := Lib.hid hq; have HR := Lib.hid (H.out.mono hq); clear hq)) | (go_at_call 16; refine (of_st HB.out HR.out HB.out.size (by omega)).mono ?_; (rintro e w1 ⟨rfl, hq⟩; have HQ := Lib.hid hq; clear hq)) | (go_at_call 17; refine (back_st _ HQ.out (by omega)).mono ?_; (rintro e w2 ⟨rfl, hq⟩; replace HQ := Lib.hid hq; clear hq)) | (go_at_call 18; refine (push_st _ HQ.out (by simp; omega)).mono ?_; (rintro e w2 ⟨rfl, hq⟩; replace HQ := Lib.hid hq; clear hq)) | (go_at_call 19; refine (pop_st (xs := l ++ [y]) x HQ.out (by simp; omega)).mono ?_; (rintro e w2 ⟨rfl, hq⟩; replace HQ := Lib.hid hq; clear hq)) | (go_at_call 20; refine (all_st _ HQ.out (by simp; omega)).mono ?_; (rintro e w2 ⟨⟨a2, n2, cap2, rfl, HG, hn2⟩, hq⟩; replace HQ := Lib.hid hq; clear hq; rw [HT.out] at HG hn2; have hn3 : n2 = n + 1 := (by rw [hn2, List.length_append, hL]; rfl); clear hn2; subst hn3; have hcap2 := HG.out.2.1; have hm2 := HG.out.2.2.1; obtain ⟨b2, o2, rfl, hl2, hc2⟩ := HG.out.intAt n (by omega); have hy : (l ++ [y])[n] = y := (by subst hL; simp); rw [hy] at hc2; clear hy)) | (go_at_call 21; refine (ints_any _ (HG.out.prefix _ hL.symm) (H.out.mono HQ.out.1) (Nat.le_refl _) HQ.out.size).mono ?_; (rintro e w3 ⟨rfl, hq⟩; have HE := Lib.hid (HQ.out.1.trans (hq.mono HQ.out.size)); clear hq)))
    go_ret
    exact ⟨ret_bool (by simp), HE.out⟩
end Go.Proofs.Ytemkpecagflafaa
