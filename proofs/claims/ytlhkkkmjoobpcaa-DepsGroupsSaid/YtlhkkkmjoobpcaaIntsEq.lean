/-
  The reference's Ints: whether two lists of numbers are the same. No condition but how they lie.
-/
import Derived.Test.YtlhkkkmjoobpcaaIntRows
import Derived.StillTailTactics
namespace Go.Proofs.Ytlhkkkmjoobpcaa
open Go.RowKit

set_option maxRecDepth 100000 in
set_option maxHeartbeats 2000000 in
theorem intsEq_any {l m : List Int} {n n' cap cap' : Nat} {a a' : Option Addr} (w : World) (h : MemW w (.s 1 (intRows l)) (.slice a n cap)) (h' : MemW w (.s 1 (intRows m)) (.slice a' n' cap')) :
    Calls Try.prog 9 #[.slice a n cap, .slice a' n' cap'] w fun e w' => e = .returned (.bool (decide (l = m))) ∧ Below w.heap.size w w' := by
  have hl := Mem.len h
  have hl' := Mem.len h'
  rw [intRows_len] at hl hl'
  have HL := Lib.hid hl.1
  have HL' := Lib.hid hl'.1
  have hcap := hl.2.1
  have hmx := hl.2.2
  have hcap' := hl'.2.1
  have hmx' := hl'.2.2
  have H := Lib.hid h
  have H' := Lib.hid h'
  clear hl hl' h h'
  by_cases hnn : n = n'
  · subst hnn
    go_enter Try.func9, Try.ntmps9
    go_wp2
    go_loopw [5, 13] (fun _ i wr => ∃ k : Nat, k ≤ n ∧ i = .int .i64 k ∧ Hid (Below w.heap.size w wr) ∧ Hid (∀ j, j < k → l[j]? = m[j]?)) (fun _ i _ => n - (intOf i).toNat)
    case atStart => exact ⟨0, Nat.zero_le _, rfl, Below.refl _ _, fun j hj => by omega⟩
    case round =>
      obtain ⟨k, hk, rfl, HB, Hn⟩ := hrel
      by_cases hlt : k < n
      · obtain ⟨b, o, x, rfl, _, Hx, hc⟩ := int_at (MemW.keep H.out HB.out) k hlt
        obtain ⟨b', o', y, rfl, _, Hy, hc'⟩ := int_at (MemW.keep H'.out HB.out) k hlt
        by_cases hxy : x = y
        · have e1 : (x != y) = false := by rw [bne_eq_false_iff_eq]; exact hxy
          have HN : Hid (∀ j, j < k + 1 → l[j]? = m[j]?) := fun j hj => by
            rcases Nat.lt_or_ge j k with h2 | h2
            · exact Hn.out j h2
            · obtain rfl : j = k := by omega
              rw [Hx.out, Hy.out, hxy]
          clear hxy
          go_wp2
          go_still_tail 8, (by kernel_rfl)
          change wpList _ _ _ _ _ wr.drew
          go_wp2
          go_roundw
          case rel => exact ⟨k + 1, by omega, by go_num, below_drewN HB.out 1, HN.out⟩
          case measure => simp [intOf]; omega
        · have e1 : (x != y) = true := by rw [bne_iff_ne]; exact hxy
          have HF := Lib.hid (decide_eq_false (p := l = m) (fun e => hxy (by have := Hx.out.symm.trans ((by rw [e] : l[k]? = m[k]?).trans Hy.out); exact Option.some.inj this)))
          clear hxy
          go_wp2
          go_still_tail 8, (by kernel_rfl)
          change wpList _ _ _ _ _ wr.drew
          go_wp2
          go_ret
          exact ⟨ret_bool HF.out.symm, below_drewN HB.out 1⟩
      · have HT := Lib.hid (decide_eq_true (p := l = m) (List.ext_getElem? fun j => by
          rcases Nat.lt_or_ge j k with h2 | h2
          · exact Hn.out j h2
          · rw [List.getElem?_eq_none (by rw [HL.out]; omega), List.getElem?_eq_none (by rw [HL'.out]; omega)]))
        go_wp2
        go_ret
        exact ⟨ret_bool HT.out.symm, HB.out⟩
  · have HF := Lib.hid (decide_eq_false (p := l = m) (fun e => hnn (by rw [← HL.out, ← HL'.out, e])))
    have e1 : ((n : Int) != (n' : Int)) = true := by rw [bne_iff_ne]; omega
    clear hnn
    go_enter Try.func9, Try.ntmps9
    go_wp2
    go_ret
    exact ⟨ret_bool HF.out.symm, Below.refl _ _⟩
end Go.Proofs.Ytlhkkkmjoobpcaa
