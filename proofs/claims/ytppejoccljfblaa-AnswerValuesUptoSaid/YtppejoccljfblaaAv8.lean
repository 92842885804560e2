/-
  SameTerms. No condition but how the arguments lie.
-/
import Derived.Test.YtppejoccljfblaaAv7
namespace Go.Proofs.Ytppejoccljfblaa
open Go.RowKit
attribute [local go_sem] toList_beq
noncomputable instance tmDec3 : DecidableEq Tm := fun _ _ => Classical.propDecidable _

set_option maxRecDepth 100000 in
set_option maxHeartbeats 2000000 in
theorem sameTerms_any {l m : List Tm} {n n' cap cap' : Nat} {a a' : Option Addr} (w : World) (h : MemW w (.s 4 (Tm.rows l)) (.slice a n cap)) (h' : MemW w (.s 4 (Tm.rows m)) (.slice a' n' cap')) :
    Calls Try.prog 56 #[.slice a n cap, .slice a' n' cap'] w fun e w' => e = .returned (.bool (decide (l = m))) ∧ Below w.heap.size w w' := by
  have hl := Tms.len h
  have hl' := Tms.len h'
  have HL := Lib.hid hl.1
  have HL' := Lib.hid hl'.1
  have hcap := hl.2.1
  have hmx := hl.2.2
  have hcap' := hl'.2.1
  have hmx' := hl'.2.2
  have H := Lib.hid h
  have H' := Lib.hid h'
  clear hl hl' h h'
  by_cases ha : n = n'
  · subst ha
    go_enter Try.func56, Try.ntmps56
    go_wp2
    go_loopw [5, 13] (fun _ i wr => ∃ k : Nat, k ≤ n ∧ i = .int .i64 k ∧ Hid (Below w.heap.size w wr) ∧ Hid (∀ j, j < k → l[j]? = m[j]?)) (fun _ i _ => n - (intOf i).toNat)
    case atStart => exact ⟨0, Nat.zero_le _, rfl, Below.refl _ _, fun j h0 => by omega⟩
    case round =>
      obtain ⟨k, hk, rfl, HB, Hn⟩ := hrel
      by_cases hlt : k < n
      · obtain ⟨b, o, x, ax, nx, capx, rfl, hbB, Hx, x0, x1, x2, x3, GX⟩ := (Tms.keep H.out HB.out).at k hlt
        obtain ⟨b', o', y, ay, ny, capy, rfl, hbB', Hy, y0, y1, y2, y3, GY⟩ := (Tms.keep H'.out HB.out).at k hlt
        by_cases hxy : x = y
        · have HD := Lib.hid ((cmpT_zero x y).2 hxy)
          have HN : Hid (∀ j, j < k + 1 → l[j]? = m[j]?) := fun j hj => by
            rcases Nat.lt_or_ge j k with h2 | h2
            · exact Hn.out j h2
            · obtain rfl : j = k := by omega
              rw [Hx.out, Hy.out, hxy]
          clear hxy
          go_wp2
          go_still_tail 8, (by kernel_rfl)
          change wpList _ _ _ _ _ wr.drew
          go_wp2_with (first | (go_at_call 109 ; refine (compare3_any x y _ ax ay nx ny capx capy (MemW.drew GX.out) (MemW.drew GY.out)).mono ?_; rintro e w2 ⟨rfl, hb⟩; rw [HD.out]; have HB2 := Lib.hid hb; clear hb))
          go_roundw
          case rel => exact ⟨k + 1, by omega, by go_num, Below.toD HB.out HB2.out, HN.out⟩
          case measure => simp [intOf]; omega
        · have hne : (cmpT x y != 0) = true := by rw [bne_iff_ne]; exact fun e => hxy ((cmpT_zero x y).1 e)
          have HF := Lib.hid (decide_eq_false (p := l = m) (fun e => hxy (by have := Hx.out.symm.trans ((by rw [e] : l[k]? = m[k]?).trans Hy.out); exact Option.some.inj this)))
          clear hxy
          go_wp2
          go_still_tail 8, (by kernel_rfl)
          change wpList _ _ _ _ _ wr.drew
          go_wp2_with (first | (go_at_call 109 ; refine (compare3_any x y _ ax ay nx ny capx capy (MemW.drew GX.out) (MemW.drew GY.out)).mono ?_; rintro e w2 ⟨rfl, hb⟩;  have HB2 := Lib.hid hb; clear hb))
          go_ret
          exact ⟨ret_bool HF.out.symm, Below.toD HB.out HB2.out⟩
      · have HT := Lib.hid (decide_eq_true (p := l = m) (List.ext_getElem? fun j => by
          rcases Nat.lt_or_ge j k with h2 | h2
          · exact Hn.out j h2
          · rw [List.getElem?_eq_none (by rw [HL.out]; omega), List.getElem?_eq_none (by rw [HL'.out]; omega)]))
        go_wp2
        go_ret
        exact ⟨ret_bool HT.out.symm, HB.out⟩
  · have HF := Lib.hid (decide_eq_false (p := l = m) (fun e => ha (by rw [← HL.out, ← HL'.out, e])))
    have e4 : ((n : Int) != (n' : Int)) = true := by rw [bne_iff_ne]; omega
    clear ha
    go_enter Try.func56, Try.ntmps56
    go_wp2
    go_ret
    exact ⟨ret_bool HF.out.symm, Below.refl _ _⟩
end Go.Proofs.Ytppejoccljfblaa
