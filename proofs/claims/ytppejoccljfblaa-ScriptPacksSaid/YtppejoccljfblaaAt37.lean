/-
  whimbrellaw37.at, and the plain law of what Pack lays and Raw reads.
-/
import Derived.Test.YtppejoccljfblaaPack
namespace Go.Proofs.Ytppejoccljfblaa
open Go.RowKit

set_option maxRecDepth 100000 in
set_option maxHeartbeats 2000000 in
theorem at37_any {a : Option Addr} {n cap : Nat} {l : List UInt8} (w : World) (j : Nat) (h : Rd w.heap.size w a n cap 1 (u8s l)) (hj : j ≤ 1000) :
    Calls Try.prog 25 #[.slice a n cap, .int .i64 j] w fun e w' => e = .returned (.int .i64 (l.getD j 0).toNat) ∧ w = w' := by
  have hl := h.u8Len
  have hcap := h.2.1
  have hcm := h.2.2.1
  by_cases hlt : j < n
  · obtain ⟨b, o, rfl, hc⟩ : ∃ b o, a = some ⟨b, o, none⟩ ∧ w.cell? ⟨b, o + j, none⟩ = some (.int .u8 (l.getD j 0).toNat) := by
      rcases h.2.2.2 with h4 | ⟨b, o, ha, _, hc⟩
      · omega
      · refine ⟨b, o, ha, ?_⟩
        rw [hc j (by rw [u8s_length]; omega), u8s_get]
        simp only [List.getD_eq_getElem?_getD]; rw [List.getElem?_eq_getElem (by omega)]; rfl
    have hlt8 : (l.getD j 0).toNat < 256 := UInt8.toNat_lt _
    obtain ⟨x, hx⟩ : ∃ x, (l.getD j 0).toNat = x := ⟨_, rfl⟩
    rw [hx] at hc hlt8 ⊢
    clear h hx hl
    go_enter Try.func25, Try.ntmps25
    go_wp2
    go_ret
    exact ⟨rfl, rfl⟩
  · have hx : (l.getD j 0).toNat = 0 := by simp only [List.getD_eq_getElem?_getD]; rw [List.getElem?_eq_none (by omega)]; rfl
    rw [hx]
    clear h hx hl
    go_enter Try.func25, Try.ntmps25
    go_wp2
    go_ret
    exact ⟨rfl, rfl⟩
theorem at37_int {a : Option Addr} {n cap : Nat} {l : List UInt8} {b : Nat → Nat} (w : World) (j : Int) (h : Rd w.heap.size w a n cap 1 (u8s l)) (hb : ∀ i, (l.getD i 0).toNat = b i) (hj : 0 ≤ j ∧ j ≤ 1000) :
    Calls Try.prog 25 #[.slice a n cap, .int .i64 j] w fun e w' => e = .returned (.int .i64 (b j.toNat)) ∧ w = w' := by
  obtain ⟨k, rfl⟩ : ∃ k : Nat, j = (k : Int) := ⟨j.toNat, by omega⟩
  rw [Int.toNat_natCast, ← hb]
  exact at37_any w k h (by omega)
theorem getD_drop (l : List UInt8) (i j : Nat) : (l.drop i).getD j 0 = l.getD (i + j) 0 := by
  simp only [List.getD_eq_getElem?_getD, List.getElem?_drop]
theorem numV_three (l : List UInt8) (i : Nat) : (numV (l.drop i) 3 : Int) = 65536 * ((l.getD i 0).toNat : Int) + 256 * ((l.getD (i + 1) 0).toNat : Int) + ((l.getD (i + 2) 0).toNat : Int) := by
  simp only [numV, getD_drop, Nat.add_zero, Nat.zero_mul, Nat.zero_add]; omega
theorem numV_two (l : List UInt8) (i : Nat) : (numV (l.drop i) 2 : Int) = 256 * ((l.getD i 0).toNat : Int) + ((l.getD (i + 1) 0).toNat : Int) := by
  simp only [numV, getD_drop, Nat.add_zero, Nat.zero_mul, Nat.zero_add]; omega
theorem headD_getD (l : List UInt8) : l.headD 0 = l.getD 0 0 := by cases l <;> rfl
theorem fitsB_nat {n : Int} {k : Nat} (h : fitsB n k = true) : n.toNat < 256 ^ k ∧ (n.toNat : Int) = n := by
  simp only [fitsB, decide_eq_true_eq] at h
  refine ⟨?_, by omega⟩
  have h2 := h.2
  have : ((256 ^ k : Nat) : Int) = (256 : Int) ^ k := by rw [Int.natCast_pow]; rfl
  omega
theorem drop_laid (n k : Nat) (r : List UInt8) : (laidL n k ++ r).drop k = r := by
  rw [List.drop_append_of_le_length (by rw [laidL_length]; exact Nat.le_refl _), List.drop_eq_nil_of_le (by rw [laidL_length]; exact Nat.le_refl _), List.nil_append]
theorem pack_raw {s g : ByteArray} {a0 a1 a2 a3 : Int} (h : fitsP a0 a1 a2 a3 = true) (hs : s.size ≤ 20000) :
    let L := packL s g a0 a1 a2 a3
    ((L.headD 0).toNat : Int) = a0 ∧ (numV (L.drop 1) 3 : Int) = a1 ∧ (numV (L.drop 4) 3 : Int) = a2 ∧ (numV (L.drop 7) 3 : Int) = a3 ∧ (⟨((L.drop 12).take (numV (L.drop 10) 2)).toArray⟩ : ByteArray) = s ∧ (⟨((L.drop 12).drop (numV (L.drop 10) 2)).toArray⟩ : ByteArray) = g := by
  simp only [fitsP, Bool.and_eq_true] at h
  obtain ⟨f0, f1, f2, f3⟩ := h
  obtain ⟨p0, q0⟩ := fitsB_nat f0
  obtain ⟨p1, q1⟩ := fitsB_nat f1
  obtain ⟨p2, q2⟩ := fitsB_nat f2
  obtain ⟨p3, q3⟩ := fitsB_nat f3
  have hsl : s.data.toList.length = s.size := Array.length_toList
  intro L
  have e0 : L = laidL a0.toNat 1 ++ (laidL a1.toNat 3 ++ (laidL a2.toNat 3 ++ (laidL a3.toNat 3 ++ (laidL s.size 2 ++ (s.data.toList ++ g.data.toList))))) := by simp [L, packL]
  have e1 : L.drop 1 = laidL a1.toNat 3 ++ (laidL a2.toNat 3 ++ (laidL a3.toNat 3 ++ (laidL s.size 2 ++ (s.data.toList ++ g.data.toList)))) := by rw [e0, drop_laid]
  have e4 : L.drop 4 = laidL a2.toNat 3 ++ (laidL a3.toNat 3 ++ (laidL s.size 2 ++ (s.data.toList ++ g.data.toList))) := by rw [show 4 = 1 + 3 from rfl, ← List.drop_drop, e1, drop_laid]
  have e7 : L.drop 7 = laidL a3.toNat 3 ++ (laidL s.size 2 ++ (s.data.toList ++ g.data.toList)) := by rw [show 7 = 4 + 3 from rfl, ← List.drop_drop, e4, drop_laid]
  have e10 : L.drop 10 = laidL s.size 2 ++ (s.data.toList ++ g.data.toList) := by rw [show 10 = 7 + 3 from rfl, ← List.drop_drop, e7, drop_laid]
  have e12 : L.drop 12 = s.data.toList ++ g.data.toList := by rw [show 12 = 10 + 2 from rfl, ← List.drop_drop, e10, drop_laid]
  have n10 : numV (L.drop 10) 2 = s.size := by rw [e10, numV_laid' (by omega)]
  refine ⟨?_, by rw [e1, numV_laid' p1, q1], by rw [e4, numV_laid' p2, q2], by rw [e7, numV_laid' p3, q3], ?_, ?_⟩
  · rw [e0]
    show ((UInt8.ofNat (a0.toNat / 256 ^ 0)).toNat : Int) = a0
    rw [byte_toNat]; omega
  · rw [n10, e12, List.take_append_of_le_length (by omega), List.take_of_length_le (by omega)]
  · rw [n10, e12, List.drop_append_of_le_length (by omega), List.drop_eq_nil_of_le (by omega), List.nil_append]
end Go.Proofs.Ytppejoccljfblaa
