/-
  Bytes that are taken one by one: the closures of script.taking. No condition.
-/
import Derived.Test.YtppejoccljfblaaRev
import Derived.Test.YtppejoccljfblaaFar
import Derived.RangeFuncBox
namespace Go.Proofs.Ytppejoccljfblaa
open Go.RowKit

def u8s (l : List UInt8) : List Value := l.map fun b => Value.int .u8 b.toNat
theorem u8s_length (l : List UInt8) : (u8s l).length = l.length := by simp [u8s]
theorem Rd.u8Len {B : Nat} {w : World} {a : Option Addr} {n cap : Nat} {l : List UInt8} (h : Rd B w a n cap 1 (u8s l)) : l.length = n := by
  have := h.1; rw [u8s_length] at this; omega
theorem Rd.u8At {B : Nat} {w : World} {a : Option Addr} {n cap : Nat} {l : List UInt8} (h : Rd B w a n cap 1 (u8s l)) (k : Nat) (hk : k < n) :
    ∃ b o, a = some ⟨b, o, none⟩ ∧ ∃ hl : k < l.length, w.cell? ⟨b, o + k, none⟩ = some (.int .u8 l[k].toNat) := by
  have hl := h.u8Len
  obtain ⟨h1, h2, h3, h4⟩ := h
  rcases h4 with h4 | ⟨b, o, ha, hbB, hc⟩
  · omega
  · refine ⟨b, o, ha, by omega, ?_⟩
    rw [hc k (by rw [u8s_length]; omega)]
    simp [u8s]

theorem Rd.u8Tail {B : Nat} {w : World} {b o n cap : Nat} {x : UInt8} {l : List UInt8} (h : Rd B w (some ⟨b, o, none⟩) (n + 1) cap 1 (u8s (x :: l))) : Rd B w (some ⟨b, o + 1, none⟩) n (cap - 1) 1 (u8s l) := by
  obtain ⟨h1, h2, h3, h4⟩ := h
  refine ⟨by simp [u8s] at h1 ⊢; omega, by omega, by omega, ?_⟩
  rcases h4 with h4 | ⟨b', o', e, hb, hc⟩
  · omega
  · cases e
    refine .inr ⟨b, o + 1, rfl, hb, fun j hj => ?_⟩
    have := hc (j + 1) (by simp [u8s] at hj ⊢; omega)
    rw [show o + 1 + j = o + (j + 1) by omega, this]; rfl

/-- The box at block q holds a slice of what lies below B, which reads these bytes. -/
def TK (B : Nat) (w : World) (q : Nat) (l : List UInt8) : Prop :=
  B ≤ q ∧ ∃ a n cap, Boxed w q 22 (.slice a n cap) ∧ Rd B w a n cap 1 (u8s l)

set_option maxRecDepth 100000 in
set_option maxHeartbeats 2000000 in
theorem next_some {B q : Nat} {x : UInt8} {l : List UInt8} {w : World} (h : TK B w q (x :: l)) :
    Calls Try.prog 121 #[.pointer (some ⟨q, 0, none⟩)] w fun e w' => e = .returned (.int .i64 x.toNat) ∧ Far (fun k => k = q) w w' ∧ TK B w' q l := by
  obtain ⟨hB, a, n, cap, hb, hR⟩ := h
  have hl := hR.u8Len
  obtain ⟨b, o, rfl, hlx, hcx⟩ := hR.u8At 0 (by simp at hl; omega)
  obtain ⟨m, rfl⟩ : ∃ m, n = m + 1 := ⟨l.length, by simpa using hl.symm⟩
  have hc := hb.cell
  have hf := hb.frozen
  have hcap := hR.2.1
  have hx0 : (x.toNat : Int) < 256 := by have := x.toNat_lt; omega
  have hx1 : (0 : Int) ≤ (x.toNat : Int) := by omega
  have hcx' : w.cell? ⟨b, o, none⟩ = some (.int .u8 x.toNat) := hcx
  clear hcx
  go_enter Try.func121, Try.ntmps121
  go_wp2
  all_goals
    go_ret
    refine ⟨rfl, (Far.refl (fun k => k = q) w).setCell (p := ⟨q, 0, none⟩) rfl _, hB, _, _, _, hb.set _, ?_⟩
    refine Rd.mono ?_ ((Below.refl B w).setCell (p := ⟨q, 0, none⟩) hB _)
    first
      | exact hR.u8Tail
      | (obtain rfl : m = 0 := by omega
         have hl0 : l = [] := List.eq_nil_of_length_eq_zero (by simpa using hl)
         subst hl0
         exact ⟨rfl, by omega, by omega, .inl rfl⟩)
theorem next_none {B q : Nat} {w : World} (h : TK B w q []) :
    Calls Try.prog 121 #[.pointer (some ⟨q, 0, none⟩)] w fun e w' => e = .returned (.int .i64 0) ∧ w = w' := by
  obtain ⟨hB, a, n, cap, hb, hR⟩ := h
  obtain rfl : n = 0 := hR.u8Len.symm
  have hc := hb.cell
  go_enter Try.func121, Try.ntmps121
  go_wp2
  go_ret
  exact ⟨rfl, rfl⟩
/-- The next byte; 0 where there is none. -/
theorem next_any {B q : Nat} {l : List UInt8} {w : World} (h : TK B w q l) :
    Calls Try.prog 121 #[.pointer (some ⟨q, 0, none⟩)] w fun e w' => e = .returned (.int .i64 ((l.headD 0).toNat : Int)) ∧ Far (fun k => k = q) w w' ∧ TK B w' q l.tail := by
  cases l with
  | nil => exact (next_none h).mono fun e w' ⟨he, hw⟩ => ⟨he, hw ▸ Far.refl _ w, hw ▸ h⟩
  | cons x l => exact next_some h
theorem taking_any (a : Option Addr) (n cap : Nat) (w : World) :
    Calls Try.prog 71 #[.slice a n cap] w fun e w' => e = .returned (.tuple #[.func (.func 121) #[] #[.pointer (some ⟨w.heap.size, 0, none⟩)], .func (.func 122) #[] #[.pointer (some ⟨w.heap.size, 0, none⟩)]]) ∧ w.alloc (.cells #[.slice a n cap] 22) = w' := by
  go_enter Try.func71, Try.ntmps71
  go_wp2
  go_ret2
  exact ⟨rfl, rfl⟩
theorem taking_box {B n cap : Nat} {a : Option Addr} {l : List UInt8} {w : World} (h : Rd B w a n cap 1 (u8s l)) (hB : B ≤ w.heap.size) : TK B (w.alloc (.cells #[.slice a n cap] 22)) w.heap.size l :=
  ⟨hB, a, n, cap, Boxed.new w _ _, h.mono ((below_new w _).mono hB)⟩
end Go.Proofs.Ytppejoccljfblaa
