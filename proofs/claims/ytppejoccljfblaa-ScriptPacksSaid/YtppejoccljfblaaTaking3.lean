/-
  Bytes taken as a text. No condition.
-/
import Derived.Test.YtppejoccljfblaaTaking2
namespace Go.Proofs.Ytppejoccljfblaa
open Go.RowKit

theorem Rd.u8Drop {B : Nat} {w : World} {b o n cap k : Nat} {l : List UInt8} (h : Rd B w (some ⟨b, o, none⟩) n cap 1 (u8s l)) (hk : k ≤ n) : Rd B w (some ⟨b, o + k, none⟩) (n - k) (cap - k) 1 (u8s (l.drop k)) := by
  have hl := h.u8Len
  obtain ⟨h1, h2, h3, h4⟩ := h
  refine ⟨by simp [u8s] at h1 ⊢; omega, by omega, by omega, ?_⟩
  rcases h4 with h4 | ⟨b', o', e, hb, hc⟩
  · exact .inl (by omega)
  · cases e
    refine .inr ⟨b, o + k, rfl, hb, fun j hj => ?_⟩
    have hj' : k + j < (u8s l).length := by simp [u8s] at hj ⊢; omega
    have := hc (k + j) hj'
    rw [Nat.add_assoc, this]; simp [u8s]

set_option maxRecDepth 100000 in
set_option maxHeartbeats 2000000 in
theorem text_some {B q : Nat} {l : List UInt8} {w : World} (n : Nat) (hn : n ≤ 1000000) (h : TK B w q l) (h0 : 0 < l.length) :
    Calls Try.prog 122 #[.int .i64 n, .pointer (some ⟨q, 0, none⟩)] w fun e w' => e = .returned (.string ⟨(l.take n).toArray⟩) ∧ Far (fun k => k = q) w w' ∧ TK B w' q (l.drop n) := by
  obtain ⟨hB, a, m, cap, hb, hR⟩ := h
  have hl := hR.u8Len
  obtain ⟨b, o, rfl, hlx, hcx⟩ := hR.u8At 0 (by omega)
  clear hcx hlx
  have hc := hb.cell
  have hf := hb.frozen
  have hcap := hR.2.1
  have hcm := hR.2.2.1
  by_cases hlt : m < n
  · have hm : (m : Int) < n := by omega
    have hconv := conv_bytes w b o m cap l hl (fun j hj => by obtain ⟨_, _, e, hl', hc'⟩ := hR.u8At j hj; cases e; rw [hc', List.getD_eq_getElem?_getD, List.getElem?_eq_getElem hl']; rfl)
    have hmi : (m : Int) ≤ cap := by omega
    have hm0 : (0 : Int) ≤ m := by omega
    go_enter Try.func122, Try.ntmps122
    go_wp2
    all_goals
      go_ret
      refine ⟨by rw [List.take_of_length_le (by omega)]; rfl, (Far.refl (fun k => k = q) w).setCell (p := ⟨q, 0, none⟩) rfl _, hB, _, _, _, hb.set _, ?_⟩
      rw [List.drop_eq_nil_of_le (by omega)]
      exact ⟨rfl, by omega, by omega, .inl rfl⟩
  · have hm : ¬ (m : Int) < n := by omega
    have hnm : (n : Int) ≤ m := by omega
    have hconv := conv_bytes w b o n cap (l.take n) (by rw [List.length_take]; omega) (fun j hj => by obtain ⟨_, _, e, hl', hc'⟩ := hR.u8At j (by omega); cases e; rw [hc', List.getD_eq_getElem?_getD, List.getElem?_take_of_lt hj, List.getElem?_eq_getElem hl']; rfl)
    have hmi : (m : Int) ≤ cap := by omega
    have hni : (n : Int) ≤ cap := by omega
    have hm0 : (0 : Int) ≤ n := by omega
    go_enter Try.func122, Try.ntmps122
    go_wp2
    all_goals
      go_ret
      refine ⟨rfl, (Far.refl (fun k => k = q) w).setCell (p := ⟨q, 0, none⟩) rfl _, hB, _, _, _, hb.set _, ?_⟩
      refine Rd.mono ?_ ((Below.refl B w).setCell (p := ⟨q, 0, none⟩) hB _)
      first
        | exact hR.u8Drop (by omega)
        | (rw [List.drop_eq_nil_of_le (by omega)]
           exact ⟨by simp [u8s]; omega, by omega, by omega, .inl (by omega)⟩)
theorem conv_empty (w : World) (a : Option Addr) (cap : Nat) : (convert 22 9 (.slice a 0 cap)).run Try.prog w = .ok (.string .empty) w := by
  cases a with
  | none => exact run_convert_bytes_nil (P := Try.prog) w 22 5 Try.underlying22 Try.underlying5 0 cap 9 Try.underlying9
  | some a =>
    rw [run_convert_bytes_string w 22 9 5 (some a) 0 cap Try.underlying22 Try.underlying5 Try.underlying9]
    rw [run_bytesToString w a 0 cap [] (by simp [loadCells, loadCellsFrom])]
    rfl
set_option maxRecDepth 100000 in
set_option maxHeartbeats 2000000 in
theorem text_none {B q : Nat} {w : World} (n : Nat) (hn : n ≤ 1000000) (h : TK B w q []) :
    Calls Try.prog 122 #[.int .i64 n, .pointer (some ⟨q, 0, none⟩)] w fun e w' => e = .returned (.string .empty) ∧ Far (fun k => k = q) w w' ∧ TK B w' q [] := by
  obtain ⟨hB, a, m, cap, hb, hR⟩ := h
  obtain rfl : m = 0 := hR.u8Len.symm
  have hc := hb.cell
  have hf := hb.frozen
  have hcap := hR.2.1
  have hconv := conv_empty w a cap
  have hn0 : (0 : Int) ≤ n := by omega
  by_cases hn1 : n = 0
  · subst hn1
    cases a
    all_goals
      go_enter Try.func122, Try.ntmps122
      go_wp2
      all_goals
        go_ret
        exact ⟨rfl, (Far.refl (fun k => k = q) w).setCell (p := ⟨q, 0, none⟩) rfl _, hB, _, _, _, hb.set _, rfl, by omega, by have := hR.2.2.1; omega, .inl rfl⟩
  · have hn2 : (0 : Int) < n := by omega
    cases a
    all_goals
      go_enter Try.func122, Try.ntmps122
      go_wp2
      all_goals
        go_ret
        exact ⟨rfl, (Far.refl (fun k => k = q) w).setCell (p := ⟨q, 0, none⟩) rfl _, hB, _, _, _, hb.set _, rfl, by omega, by have := hR.2.2.1; omega, .inl rfl⟩

/-- So many bytes as a text, or as many as there are. -/
theorem text_any {B q : Nat} {l : List UInt8} {w : World} (n : Nat) (hn : n ≤ 1000000) (h : TK B w q l) :
    Calls Try.prog 122 #[.int .i64 n, .pointer (some ⟨q, 0, none⟩)] w fun e w' => e = .returned (.string ⟨(l.take n).toArray⟩) ∧ Far (fun k => k = q) w w' ∧ TK B w' q (l.drop n) := by
  cases l with
  | nil => exact (text_none n hn h).mono fun e w' ⟨he, h2, h3⟩ => ⟨by rw [he, List.take_nil]; rfl, h2, by rw [List.drop_nil]; exact h3⟩
  | cons x l => exact text_some n hn h (by simp)
end Go.Proofs.Ytppejoccljfblaa
