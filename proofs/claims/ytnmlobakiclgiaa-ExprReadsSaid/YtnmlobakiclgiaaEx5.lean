/-
  How tokens and expressions lie, as the parser's walks want it. Plain lemmas. No condition.
-/
import Derived.Test.YtnmlobakiclgiaaEx4
namespace Go.Proofs.Ytnmlobakiclgiaa
open Go.RowKit
def tkRow (t : Tk) : List At := [.v (.int .i64 t.k), .v (.string t.s), .v (.int .i64 t.n), .v (.int .i64 t.l), .v (.int .i64 t.c)]
def tkRows (ts : List Tk) : List (List At) := ts.map tkRow
theorem tkRows_len (ts : List Tk) : (tkRows ts).length = ts.length := by simp [tkRows]
theorem tk_at {S : Nat → Prop} {w : World} {ts : List Tk} {a : Option Addr} {n cap : Nat} (h : Mem S w (.s 5 (tkRows ts)) (.slice a n cap)) (i : Nat) (hi : i < n) :
    ∃ b o t, a = some ⟨b, o, none⟩ ∧ S b ∧ Hid (ts[i]? = some t) ∧ w.cell? ⟨b, o + i * 5, none⟩ = some (.int .i64 t.k) ∧ w.cell? ⟨b, o + i * 5 + 1, none⟩ = some (.string t.s) ∧ w.cell? ⟨b, o + i * 5 + 2, none⟩ = some (.int .i64 t.n) ∧ w.cell? ⟨b, o + i * 5 + 3, none⟩ = some (.int .i64 t.l) ∧ w.cell? ⟨b, o + i * 5 + 4, none⟩ = some (.int .i64 t.c) := by
  have hl := h.len.1
  rw [tkRows_len] at hl
  have hi' : i < ts.length := by omega
  obtain ⟨b, o, ha, hS, _, cs, h2, hc⟩ := Mem.at h i (by rw [tkRows_len]; exact hi')
  have e : (tkRows ts)[i]'(by rw [tkRows_len]; exact hi') = tkRow ts[i] := by simp [tkRows]
  rw [e] at h2
  unfold tkRow at h2
  cases h2 with
  | cons g0 h2 =>
    cases h2 with
    | cons g1 h2 =>
      cases h2 with
      | cons g2 h2 =>
        cases h2 with
        | cons g3 h2 =>
          cases h2 with
          | cons g4 h2 =>
            cases h2
            have c0 := hc 0 (by simp)
            have c1 := hc 1 (by simp)
            have c2 := hc 2 (by simp)
            have c3 := hc 3 (by simp)
            have c4 := hc 4 (by simp)
            simp only [List.getElem_cons_zero, List.getElem_cons_succ, g0.val, g1.val, g2.val, g3.val, g4.val] at c0 c1 c2 c3 c4
            exact ⟨b, o, ts[i], ha, hS, Lib.hid (List.getElem?_eq_getElem hi'), c0, c1, c2, c3, c4⟩
def exV (x : Ex) (a : Option Addr) (n cap : Nat) : Value := .agg #[.int .i64 x.kind, .string x.name, .int .i64 x.n, .slice a n cap, .int .i64 x.line, .int .i64 x.col]
theorem now_at {ts : List Tk} {i : Nat} {t : Tk} (h : ts[i]? = some t) : nowT ts i = t := by unfold nowT; rw [h]
theorem now_past {ts : List Tk} {i : Nat} {t : Tk} (h : ts.length ≤ i) (ht : ts.getLast? = some t) : nowT ts i = noTk t.l t.c := by
  unfold nowT
  rw [List.getElem?_eq_none h, ht]
theorem now_none {i : Nat} : nowT [] i = noTk 0 0 := by
  unfold nowT; simp
end Go.Proofs.Ytnmlobakiclgiaa
