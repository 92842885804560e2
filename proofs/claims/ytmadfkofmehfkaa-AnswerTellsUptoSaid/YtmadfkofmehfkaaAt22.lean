/-
  slices.Clone at terms. No condition but how they lie.
-/
import Derived.Test.YtmadfkofmehfkaaAt3
import Derived.Lib.LazyBuf
namespace Go.Proofs.Ytmadfkofmehfkaa
open Go.RowKit

theorem info_term5 : (Try.prog.info? 24).map (fun i => (i.zero, i.size, i.bytes)) = some (some (.agg #[.int .i64 0, .string .empty, .int .i64 0, .slice none 0 0]), 4, 56) := by kernel_rfl
set_option maxRecDepth 100000 in
set_option maxHeartbeats 2000000 in
theorem cloneB_any {B : Nat} {ts : List Tm} {a : Option Addr} {n cap : Nat} (w : World) (hB : B ≤ w.heap.size) (h : Mem (· < B) w (.s 4 (Tm.rows ts)) (.slice a n cap)) (hn : n ≤ 100000) :
    Calls Try.prog 63 #[.slice a n cap] w fun e w' => ∃ y, e = .returned y ∧ OwnD B w.heap.size 24 4 w' y (Tm.rows ts) ∧ Below w.heap.size w w' := by
  have hl := Mem.len h
  rw [Tm.rows_len] at hl
  have HB := Lib.hid hB
  clear hB
  cases a with
  | none =>
    have h0 : ts = [] := by
      have hp := h
      cases ts with
      | nil => rfl
      | cons t ts => rw [Tm.rows] at hp; cases hp
    subst h0
    have hn0 : n = 0 := by have := hl.1; simpa using this.symm
    subst hn0
    have hq := fun W : World => run_eql_slice_nil (P := Try.prog) W 22 24 none 0 cap Try.underlying22
    simp only [Option.isNone_none] at hq
    clear h hl hn
    go_enter Try.func63, Try.ntmps63
    go_wp2
    go_ret
    exact ⟨_, rfl, OwnD.nil _ _ _ _ _, Below.refl _ _⟩
  | some ad =>
    have HW0 : Hid (OwnD B w.heap.size 24 4 (w.alloc (.cells #[] 24)) (.slice (some ⟨w.heap.size, 0, none⟩) 0 0) []) := Lib.hid (OwnD.built (css := []) .nil (Nat.le_refl _) 0 rfl (by decide) _ rfl)
    have HM : Hid (Mem (fun b => Nw B w.heap.size (w.alloc (.cells #[] 24)).heap.size b ∧ (Value.slice (some ⟨w.heap.size, 0, none⟩) 0 0).ownBlock ≠ some b) (w.alloc (.cells #[] 24)) (.s 4 (Tm.rows ts)) (.slice (some ad) n cap)) :=
      Lib.hid (HW0.out.old HB.out (by rw [World.size_alloc]; omega) (Mem.keep h (Nat.le_refl _) ((below_new w _).mono HB.out)))
    have HN : Hid ((Tm.rows ts).length = n) := Lib.hid (by rw [Tm.rows_len]; exact hl.1)
    have hq := fun W : World => run_eql_slice_nil (P := Try.prog) W 22 24 (some ad) n cap Try.underlying22
    simp only [Option.isNone_some] at hq
    clear h hl
    go_enter Try.func63, Try.ntmps63
    go_wp2_with (first
      | (at_builtin
         refine wpList_append_D2 rfl _ _ rfl Try.underlying22 info_term5 rfl (by decide) rfl rfl HW0.out HM.out (by rw [HN.out, List.length_nil]; omega) (by rw [HN.out, List.length_nil]; omega) (by rw [World.size_alloc]; omega) ?_
         intro v' w6 ho hg _
         have HO := Lib.hid ho
         have HG := Lib.hid hg
         clear ho hg))
    go_ret
    exact ⟨_, rfl, by simpa using HO.out, grown_below (below_new w _) HG.out (Nat.le_refl _) (fun k hk => by cases hk; exact Nat.le_refl _)⟩
theorem cloneT_any {ts : List Tm} {a : Option Addr} {n cap : Nat} (w : World) (h : Tms w ts a n cap) (hn : n ≤ 100000) :
    Calls Try.prog 63 #[.slice a n cap] w fun e w' => ∃ y, e = .returned y ∧ OwnD w.heap.size w.heap.size 24 4 w' y (Tm.rows ts) ∧ Below w.heap.size w w' :=
  cloneB_any w (Nat.le_refl _) h hn
end Go.Proofs.Ytmadfkofmehfkaa
