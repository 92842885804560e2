/-
  slices.Clone at terms; a slice that a call has built, as a row that it may rearrange. No condition but how they lie, and how many there are.
-/
import Derived.Test.YtppejoccljfblaaInsert
import Derived.Lib.LazyBuf
namespace Go.Proofs.Ytppejoccljfblaa
open Go.RowKit

theorem els_of {S : Nat → Prop} {w : World} {ts : List Tm} : ∀ {css : List (List Value)}, All2 (fun r cs => cs.length = 4 ∧ All2 (Mem S w) r cs) (Tm.rows ts) css → ∃ els : List El, els.map (·.t) = ts ∧ css = els.map (·.cells.toList) ∧ ∀ e ∈ els, Mem S w (.s 4 (Tm.rows e.t.args)) (.slice e.a e.n e.cap) := by
  induction ts with
  | nil =>
    intro css h
    rw [Tm.rows] at h
    cases h
    exact ⟨[], rfl, rfl, fun e he => by cases he⟩
  | cons t ts ih =>
    intro css h
    rw [Tm.rows] at h
    cases h with
    | cons h0 h1 =>
      obtain ⟨a, n, cap, e0, hm⟩ := row_cells h0.2
      obtain ⟨els, e1, e2, hmem⟩ := ih h1
      refine ⟨⟨t, a, n, cap⟩ :: els, by rw [List.map_cons, e1], by rw [List.map_cons, ← e2, e0]; rfl, fun e he => ?_⟩
      rcases List.mem_cons.1 he with rfl | he
      · exact hm
      · exact hmem e he
theorem ownD_ss {w : World} {B base : Nat} {y : Value} {ts : List Tm} (h : OwnD B base 96 4 w y (Tm.rows ts)) (hn : 0 < ts.length) :
    ∃ q cap d, y = .slice (some ⟨q, 0, none⟩) ts.length cap ∧ ts.length ≤ cap ∧ cap ≤ 9223372036854775807 ∧ base ≤ q ∧ d.size = ts.length ∧ d.toList.map (·.t) = ts ∧ SS w q 0 d w := by
  obtain ⟨css, h1, h2⟩ := h
  obtain ⟨els, e1, e2, hm⟩ := els_of h2
  have hle : els.length = ts.length := by rw [← e1, List.length_map]
  rw [Tm.rows_len] at h1
  have h1c := h1
  rcases h1.2 with ⟨rfl, h0⟩ | ⟨g, cap, cur, rfl, hb, hgg, hncap, hcap, hcs, htake⟩
  · omega
  · have hlt : g < w.heap.size := (Array.getElem?_eq_some_iff.1 hgg).1
    refine ⟨g, cap, els.toArray, rfl, hncap, by simpa [maxLen] using hcap, hb, by simpa using hle, by simpa using e1, ⟨hlt, grownBy_refl _ _, fun i hi j hj => ?_, fun i hi => ?_⟩⟩
    · have hi' : i < els.length := by simpa using hi
      have hci : i < css.length := by rw [e2, List.length_map]; exact hi'
      have hall : ∀ cs ∈ css, cs.length = 4 := fun cs hc => by
        rw [e2] at hc
        obtain ⟨e, _, rfl⟩ := List.mem_map.1 hc
        rfl
      have hcj : j < (css[i]).length := by rw [hall _ (List.getElem_mem hci)]; exact hj
      have hf := flat_at 4 css hall i j hci hcj
      have hlen := flat_len 4 css hall
      refine ⟨?_, frozen_of_row w g _ cur _ hgg⟩
      rw [World.ownsRow.cellAt h1c (0 + i * 4 + j) (by omega), Nat.zero_add, hf]
      have e3 : els.toArray[i]! = els[i] := by simp [hi']
      simp only [e3, e2, List.getElem_map]
      rfl
    · have hi' : i < els.length := by simpa using hi
      have e3 : els.toArray[i]! = els[i] := by simp [hi']
      rw [e3]
      exact (hm _ (List.getElem_mem hi')).mono (fun b hb => ⟨hb.1.2, fun e => hb.2 (by rw [e]; rfl)⟩) fun _ _ => rfl

theorem info_term5 : (Try.prog.info? 96).map (fun i => (i.zero, i.size, i.bytes)) = some (some (.agg #[.int .i64 0, .string .empty, .int .i64 0, .slice none 0 0]), 4, 56) := by kernel_rfl
set_option maxRecDepth 100000 in
set_option maxHeartbeats 2000000 in
theorem cloneT_any {ts : List Tm} {a : Option Addr} {n cap : Nat} (w : World) (h : Tms w ts a n cap) (hn : n ≤ 100000) :
    Calls Try.prog 110 #[.slice a n cap] w fun e w' => ∃ y, e = .returned y ∧ OwnD w.heap.size w.heap.size 96 4 w' y (Tm.rows ts) ∧ Below w.heap.size w w' := by
  have hl := h.len
  cases a with
  | none =>
    have h0 : ts = [] := by
      have hp := h
      cases ts with
      | nil => rfl
      | cons t ts => rw [Tms, MemW, Tm.rows] at hp; cases hp
    subst h0
    have hn0 : n = 0 := by have := hl.1; simpa using this.symm
    subst hn0
    have hq := fun W : World => run_eql_slice_nil (P := Try.prog) W 89 96 none 0 cap Try.underlying89
    simp only [Option.isNone_none] at hq
    clear h hl hn
    go_enter Try.func110, Try.ntmps110
    go_wp2
    go_ret
    exact ⟨_, rfl, OwnD.nil _ _ _ _ _, Below.refl _ _⟩
  | some ad =>
    have HW0 : Hid (OwnD w.heap.size w.heap.size 96 4 (w.alloc (.cells #[] 96)) (.slice (some ⟨w.heap.size, 0, none⟩) 0 0) []) := Lib.hid (OwnD.built (css := []) .nil (Nat.le_refl _) 0 rfl (by decide) _ rfl)
    have HM : Hid (Mem (fun b => Nw w.heap.size w.heap.size (w.alloc (.cells #[] 96)).heap.size b ∧ (Value.slice (some ⟨w.heap.size, 0, none⟩) 0 0).ownBlock ≠ some b) (w.alloc (.cells #[] 96)) (.s 4 (Tm.rows ts)) (.slice (some ad) n cap)) :=
      Lib.hid (HW0.out.old (Nat.le_refl _) (by rw [World.size_alloc]; omega) (Mem.keep h (Nat.le_refl _) (below_new w _)))
    have HN : Hid ((Tm.rows ts).length = n) := Lib.hid (by rw [Tm.rows_len]; exact hl.1)
    have hq := fun W : World => run_eql_slice_nil (P := Try.prog) W 89 96 (some ad) n cap Try.underlying89
    simp only [Option.isNone_some] at hq
    clear h hl
    go_enter Try.func110, Try.ntmps110
    go_wp2_with (first
      | (at_builtin
         refine wpList_append_D2 rfl _ _ rfl Try.underlying89 info_term5 rfl (by decide) rfl rfl HW0.out HM.out (by rw [HN.out, List.length_nil]; omega) (by rw [HN.out, List.length_nil]; omega) (by rw [World.size_alloc]; omega) ?_
         intro v' w6 ho hg _
         have HO := Lib.hid ho
         have HG := Lib.hid hg
         clear ho hg))
    go_ret
    exact ⟨_, rfl, by simpa using HO.out, grown_below (below_new w _) HG.out (Nat.le_refl _) (fun k hk => by cases hk; exact Nat.le_refl _)⟩
end Go.Proofs.Ytppejoccljfblaa
