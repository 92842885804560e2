/-
  slices.insertionSortCmpFunc at terms. No condition but how they lie.
-/
import Derived.Test.YtppejoccljfblaaElRow
import Derived.Test.YtppejoccljfblaaOrder
import Derived.BigQuiet
import Derived.StillTailTactics
import Derived.Sort.WalkA
import Derived.BigRegion
namespace Go.Proofs.Ytppejoccljfblaa
open Go.RowKit
attribute [local go_sem ↓] wp_store_O
attribute [local go_sem] stO_eq stB_eq stC_eq stF_eq wrO_set

def ltE (x y : El) : Bool := decide (cmpT x.t y.t < 0)
/-- While a row is rearranged: all but it stands as it stood; its elements' arguments lie beside it. -/
structure SS (w0 : World) (q o : Nat) (d : Array El) (w : World) : Prop where
  hq : q < w0.heap.size
  gr : w0.grownBy w (some q)
  row : Row w q o d
  ok : ∀ i, i < d.size → Mem (fun b => b < w0.heap.size ∧ b ≠ q) w0 (.s 4 (Tm.rows d[i]!.t.args)) (.slice d[i]!.a d[i]!.n d[i]!.cap)
section
variable {w0 w w' : World} {q o : Nat} {d : Array El}
theorem SS.lt (h : SS w0 q o d w) : q < w.heap.size := Nat.lt_of_lt_of_le h.hq h.gr.size
theorem SS.drew (h : SS w0 q o d w) : SS w0 q o d w.drew := ⟨h.hq, grownBy_trans h.gr (grownBy_drew w _), h.row, h.ok⟩
theorem SS.drewN (h : SS w0 q o d w) (n : Nat) : SS w0 q o d (w.drewN n) := ⟨h.hq, grownBy_trans h.gr ⟨rfl, rfl, rfl, Nat.le_refl _, fun _ _ _ => rfl⟩, h.row, h.ok⟩
theorem SS.keep (h : SS w0 q o d w) (hb : Below w.heap.size w w') : SS w0 q o d w' :=
  ⟨h.hq, grownBy_trans h.gr ⟨hb.os, hb.tape, hb.output, hb.size, fun k hk _ => hb.block k hk⟩, h.row.keep h.lt hb, h.ok⟩
theorem SS.mem (h : SS w0 q o d w) {i : Nat} (hi : i < d.size) {e : El} (he : d[i]! = e) : MemW w (.s 4 (Tm.rows e.t.args)) (.slice e.a e.n e.cap) := by
  subst he
  exact (h.ok i hi).mono (fun b hb => Nat.lt_of_lt_of_le hb.1 h.gr.size) (fun b hb => h.gr.block b hb.1 (fun e => by cases e; exact hb.2 rfl))
theorem SS.put (h : SS w0 q o d w) {i : Nat} (hi : i < d.size) (e : El) (he : Mem (fun b => b < w0.heap.size ∧ b ≠ q) w0 (.s 4 (Tm.rows e.t.args)) (.slice e.a e.n e.cap)) : SS w0 q o (d.setIfInBounds i e) (w.setCells q (o + i * 4) e.cells.toList) :=
  ⟨h.hq, grownBy_trans h.gr (grownBy_setCells w q _ _), h.row.set hi e, fun k hk => by
    rw [Array.size_setIfInBounds] at hk
    by_cases hki : k = i
    · subst hki
      have e1 : (d.setIfInBounds k e)[k]! = e := by simp [hk]
      rw [e1]; exact he
    · have e1 : (d.setIfInBounds i e)[k]! = d[k]! := by simp [hk, Ne.symm hki]
      rw [e1]; exact h.ok k hk⟩
theorem SS.swp (h : SS w0 q o d w) {i j : Nat} (hi : i < d.size) (hj : j < d.size) {x y : El} (hx : d[i]! = x) (hy : d[j]! = y) :
    SS w0 q o (Sort.swp d i j) ((w.setCells q (o + i * 4) y.cells.toList).setCells q (o + j * 4) x.cells.toList) := by
  subst hx; subst hy
  exact (h.put hi d[j]! (h.ok j hj)).put (by rw [Array.size_setIfInBounds]; exact hj) d[i]! (h.ok i hi)
end
/-- Compare, of any two terms. -/
theorem cmpE (x y : El) (w : World) (h : MemW w (.s 4 (Tm.rows x.t.args)) (.slice x.a x.n x.cap)) (h' : MemW w (.s 4 (Tm.rows y.t.args)) (.slice y.a y.n y.cap)) :
    Calls Try.prog 112 #[.agg #[.int .i64 x.t.kind, .string x.t.name, .int .i64 x.t.n, .slice x.a x.n x.cap], .agg #[.int .i64 y.t.kind, .string y.t.name, .int .i64 y.t.n, .slice y.a y.n y.cap]] w fun e w' => e = .returned (.int .i64 (cmpT x.t y.t)) ∧ Below w.heap.size w w' :=
  compare_any x.t y.t w x.a y.a x.n y.n x.cap y.cap h h'

set_option maxRecDepth 100000 in
set_option maxHeartbeats 2000000 in
theorem insertion_any {w0 w : World} {q o a b : Nat} {d : Array El} (cap : Nat) (h : SS w0 q o d w) (hab : a ≤ b) (hb : b ≤ d.size) (hsz : d.size ≤ 100000) :
    Calls Try.prog 183 #[.slice (some ⟨q, o, none⟩) d.size cap, .int .i64 a, .int .i64 b, .func (.func 112) #[] #[]] w fun e w' => e = .returned (.tuple #[]) ∧ SS w0 q o (Sort.insertionSort ltE d a b) w' := by
  have H := Lib.hid h
  clear h
  go_enter Try.func183, Try.ntmps183
  go_wp2
  go_loopw [8] (fun vi wr => ∃ (i : Nat) (dk : Array El), vi = .int .i64 i ∧ a < i ∧ i ≤ b + 1 ∧ dk.size = d.size ∧ Hid (SS w0 q o dk wr) ∧ Hid (Sort.insOuter ltE a b i dk = Sort.insOuter ltE a b (a + 1) d)) (fun vi _ => b + 1 - (intOf vi).toNat)
  case atStart => exact ⟨a + 1, d, by go_num, by omega, by omega, rfl, H.out, rfl⟩
  case round =>
    obtain ⟨i, dk, rfl, hai, hib, hsk, HS, HO⟩ := hrel
    by_cases hlt : i < b
    · have hltz : (i : Int) < (b : Int) := by omega
      go_wp2
      go_loopw [9] (fun vj wr => ∃ (j : Nat) (dj : Array El), vj = .int .i64 j ∧ a ≤ j ∧ j ≤ i ∧ dj.size = d.size ∧ Hid (SS w0 q o dj wr) ∧ Hid (Sort.insInner ltE a j dj = Sort.insInner ltE a i dk)) (fun vj _ => (intOf vj).toNat)
      case atStart => exact ⟨i, dk, rfl, by omega, Nat.le_refl _, hsk, HS.out, rfl⟩
      case round =>
        clear HS
        obtain ⟨j, dj, rfl, haj, hji, hsj, HS, HI⟩ := hrel
        have OUT : Hid ((j ≤ a ∨ ltE dj[j]! dj[j - 1]! = false) → Sort.insOuter ltE a b (i + 1) dj = Sort.insOuter ltE a b (a + 1) d) := Lib.hid fun hs => by
          rw [← HO.out, insOuter_go _ _ _ _ _ hlt, ← HI.out, insInner_stop _ _ _ _ hs]
        by_cases hja : a < j
        · have hjaz : (a : Int) < (j : Int) := by omega
          obtain ⟨jp, rfl⟩ : ∃ jp, j = jp + 1 := ⟨j - 1, by omega⟩
          obtain ⟨xj, hxj⟩ : ∃ x, dj[jp + 1]! = x := ⟨_, rfl⟩
          obtain ⟨xp, hxp⟩ : ∃ x, dj[jp]! = x := ⟨_, rfl⟩
          have hj1 : jp + 1 < dj.size := by omega
          have hj0 : jp < dj.size := by omega
          have XJ := Lib.hid hxj
          have XP := Lib.hid hxp
          clear hxj hxp
          obtain ⟨x0, x1, x2, x3⟩ := HS.out.row.c4 hj1 XJ.out
          obtain ⟨y0, y1, y2, y3⟩ := HS.out.row.c4 hj0 XP.out
          have MX := Lib.hid (HS.out.drew.mem hj1 XJ.out)
          have MY := Lib.hid (HS.out.drew.mem hj0 XP.out)
          have jz : (jp : Int) + 1 < (d.size : Int) := by omega
          have jz1 : (jp : Int) < (d.size : Int) := by omega
          have hjaz : decide ((a : Int) < (jp : Int) + 1) = true := by simp; omega
          have e0 : ((jp : Int) + 1).toNat = jp + 1 := by omega
          have p0 : (0 : Int) ≤ (jp : Int) + 1 := by omega
          have w1 : IntKind.i64.wrap ((jp : Int) + 1 - 1) = (jp : Int) := by rw [IntKind.wrap_i64]; omega
          have w2 : IntKind.i64.wrap (jp : Int) = (jp : Int) := by rw [IntKind.wrap_i64]; omega
          by_cases hlv : cmpT xj.t xp.t < 0
          · go_wp2
            go_still_tail 14, (by kernel_rfl)
            change wpList _ _ _ _ _ wr.drew
            go_wp2_with (first | (go_at_call 112 ; refine (cmpE xj xp _ MX.out MY.out).mono ?_; rintro e w2 ⟨rfl, hb⟩; have HB2 := Lib.hid hb; clear hb))
            have HS2 := Lib.hid (HS.out.drew.keep HB2.out)
            clear x0 x1 x2 x3 y0 y1 y2 y3
            obtain ⟨x0, x1, x2, x3⟩ := HS2.out.row.c4 hj1 XJ.out
            obtain ⟨y0, y1, y2, y3⟩ := HS2.out.row.c4 hj0 XP.out
            have v0 := HS2.out.drew.row.wr hj1
            have v1 := HS2.out.drew.row.wr hj0
            go_region
            all_goals
              go_wp2
              go_roundw
              case rel =>
                have := insInner_go (lt := ltE) a (jp + 1) dj hja (by simp only [Nat.add_sub_cancel]; rw [XJ.out, XP.out]; exact decide_eq_true hlv)
                simp only [Nat.add_sub_cancel] at this
                exact ⟨jp, Sort.swp dj (jp + 1) jp, by go_num, by omega, by omega, by rw [Sort.size_swp]; exact hsj, HS2.out.drew.swp hj1 hj0 XJ.out XP.out, Lib.hid (by rw [← HI.out, this])⟩
              case measure => simp [intOf] <;> omega
          · go_wp2
            go_still_tail 14, (by kernel_rfl)
            change wpList _ _ _ _ _ wr.drew
            go_wp2_with (first | (go_at_call 112 ; refine (cmpE xj xp _ MX.out MY.out).mono ?_; rintro e w2 ⟨rfl, hb⟩; have HB2 := Lib.hid hb; clear hb))
            go_roundw
            case rel => exact ⟨i + 1, dj, by go_num, by omega, by omega, hsj, HS.out.drew.keep HB2.out, OUT.out (.inr (by simp only [Nat.add_sub_cancel]; rw [XJ.out, XP.out]; exact decide_eq_false (by omega)))⟩
            case measure => simp [intOf]; omega
        · have hjaz : decide ((a : Int) < (j : Int)) = false := by simp; omega
          go_wp2
          go_quiet (fail)
          go_wp2
          go_roundw
          case rel => exact ⟨i + 1, dj, by go_num, by omega, by omega, hsj, HS.out.drewN _, OUT.out (.inl (by omega))⟩
          case measure => simp [intOf]; omega
    · have hltz : ¬ (i : Int) < (b : Int) := by omega
      go_wp2
      go_end0
      exact ⟨rfl, by unfold Sort.insertionSort; rw [← HO.out, insOuter_stop _ _ _ _ _ hlt]; exact HS.out⟩
end Go.Proofs.Ytppejoccljfblaa
