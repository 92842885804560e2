/-
  All: a term, and all that is in it, as a list. No condition but how it lies, and how many there are.
-/
import Derived.Test.YtmadfkofmehfkaaAt3
import Derived.StillTailTactics
namespace Go.Proofs.Ytmadfkofmehfkaa
open Go.RowKit

theorem info_term : (Try.prog.info? 24).map (fun i => (i.zero, i.size, i.bytes)) = some (some (.agg #[.int .i64 0, .string .empty, .int .i64 0, .slice none 0 0]), 4, 56) := by kernel_rfl

set_option maxRecDepth 100000 in
set_option maxHeartbeats 2000000 in
theorem all03_any (m : Nat) : ∀ (t : Tm) (B n cap : Nat) (a : Option Addr) (w : World), t.size ≤ m → m ≤ 1048576 → Mem (· < B) w (.s 4 (Tm.rows t.args)) (.slice a n cap) → B ≤ w.heap.size →
    Calls Try.prog 35 #[.agg #[.int .i64 t.kind, .string t.name, .int .i64 t.n, .slice a n cap]] w (Gives B 4 (Tm.rows t.all) w) := by
  induction m with
  | zero => intro t _ _ _ _ w h; have := t.size_pos; omega
  | succ m ih =>
    intro t B n cap a w hm hmm h hB
    have IH := Lib.hid ih
    clear ih
    have hl := h.len
    rw [Tm.rows_len] at hl
    have hln := Lib.hid hl.1
    have hcap := hl.2.1
    have hmx := hl.2.2
    clear hl
    have HA := Lib.hid (show ∀ x ∈ t.args, x.size ≤ m from fun x hx => by have := Tm.size_arg hx; omega)
    have HM := Lib.hid (show t.size ≤ 1048576 by omega)
    have HMM := Lib.hid (show m ≤ 1048576 by omega)
    clear hm hmm
    have H := Lib.hid h
    clear h
    have H0 := Lib.hid hB
    clear hB
    go_enter Try.func35, Try.ntmps35
    go_wp2
    go_loopw [3, 11] (fun v i wr => ∃ k : Nat, k ≤ n ∧ i = .int .i64 k ∧ Hid (Below w.heap.size w wr) ∧ Hid (OwnD B w.heap.size 24 4 wr v (Tm.rows (t :: Tm.alls (t.args.take k))))) (fun _ i _ => n - (intOf i).toNat)
    case atStart =>
      refine ⟨0, Nat.zero_le _, rfl, (below_new _ _).alloc (by simp) _, ?_⟩
      have := tm_one (B := B) (base := w.heap.size) (e := 24) (w := w.alloc (.cells #[.int .i64 t.kind, .string t.name, .int .i64 t.n, .slice a n cap] 24)) t ((H.out.keep (Nat.le_refl _) ((below_new w _).mono H0.out)).mono (fun b hb => ⟨.inl hb, by have := H0.out; rw [World.size_alloc]; omega⟩) fun _ _ => rfl) (by simp)
      rw [World.size_alloc] at this
      rw [List.take_zero, Tm.alls]
      exact this
    case round =>
      obtain ⟨k, hk, rfl, HB, HO⟩ := hrel
      by_cases hlt : k < n
      · obtain ⟨b, o, x, ax, nx, capx, rfl, hbB, Hx, x0, x1, x2, x3, GX⟩ := tm_at (H.out.keep (Nat.le_refl _) (HB.out.mono H0.out)) k hlt
        have GA := Lib.hid (HA.out x (mem_of_at Hx.out))
        have HW := Lib.hid (show B ≤ wr.heap.size from Nat.le_trans H0.out HB.out.size)
        have HL := Lib.hid (show (Tm.rows (t :: Tm.alls (t.args.take k))).length + (Tm.rows x.all).length ≤ 1048576 by
          have h1 := HM.out
          rw [Tm.size_eq] at h1
          have h2 := Tm.alls_le (ts := t.args) (k + 1)
          rw [Tm.alls_at Hx.out, List.length_append] at h2
          rw [Tm.rows_len, Tm.rows_len, List.length_cons]; omega)
        go_wp2_with (first
          | (go_at_call 35
             refine (IH.out x B _ _ _ _ GA.out HMM.out (GX.out.keep (Nat.le_refl _) ((below_new wr _).mono HW.out)) (by have := HW.out; rw [World.size_alloc]; omega)).mono ?_
             rintro e w2 ⟨a2, n2, cap2, rfl, hb, hm⟩
             have HB2 := Lib.hid hb; clear hb
             have HM2 := Lib.hid hm; clear hm)
          | (at_builtin
             refine wpList_append_D rfl _ _ rfl Try.underlying22 info_term rfl (by decide) rfl rfl ((HO.out.alloc _).keep HB2.out) ((HO.out.alloc _).apart H0.out (by have := HB.out.size; rw [World.size_alloc]; omega) HM2.out) (by have := HL.out; omega) (by have := HL.out; omega) (by have := HB.out.size; have := HB2.out.size; rw [World.size_alloc] at this; omega) ?_
             intro v' w3 ho hg
             have HO3 := Lib.hid ho; clear ho
             have HG3 := Lib.hid hg; clear hg))
        go_roundw
        case rel =>
          refine ⟨k + 1, by omega, by go_num, grown_below (Below.toA HB.out HB2.out) HG3.out (Nat.le_refl _) (fun b hb => (HO.out.lt b hb).1), ?_⟩
          have := HO3.out
          rw [← Tm.rows_app, List.cons_append, ← Tm.alls_at Hx.out] at this
          exact this
        case measure => simp [intOf]; omega
      · have hk' : t.args.take k = t.args := List.take_of_length_le (by rw [hln.out]; omega)
        rw [hk', ← Tm.all_eq] at HO
        clear hk'
        obtain ⟨a', cap', rfl, _, _⟩ := HO.out.form
        go_wp2
        go_ret
        exact ⟨_, _, _, rfl, HB.out, HO.out.mem⟩
/-- The list of it and all that is in it. -/
theorem all03 {t : Tm} {B n cap : Nat} {a : Option Addr} {w : World} (hm : t.size ≤ 1048576) (h : Mem (· < B) w (.s 4 (Tm.rows t.args)) (.slice a n cap)) (hB : B ≤ w.heap.size) :
    Calls Try.prog 35 #[.agg #[.int .i64 t.kind, .string t.name, .int .i64 t.n, .slice a n cap]] w (Gives B 4 (Tm.rows t.all) w) := all03_any 1048576 t B n cap a w hm (Nat.le_refl _) h hB
end Go.Proofs.Ytmadfkofmehfkaa

/-
  Few: whether terms are few. No condition but how they lie, and how many there are.
-/
namespace Go.Proofs.Ytmadfkofmehfkaa
open Go.RowKit

def fewB (l : List Tm) : Bool := decide ((Tm.alls l).length ≤ 200) && decide (l.length ≤ 30)
set_option maxRecDepth 100000 in
set_option maxHeartbeats 2000000 in
theorem few_any {l : List Tm} {n cap : Nat} {a : Option Addr} (w : World) (h : MemW w (.s 4 (Tm.rows l)) (.slice a n cap)) (hs : (Tm.alls l).length ≤ 1048576) :
    Calls Try.prog 8 #[.slice a n cap] w fun e w' => e = .returned (.bool (fewB l)) ∧ Below w.heap.size w w' := by
  have hl := Tms.len h
  have HL := Lib.hid hl.1
  have hcap := hl.2.1
  have hmx := hl.2.2
  have H := Lib.hid h
  have HS := Lib.hid hs
  clear hl h hs
  go_enter Try.func8, Try.ntmps8
  go_wp2
  go_loopw [3, 8] (fun v i wr => ∃ (k m : Nat), k ≤ n ∧ i = .int .i64 k ∧ v = .int .i64 m ∧ m ≤ 200 ∧ Hid (m = (Tm.alls (l.take k)).length) ∧ Hid (Below w.heap.size w wr)) (fun _ i _ => n - (intOf i).toNat)
  case atStart => exact ⟨0, 0, Nat.zero_le _, rfl, rfl, by omega, by show 0 = _; rw [List.take_zero, Tm.alls]; rfl, Below.refl _ _⟩
  case round =>
    obtain ⟨k, m, hk, rfl, rfl, hm, HM, HB⟩ := hrel
    by_cases hlt : k < n
    · obtain ⟨b, o, x, ax, nx, capx, rfl, hbB, Hx, x0, x1, x2, x3, GX⟩ := (Tms.keep H.out HB.out).at k hlt
      have hxs : x.size ≤ 1048576 := Nat.le_trans (Tm.size_mem (mem_of_at Hx.out)) HS.out
      have SX := Lib.hid hxs
      have hxz : (Tm.rows x.all).length = x.size := by rw [Tm.rows_len]; rfl
      have HN : Hid (m + x.size = (Tm.alls (l.take (k + 1))).length) := Lib.hid (by rw [Tm.alls_at Hx.out, List.length_append, HM.out]; rfl)
      by_cases h2 : 200 < m + x.size
      · have h2' : (200 : Int) < (m : Int) + x.size := by omega
        have HF : Hid (fewB l = false) := Lib.hid (by
          have := Tm.alls_le (ts := l) (k + 1)
          rw [← HN.out] at this
          unfold fewB; rw [decide_eq_false (by omega)]; rfl)
        go_wp2_with (first
          | (go_at_call 35 ; refine (all03 SX.out (MemW.keep GX.out (below_new wr _)) (Nat.le_refl _)).mono ?_; rintro e w5 ⟨aa5, na5, ca5, rfl, hb, hm⟩; have hna := hm.len.1.symm.trans hxz; subst hna; have HB5 := Lib.hid hb; clear hb hm))
        go_ret
        exact ⟨ret_bool HF.out.symm, Below.toA HB.out HB5.out⟩
      · have h2' : (m : Int) + x.size ≤ 200 := by omega
        have h3' : ¬ (200 : Int) < (m : Int) + x.size := by omega
        go_wp2_with (first
          | (go_at_call 35 ; refine (all03 SX.out (MemW.keep GX.out (below_new wr _)) (Nat.le_refl _)).mono ?_; rintro e w5 ⟨aa5, na5, ca5, rfl, hb, hm⟩; have hna := hm.len.1.symm.trans hxz; subst hna; have HB5 := Lib.hid hb; clear hb hm))
        go_roundw
        case rel => exact ⟨k + 1, m + x.size, by omega, by go_num, by go_num, by omega, HN.out, Below.toA HB.out HB5.out⟩
        case measure => simp [intOf]; omega
    · have hkn : k = n := by omega
      have HF : Hid (fewB l = decide ((n : Int) ≤ 30)) := Lib.hid (by
        have h1 := HM.out
        rw [List.take_of_length_le (by rw [HL.out]; omega)] at h1
        unfold fewB
        rw [decide_eq_true (by omega), Bool.true_and, HL.out]
        exact decide_eq_decide.2 (by omega))
      clear hkn
      go_wp2
      all_goals
        go_ret
        refine ⟨ret_bool ?_, HB.out⟩
        first
          | exact HF.out.symm
          | (rw [HF.out]; simp; omega)
end Go.Proofs.Ytmadfkofmehfkaa
