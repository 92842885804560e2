/-
  Compare of terms, whole. No condition but how they lie.
-/
import Derived.Test.YtmadfkofmehfkaaAt7
namespace Go.Proofs.Ytmadfkofmehfkaa
open Go.RowKit
attribute [local go_sem] toList_beq

theorem lx_assoc (a b c : Int) : lx (lx a b) c = lx a (lx b c) := by
  by_cases h : a = 0
  · subst h; rw [lx_zero, lx_zero]
  · rw [lx_not h, lx_not h, lx_not h]
theorem cmpT_or (t u : Tm) : cmpT t u = lx (orL [cmpI t.kind u.kind, cmpI t.n u.n, cmpS t.name u.name, cmpI t.args.length u.args.length]) (cmpTs t.args u.args) := by
  rw [cmpT_eq, orL, orL, orL, orL, orL, lx_assoc, lx_assoc, lx_assoc, lx_assoc, lx_zero]

theorem ints4_mem (w : World) (q : Nat) (hq : q = w.heap.size) (c0 c1 c2 c3 : Int) (e : TypeId) : MemW (w.alloc (.cells #[.int .i64 c0, .int .i64 c1, .int .i64 c2, .int .i64 c3] e)) (.s 1 (intRows [c0, c1, c2, c3])) (.slice (some ⟨q, 0, none⟩) 4 4) := by
  subst hq
  have := OwnD.mem (OwnD.built (B := 0) (base := w.heap.size) (e := e) (w := w) (rs := intRows [c0, c1, c2, c3]) (css := [[.int .i64 c0], [.int .i64 c1], [.int .i64 c2], [.int .i64 c3]])
      (.cons ⟨rfl, .cons (.v _ rfl) .nil⟩ (.cons ⟨rfl, .cons (.v _ rfl) .nil⟩ (.cons ⟨rfl, .cons (.v _ rfl) .nil⟩ (.cons ⟨rfl, .cons (.v _ rfl) .nil⟩ .nil)))) (Nat.le_refl _) 4 rfl (by decide) #[.int .i64 c0, .int .i64 c1, .int .i64 c2, .int .i64 c3] rfl)
  exact this.mono (fun _ hb => hb.2) fun _ _ => rfl

set_option maxRecDepth 100000 in
set_option maxHeartbeats 2000000 in
theorem compare_of {t : Tm} (ih : ∀ x ∈ t.args, CmpAt x) : CmpAt t := by
  intro u w a a' n n' cap cap' h h'
  have hl := Tms.len h
  have hl' := Tms.len h'
  have hcap := hl.2.1
  have hmx := hl.2.2
  have hcap' := hl'.2.1
  have hmx' := hl'.2.2
  have HE : Hid (cmpT t u = lx (orL [cmpI t.kind u.kind, cmpI t.n u.n, cmpS t.name u.name, cmpI (n : Int) (n' : Int)]) (cmpTs t.args u.args)) := Lib.hid (by rw [cmpT_or, hl.1, hl'.1])
  have HC := Lib.hid (fun (w' : World) (hb : Below w.heap.size w w') => cmpFunc_any w' (MemW.keep h hb) (MemW.keep h' hb) ih)
  clear hl hl' h h' ih
  have HW2 := Lib.hid ((below_new w (.cells #[.int .i64 t.kind, .string t.name, .int .i64 t.n, .slice a n cap] 24)).alloc (by simp) (.cells #[.int .i64 u.kind, .string u.name, .int .i64 u.n, .slice a' n' cap'] 24))
  have HX := Lib.hid ((Bo.new w 24 #[.int .i64 t.kind, .string t.name, .int .i64 t.n, .slice a n cap]).alloc (.cells #[.int .i64 u.kind, .string u.name, .int .i64 u.n, .slice a' n' cap'] 24)).c4
  have HY := Lib.hid (World.size_alloc w (.cells #[.int .i64 t.kind, .string t.name, .int .i64 t.n, .slice a n cap] 24) ▸ Bo.new (w.alloc (.cells #[.int .i64 t.kind, .string t.name, .int .i64 t.n, .slice a n cap] 24)) 24 #[.int .i64 u.kind, .string u.name, .int .i64 u.n, .slice a' n' cap'] : Bo _ (w.heap.size + 1) _ _).c4
  have HQ : Hid (w.heap.size + 1 + 1 = ((w.alloc (.cells #[.int .i64 t.kind, .string t.name, .int .i64 t.n, .slice a n cap] 24)).alloc (.cells #[.int .i64 u.kind, .string u.name, .int .i64 u.n, .slice a' n' cap'] 24)).drew.heap.size) := Lib.hid (by
    show _ = ((w.alloc _).alloc _).heap.size
    rw [World.size_alloc, World.size_alloc])
  obtain ⟨g0, g1, g2, g3⟩ := HX.out
  obtain ⟨f0, f1, f2, f3⟩ := HY.out
  by_cases hc : orL [cmpI t.kind u.kind, cmpI t.n u.n, cmpS t.name u.name, cmpI (n : Int) (n' : Int)] = 0
  · have HZ := Lib.hid hc
    have HF : Hid (cmpT t u = cmpTs t.args u.args) := Lib.hid (by rw [HE.out, hc, lx_zero])
    clear hc
    go_enter Try.func69, Try.ntmps69
    go_wp2
    go_region_held3 (fun w' => w'.cell? ⟨w.heap.size, 0, none⟩ = some (.int .i64 t.kind) ∧ w'.cell? ⟨w.heap.size, 1, none⟩ = some (.string t.name) ∧ w'.cell? ⟨w.heap.size, 2, none⟩ = some (.int .i64 t.n) ∧ w'.cell? ⟨w.heap.size, 3, none⟩ = some (.slice a n cap) ∧ w'.cell? ⟨w.heap.size + 1, 0, none⟩ = some (.int .i64 u.kind) ∧ w'.cell? ⟨w.heap.size + 1, 1, none⟩ = some (.string u.name) ∧ w'.cell? ⟨w.heap.size + 1, 2, none⟩ = some (.int .i64 u.n) ∧ w'.cell? ⟨w.heap.size + 1, 3, none⟩ = some (.slice a' n' cap'))
      ((repeat' apply And.intro) <;> (repeat (first | with_reducible assumption | with_reducible refine cell_drew ?_ | with_reducible refine cell_alloc _ ?_ | with_reducible refine cell_row_far _ ?_ (by omega) | with_reducible refine cell_below ?_ HW2.out)))
      (first | (go_at_call 78; refine (cmp_int _ _ _).mono ?_; (rintro e w' ⟨rfl, rfl⟩)) | (go_at_call 79; refine (cmp_str _ _ _).mono ?_; (rintro e w' ⟨rfl, rfl⟩)) | (go_at_call 77; refine (or_any _ (ints4_mem _ _ HQ.out _ _ _ _ _)).mono ?_; (rintro e w' ⟨rfl, rfl⟩; rw [HZ.out])))
    all_goals
      go_wp2_with (first | (go_at_call 80 ; refine (HC.out _ ((below_drewN HW2.out 1).alloc HW2.out.size _)).mono ?_; rintro e w2 ⟨rfl, hb⟩; have HB2 := Lib.hid hb; clear hb))
      go_ret
      exact ⟨ret_int HF.out.symm, Below.to ((below_drewN HW2.out 1).alloc HW2.out.size _) HB2.out⟩
  · have e1 : (orL [cmpI t.kind u.kind, cmpI t.n u.n, cmpS t.name u.name, cmpI (n : Int) (n' : Int)] != 0) = true := by rw [bne_iff_ne]; exact hc
    have HF : Hid (cmpT t u = orL [cmpI t.kind u.kind, cmpI t.n u.n, cmpS t.name u.name, cmpI (n : Int) (n' : Int)]) := Lib.hid (by rw [HE.out, lx_not hc])
    clear hc
    go_enter Try.func69, Try.ntmps69
    go_wp2
    go_region_held3 (fun w' => w'.cell? ⟨w.heap.size, 0, none⟩ = some (.int .i64 t.kind) ∧ w'.cell? ⟨w.heap.size, 1, none⟩ = some (.string t.name) ∧ w'.cell? ⟨w.heap.size, 2, none⟩ = some (.int .i64 t.n) ∧ w'.cell? ⟨w.heap.size, 3, none⟩ = some (.slice a n cap) ∧ w'.cell? ⟨w.heap.size + 1, 0, none⟩ = some (.int .i64 u.kind) ∧ w'.cell? ⟨w.heap.size + 1, 1, none⟩ = some (.string u.name) ∧ w'.cell? ⟨w.heap.size + 1, 2, none⟩ = some (.int .i64 u.n) ∧ w'.cell? ⟨w.heap.size + 1, 3, none⟩ = some (.slice a' n' cap'))
      ((repeat' apply And.intro) <;> (repeat (first | with_reducible assumption | with_reducible refine cell_drew ?_ | with_reducible refine cell_alloc _ ?_ | with_reducible refine cell_row_far _ ?_ (by omega) | with_reducible refine cell_below ?_ HW2.out)))
      (first | (go_at_call 78; refine (cmp_int _ _ _).mono ?_; (rintro e w' ⟨rfl, rfl⟩)) | (go_at_call 79; refine (cmp_str _ _ _).mono ?_; (rintro e w' ⟨rfl, rfl⟩)) | (go_at_call 77; refine (or_any _ (ints4_mem _ _ HQ.out _ _ _ _ _)).mono ?_; (rintro e w' ⟨rfl, rfl⟩)))
    all_goals
      go_wp2
      go_ret
      exact ⟨ret_int HF.out.symm, (below_drewN HW2.out 1).alloc HW2.out.size _⟩
theorem compare_size (m : Nat) : ∀ t, t.size ≤ m → CmpAt t := by
  induction m with
  | zero => intro t h; have := t.size_pos; omega
  | succ m ih => intro t h; exact compare_of fun x hx => ih x (by have := Tm.size_arg hx; omega)
theorem compare_any (t : Tm) : CmpAt t := compare_size t.size t (Nat.le_refl _)
end Go.Proofs.Ytmadfkofmehfkaa

/-
  term.Same. No condition but how the terms lie.
-/
namespace Go.Proofs.Ytmadfkofmehfkaa
open Go.RowKit

set_option maxRecDepth 100000 in
set_option maxHeartbeats 2000000 in
theorem sameTm2 {t u : Tm} {a a' : Option Addr} {n n' cap cap' : Nat} (w : World) (h : MemW w (.s 4 (Tm.rows t.args)) (.slice a n cap)) (h' : MemW w (.s 4 (Tm.rows u.args)) (.slice a' n' cap')) :
    Calls Try.prog 57 #[.agg #[.int .i64 t.kind, .string t.name, .int .i64 t.n, .slice a n cap], .agg #[.int .i64 u.kind, .string u.name, .int .i64 u.n, .slice a' n' cap']] w fun e w' => e = .returned (.bool (cmpT t u == 0)) ∧ Below w.heap.size w w' := by
  have HT := Lib.hid h
  have HU := Lib.hid h'
  clear h h'
  have HB0 : Hid (Below w.heap.size w ((w.alloc (.cells #[.int .i64 t.kind, .string t.name, .int .i64 t.n, .slice a n cap] 24)).alloc (.cells #[.int .i64 u.kind, .string u.name, .int .i64 u.n, .slice a' n' cap'] 24))) := Lib.hid ((below_new w _).alloc (by simp) _)
  go_enter Try.func57, Try.ntmps57
  go_wp2_with (first
    | (go_at_call 69 ; refine (compare_any t u _ _ _ _ _ _ _ (MemW.keep HT.out HB0.out) (MemW.keep HU.out HB0.out)).mono ?_; rintro e w3 ⟨rfl, hb⟩; have HB3 := Lib.hid hb; clear hb))
  go_ret
  exact ⟨rfl, Below.to HB0.out HB3.out⟩
end Go.Proofs.Ytmadfkofmehfkaa
