/-
  Chapter 11's example. No condition.
-/
import Derived.Test.YtemkpecagflafaaShow
import Derived.Test.YtemkpecagflafaaSplit
namespace Go.Proofs.Ytemkpecagflafaa
open Go.RowKit
attribute [local go_sem ↓] store_type
attribute [local go_sem] stOk_type
attribute [local go_sem] stB_eq stC_eq wr_drew wr_alloc wr_row
attribute [local go_sem] toList_beq

/-- A variable by its number. -/
def vT (k : Int) : Tm := .mk 1 ⟨#[]⟩ k []
set_option maxRecDepth 100000 in
set_option maxHeartbeats 2000000 in
theorem var_any (k : Int) (w : World) : Calls Try.prog 88 #[.int .i64 k] w fun e w' => e = .returned (.agg #[.int .i64 1, .string ⟨#[]⟩, .int .i64 k, .slice none 0 0]) ∧ w.alloc (.cells #[.int .i64 1, .string ⟨#[]⟩, .int .i64 k, .slice none 0 0] 52) = w' := by
  go_enter Try.func88, Try.ntmps88
  go_wp2
  exact bodyPost_ret (v := .agg #[.int .i64 1, .string ⟨#[]⟩, .int .i64 k, .slice none 0 0]) (by simp [results, Try.results88, go_sem]) rfl ⟨rfl, rfl⟩

theorem show_vT (k : Int) (h0 : 0 ≤ k) (h1 : k < 26) : ShowAt (vT k) := fun w _ _ _ _ => show_letter w rfl h0 h1
theorem show_ba : ShowAt (funT [vT 1] (vT 0)) := fun w _ _ _ h => show_fun (x := vT 1) (y := vT 0) w rfl rfl h (show_vT 1 (by decide) (by decide)) (show_vT 0 (by decide) (by decide)) (by decide +kernel) (by decide +kernel)
theorem show_aba : ShowAt (funT [vT 0, vT 1] (vT 0)) := fun w _ _ _ h => show_fun (x := vT 0) (y := funT [vT 1] (vT 0)) w rfl rfl h (show_vT 0 (by decide) (by decide)) show_ba (by decide +kernel) (by decide +kernel)
theorem aba_text : showT (funT [vT 0, vT 1] (vT 0)) = ⟨#[97, 32, 45, 62, 32, 98, 32, 45, 62, 32, 97]⟩ := by decide +kernel

theorem ab_mem (w : World) (B q : Nat) (hq : q = w.heap.size) (hB : q < B) : Mem (· < B) (w.alloc (.cells #[.int .i64 1, .string ⟨#[]⟩, .int .i64 0, .slice none 0 0, .int .i64 1, .string ⟨#[]⟩, .int .i64 1, .slice none 0 0] 52)) (.s 4 (Tm.rows [vT 0, vT 1])) (.slice (some ⟨q, 0, none⟩) 2 2) := by
  subst hq
  exact (two_mem (B := 0) (q0 := w.heap.size) (vT 0) (vT 1) 52 (a := none) (a' := none) (n := 0) (n' := 0) (cap := 0) (cap' := 0) (by rw [show (vT 0).args = [] from rfl, Tm.rows]; exact .e _ _ _ (by decide)) (by rw [show (vT 1).args = [] from rfl, Tm.rows]; exact .e _ _ _ (by decide)) (Nat.le_refl _)).mono (fun b hb => by have := hb.2; omega) fun _ _ => rfl
theorem v0_mem (S : Nat → Prop) (w : World) : Mem S w (.s 4 (Tm.rows (vT 0).args)) (.slice none 0 0) := by rw [show (vT 0).args = [] from rfl, Tm.rows]; exact .e _ _ _ (by decide)
theorem nw_memW {B base : Nat} {w : World} {x : At} {y : Value} (h : Mem (Nw B base w.heap.size) w x y) : MemW w x y := h.mono (fun _ hb => hb.2) fun _ _ => rfl
set_option maxRecDepth 100000 in
set_option maxHeartbeats 2000000 in
theorem awake11_any (w : World) : Calls Try.prog 39 #[] w fun e w' => e = .returned (.bool true) ∧ Below w.heap.size w w' := by
  go_enter Try.func39, Try.ntmps39
  go_wp2_with (first
    | (go_at_call 88 ; refine (var_any _ _).mono ?_; rintro e w1 ⟨rfl, rfl⟩)
    | (go_at_call 41 ; refine (fun_any (l := [vT 0, vT 1]) (to := vT 0) (B := w.heap.size + 5) (ab_mem _ _ _ (by simp) (by omega)) (v0_mem _ _) (by simp)).mono ?_; rintro e w2 ⟨a, n, cap, rfl, hb, hm⟩; have HB2 := Lib.hid hb; have HM2 := Lib.hid (nw_memW hm); clear hb hm)
    | (go_at_call 53 ; refine (show_aba _ a n cap HM2.out).mono ?_; rintro e w3 ⟨rfl, hb⟩; rw [aba_text]; have HB3 := Lib.hid hb; clear hb))
  go_ret
  refine ⟨rfl, Below.to (Below.to ?_ HB2.out) HB3.out⟩
  exact ((((below_new w _).alloc (by simp) _).alloc (by simp; omega) _).alloc (by simp; omega) _).alloc (by simp; omega) _
end Go.Proofs.Ytemkpecagflafaa
