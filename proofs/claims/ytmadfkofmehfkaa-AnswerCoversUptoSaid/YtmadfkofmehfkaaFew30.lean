/-
  The law's Few of answers. No condition but how they lie, and how great they are.
-/
import Derived.Test.YtmadfkofmehfkaaAns
import Derived.Deep.RegionHeld3
namespace Go.Proofs.Ytmadfkofmehfkaa
open Go.RowKit

set_option maxRecDepth 100000 in
set_option maxHeartbeats 20000000 in
theorem few30_any {l : List Ans} {n cap : Nat} {a : Option Addr} (w : World) (h : MemW w (.s 5 (ansRows l)) (.slice a n cap)) (hs : ∀ x ∈ l, (Tm.alls x.all).length ≤ 1048576) :
    Calls Try.prog 17 #[.slice a n cap] w fun e w' => e = .returned (.bool (fewA l)) ∧ Below w.heap.size w w' := by
  have hl := ans_len h
  have HL := Lib.hid hl.1
  have hcap := hl.2.1
  have hmx := hl.2.2
  have H := Lib.hid h
  have HS := Lib.hid hs
  clear hl h hs
  go_enter Try.func17, Try.ntmps17
  go_wp2
  go_loopw [7] (fun i wr => ∃ k : Nat, k ≤ n ∧ i = .int .i64 k ∧ Hid ((l.take k).all (fun x => fewB x.all) = true) ∧ Hid (Below w.heap.size w wr)) (fun i _ => n - (intOf i).toNat)
  case atStart => exact ⟨0, Nat.zero_le _, rfl, Lib.hid (by rw [List.take_zero]; rfl), Lib.hid (Below.refl _ _)⟩
  case round =>
    obtain ⟨k, hk, rfl, HA, HB⟩ := hrel
    by_cases hlt : k < n
    · have hltz : (k : Int) < (n : Int) := by omega
      obtain ⟨b, o, x, ab, nb, cb, ax, nx, capx, rfl, hbB, Hx, x0, x1, x2, x3, x4, GB, GV⟩ := ans_at (MemW.keep H.out HB.out) k hlt
      have HSX := Lib.hid (HS.out x (mem_of_at Hx.out))
      have HBL : Hid ((Tm.rows x.binds).length ≤ 1048576) := Lib.hid (by
        have h1 := HSX.out
        have h2 := Tm.len_args x.all
        rw [Ans.all, List.length_append] at h2
        rw [Tm.rows_len]
        rw [Ans.all] at h1
        omega)
      have GB2 := Lib.hid (MemW.alloc GB.out (.cells #[.slice ab nb cb, .int .i64 x.value.kind, .string x.value.name, .int .i64 x.value.n, .slice ax nx capx] 48))
      have GV2 := Lib.hid (MemW.alloc GV.out (.cells #[.slice ab nb cb, .int .i64 x.value.kind, .string x.value.name, .int .i64 x.value.n, .slice ax nx capx] 48))
      have HBA := Lib.hid (HB.out.alloc HB.out.size (.cells #[.slice ab nb cb, .int .i64 x.value.kind, .string x.value.name, .int .i64 x.value.n, .slice ax nx capx] 48))
      have HLM : Hid (MemW ((wr.alloc (.cells #[.slice ab nb cb, .int .i64 x.value.kind, .string x.value.name, .int .i64 x.value.n, .slice ax nx capx] 48)).alloc (.cells #[.int .i64 x.value.kind, .string x.value.name, .int .i64 x.value.n, .slice ax nx capx] 24)) (.s 4 (Tm.rows [x.value])) (.slice (some ⟨wr.heap.size + 1, 0, none⟩) 1 1)) := Lib.hid (by have := one_mem x.value GV2.out; rw [World.size_alloc] at this; exact this)
      have HY := Lib.hid (Bo.new wr 48 #[.slice ab nb cb, .int .i64 x.value.kind, .string x.value.name, .int .i64 x.value.n, .slice ax nx capx])
      have z0 : (wr.alloc (.cells #[.slice ab nb cb, .int .i64 x.value.kind, .string x.value.name, .int .i64 x.value.n, .slice ax nx capx] 48)).cell? ⟨wr.heap.size, 0, none⟩ = some (.slice ab nb cb) := HY.out.cell (j := 0) rfl
      have z1 : (wr.alloc (.cells #[.slice ab nb cb, .int .i64 x.value.kind, .string x.value.name, .int .i64 x.value.n, .slice ax nx capx] 48)).cell? ⟨wr.heap.size, 1, none⟩ = some (.int .i64 x.value.kind) := HY.out.cell (j := 1) rfl
      have z2 : (wr.alloc (.cells #[.slice ab nb cb, .int .i64 x.value.kind, .string x.value.name, .int .i64 x.value.n, .slice ax nx capx] 48)).cell? ⟨wr.heap.size, 2, none⟩ = some (.string x.value.name) := HY.out.cell (j := 2) rfl
      have z3 : (wr.alloc (.cells #[.slice ab nb cb, .int .i64 x.value.kind, .string x.value.name, .int .i64 x.value.n, .slice ax nx capx] 48)).cell? ⟨wr.heap.size, 3, none⟩ = some (.int .i64 x.value.n) := HY.out.cell (j := 3) rfl
      have z4 : (wr.alloc (.cells #[.slice ab nb cb, .int .i64 x.value.kind, .string x.value.name, .int .i64 x.value.n, .slice ax nx capx] 48)).cell? ⟨wr.heap.size, 4, none⟩ = some (.slice ax nx capx) := HY.out.cell (j := 4) rfl
      have HT : Hid ((l.take (k + 1)).all (fun x => fewB x.all) = fewB x.all) := Lib.hid (by
        rw [take_at Hx.out, List.all_append, HA.out]
        simp)
      by_cases hf : fewB x.all = true
      · have HFX := Lib.hid hf
        clear hf
        go_wp2
        go_region_held3 (fun w' => w'.cell? ⟨wr.heap.size, 0, none⟩ = some (.slice ab nb cb) ∧ w'.cell? ⟨wr.heap.size, 1, none⟩ = some (.int .i64 x.value.kind) ∧ w'.cell? ⟨wr.heap.size, 2, none⟩ = some (.string x.value.name) ∧ w'.cell? ⟨wr.heap.size, 3, none⟩ = some (.int .i64 x.value.n) ∧ w'.cell? ⟨wr.heap.size, 4, none⟩ = some (.slice ax nx capx))
          ((repeat' apply And.intro) <;> (repeat (first | with_reducible assumption | with_reducible refine cell_drew ?_ | with_reducible refine cell_alloc _ ?_ | with_reducible refine cell_row_far _ ?_ (by omega) | with_reducible refine cell_below ?_ HB5.out | with_reducible refine cell_below ?_ HB7.out)))
          (first
            | (refine stepx_app (by rfl) (.const (.slice none 0 0)) (.tmp 12) (by rfl) (by rfl) (by rfl) (ans_app1 (W0 := wr.alloc (.cells #[.slice ab nb cb, .int .i64 x.value.kind, .string x.value.name, .int .i64 x.value.n, .slice ax nx capx] 48)) (by exact ⟨rfl, rfl, rfl, rfl⟩) GB2.out HBL.out) ?_; rintro v5 w5 ⟨a5, c5, rfl, ho5, hb5⟩; have HO5 := Lib.hid ho5; have HB5 := Lib.hid hb5; clear ho5 hb5)
            | (refine stepx_app (by rfl) (.const (.slice none 0 0)) (.tmp 12) (by rfl) (by rfl) (by rfl) (ans_app1 (W0 := (wr.alloc (.cells #[.slice ab nb cb, .int .i64 x.value.kind, .string x.value.name, .int .i64 x.value.n, .slice ax nx capx] 48)).alloc (.cells #[.int .i64 x.value.kind, .string x.value.name, .int .i64 x.value.n, .slice ax nx capx] 24)) (by exact ⟨rfl, rfl, rfl, rfl⟩) (MemW.alloc GB2.out _) HBL.out) ?_; rintro v5 w5 ⟨a5, c5, rfl, ho5, hb5⟩; have HO5b := Lib.hid ho5; have HB5 := Lib.hid hb5; clear ho5 hb5)
            | (refine stepx_app (by rfl) (.tmp 13) (.tmp 16) (by rfl) (by rfl) (by rfl) (ans_app2 (W1 := w5) (base := (wr.alloc (.cells #[.slice ab nb cb, .int .i64 x.value.kind, .string x.value.name, .int .i64 x.value.n, .slice ax nx capx] 48)).heap.size) (by exact ⟨rfl, rfl, rfl, rfl⟩) rfl HO5.out (Mem.keep GV2.out (Nat.le_refl _) HB5.out) HB5.out.size HBL.out) ?_; rintro v6 w6 ⟨a6, c6, rfl, hm6, hb6⟩; have HM6 := Lib.hid hm6; have HB56 := Lib.hid (HB5.out.trans hb6); clear hm6 hb6; have s0 := cell_below z0 HB56.out; have s1 := cell_below z1 HB56.out; have s2 := cell_below z2 HB56.out; have s3 := cell_below z3 HB56.out; have s4 := cell_below z4 HB56.out)
            | (refine stepx_app (by rfl) (.tmp 13) (.tmp 16) (by rfl) (by rfl) (by rfl) (ans_app3 (W1 := w5) (base := ((wr.alloc (.cells #[.slice ab nb cb, .int .i64 x.value.kind, .string x.value.name, .int .i64 x.value.n, .slice ax nx capx] 48)).alloc (.cells #[.int .i64 x.value.kind, .string x.value.name, .int .i64 x.value.n, .slice ax nx capx] 24)).heap.size) (by exact ⟨rfl, rfl, rfl, rfl⟩) HO5b.out (Mem.keep HLM.out (Nat.le_refl _) HB5.out) HB5.out.size (by have := HBL.out; simp only [Tm.rows, List.length_cons, List.length_nil]; omega)) ?_; rintro v6 w6 ⟨a6, c6, rfl, hm6, hb6⟩; have HM6 := Lib.hid hm6; have HB56 := Lib.hid ((below_new (wr.alloc (.cells #[.slice ab nb cb, .int .i64 x.value.kind, .string x.value.name, .int .i64 x.value.n, .slice ax nx capx] 48)) (.cells #[.int .i64 x.value.kind, .string x.value.name, .int .i64 x.value.n, .slice ax nx capx] 24)).trans ((HB5.out.trans hb6).mono (below_new (wr.alloc (.cells #[.slice ab nb cb, .int .i64 x.value.kind, .string x.value.name, .int .i64 x.value.n, .slice ax nx capx] 48)) (.cells #[.int .i64 x.value.kind, .string x.value.name, .int .i64 x.value.n, .slice ax nx capx] 24)).size)); clear hm6 hb6; have s0 := cell_below z0 HB56.out; have s1 := cell_below z1 HB56.out; have s2 := cell_below z2 HB56.out; have s3 := cell_below z3 HB56.out; have s4 := cell_below z4 HB56.out)
            | (go_at_call 8
               refine (few_any (l := x.all) w6 (by rw [Ans.all, Tm.rows_app]; exact HM6.out) HSX.out).mono ?_
               rintro e w7 ⟨rfl, hb⟩
               rw [HFX.out]
               have HB7 := Lib.hid hb
               clear hb))
        all_goals
          go_wp2
          go_roundw
          case rel => exact ⟨k + 1, by omega, by go_num, Lib.hid (by rw [HT.out]; exact HFX.out), Lib.hid (HBA.out.trans ((HB56.out.trans (HB7.out.mono HB56.out.size)).mono HBA.out.size))⟩
          case measure => simp [intOf]; omega
      · have hf' : fewB x.all = false := by simpa using hf
        have HFX := Lib.hid hf'
        have HFL : Hid (fewA l = false) := Lib.hid (by
          unfold fewA
          rw [Bool.and_eq_false_iff]
          refine .inl ?_
          rw [Bool.eq_false_iff]
          intro hall
          have := List.all_eq_true.1 hall x (mem_of_at Hx.out)
          exact hf this)
        clear hf hf'
        go_wp2
        go_region_held3 (fun w' => w'.cell? ⟨wr.heap.size, 0, none⟩ = some (.slice ab nb cb) ∧ w'.cell? ⟨wr.heap.size, 1, none⟩ = some (.int .i64 x.value.kind) ∧ w'.cell? ⟨wr.heap.size, 2, none⟩ = some (.string x.value.name) ∧ w'.cell? ⟨wr.heap.size, 3, none⟩ = some (.int .i64 x.value.n) ∧ w'.cell? ⟨wr.heap.size, 4, none⟩ = some (.slice ax nx capx))
          ((repeat' apply And.intro) <;> (repeat (first | with_reducible assumption | with_reducible refine cell_drew ?_ | with_reducible refine cell_alloc _ ?_ | with_reducible refine cell_row_far _ ?_ (by omega) | with_reducible refine cell_below ?_ HB5.out | with_reducible refine cell_below ?_ HB7.out)))
          (first
            | (refine stepx_app (by rfl) (.const (.slice none 0 0)) (.tmp 12) (by rfl) (by rfl) (by rfl) (ans_app1 (W0 := wr.alloc (.cells #[.slice ab nb cb, .int .i64 x.value.kind, .string x.value.name, .int .i64 x.value.n, .slice ax nx capx] 48)) (by exact ⟨rfl, rfl, rfl, rfl⟩) GB2.out HBL.out) ?_; rintro v5 w5 ⟨a5, c5, rfl, ho5, hb5⟩; have HO5 := Lib.hid ho5; have HB5 := Lib.hid hb5; clear ho5 hb5)
            | (refine stepx_app (by rfl) (.const (.slice none 0 0)) (.tmp 12) (by rfl) (by rfl) (by rfl) (ans_app1 (W0 := (wr.alloc (.cells #[.slice ab nb cb, .int .i64 x.value.kind, .string x.value.name, .int .i64 x.value.n, .slice ax nx capx] 48)).alloc (.cells #[.int .i64 x.value.kind, .string x.value.name, .int .i64 x.value.n, .slice ax nx capx] 24)) (by exact ⟨rfl, rfl, rfl, rfl⟩) (MemW.alloc GB2.out _) HBL.out) ?_; rintro v5 w5 ⟨a5, c5, rfl, ho5, hb5⟩; have HO5b := Lib.hid ho5; have HB5 := Lib.hid hb5; clear ho5 hb5)
            | (refine stepx_app (by rfl) (.tmp 13) (.tmp 16) (by rfl) (by rfl) (by rfl) (ans_app2 (W1 := w5) (base := (wr.alloc (.cells #[.slice ab nb cb, .int .i64 x.value.kind, .string x.value.name, .int .i64 x.value.n, .slice ax nx capx] 48)).heap.size) (by exact ⟨rfl, rfl, rfl, rfl⟩) rfl HO5.out (Mem.keep GV2.out (Nat.le_refl _) HB5.out) HB5.out.size HBL.out) ?_; rintro v6 w6 ⟨a6, c6, rfl, hm6, hb6⟩; have HM6 := Lib.hid hm6; have HB56 := Lib.hid (HB5.out.trans hb6); clear hm6 hb6; have s0 := cell_below z0 HB56.out; have s1 := cell_below z1 HB56.out; have s2 := cell_below z2 HB56.out; have s3 := cell_below z3 HB56.out; have s4 := cell_below z4 HB56.out)
            | (refine stepx_app (by rfl) (.tmp 13) (.tmp 16) (by rfl) (by rfl) (by rfl) (ans_app3 (W1 := w5) (base := ((wr.alloc (.cells #[.slice ab nb cb, .int .i64 x.value.kind, .string x.value.name, .int .i64 x.value.n, .slice ax nx capx] 48)).alloc (.cells #[.int .i64 x.value.kind, .string x.value.name, .int .i64 x.value.n, .slice ax nx capx] 24)).heap.size) (by exact ⟨rfl, rfl, rfl, rfl⟩) HO5b.out (Mem.keep HLM.out (Nat.le_refl _) HB5.out) HB5.out.size (by have := HBL.out; simp only [Tm.rows, List.length_cons, List.length_nil]; omega)) ?_; rintro v6 w6 ⟨a6, c6, rfl, hm6, hb6⟩; have HM6 := Lib.hid hm6; have HB56 := Lib.hid ((below_new (wr.alloc (.cells #[.slice ab nb cb, .int .i64 x.value.kind, .string x.value.name, .int .i64 x.value.n, .slice ax nx capx] 48)) (.cells #[.int .i64 x.value.kind, .string x.value.name, .int .i64 x.value.n, .slice ax nx capx] 24)).trans ((HB5.out.trans hb6).mono (below_new (wr.alloc (.cells #[.slice ab nb cb, .int .i64 x.value.kind, .string x.value.name, .int .i64 x.value.n, .slice ax nx capx] 48)) (.cells #[.int .i64 x.value.kind, .string x.value.name, .int .i64 x.value.n, .slice ax nx capx] 24)).size)); clear hm6 hb6; have s0 := cell_below z0 HB56.out; have s1 := cell_below z1 HB56.out; have s2 := cell_below z2 HB56.out; have s3 := cell_below z3 HB56.out; have s4 := cell_below z4 HB56.out)
            | (go_at_call 8
               refine (few_any (l := x.all) w6 (by rw [Ans.all, Tm.rows_app]; exact HM6.out) HSX.out).mono ?_
               rintro e w7 ⟨rfl, hb⟩
               rw [HFX.out]
               have HB7 := Lib.hid hb
               clear hb))
        all_goals go_wp2
        all_goals go_ret
        all_goals exact ⟨ret_bool HFL.out.symm, HBA.out.trans ((HB56.out.trans (HB7.out.mono HB56.out.size)).mono HBA.out.size)⟩
    · obtain rfl : k = n := by omega
      have hltz : ¬ (k : Int) < (k : Int) := by omega
      have HF : Hid (fewA l = decide ((k : Int) ≤ 10)) := Lib.hid (by
        have h1 := HA.out
        rw [List.take_of_length_le (by rw [HL.out]; exact Nat.le_refl _)] at h1
        unfold fewA
        rw [h1, Bool.true_and, HL.out]
        exact decide_eq_decide.2 (by omega))
      go_wp2
      all_goals
        go_ret
        refine ⟨ret_bool ?_, HB.out⟩
        first
          | exact HF.out.symm
          | (rw [HF.out]; simp; omega)
end Go.Proofs.Ytmadfkofmehfkaa
