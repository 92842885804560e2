/-
  The law's Few of answers. No condition but how they lie, and how great they are.
-/
import Derived.Test.YtmadfkofmehfkaaAt20
import Derived.Deep.RegionHeld3
import Derived.Test.YtmadfkofmehfkaaAt19
import Derived.Test.YtmadfkofmehfkaaAt7
namespace Go.Proofs.Ytmadfkofmehfkaa
open Go.RowKit

set_option maxRecDepth 100000 in
set_option maxHeartbeats 20000000 in
theorem few30_any {l : List Ans} {n cap : Nat} {a : Option Addr} (w : World) (h : MemW w (.s 5 (ansRows l)) (.slice a n cap)) (hs : ∀ x ∈ l, (Tm.alls x.all).length ≤ 1048576) :
    Calls Try.prog 17 #[.slice a n cap] w fun e w' => e = .returned (.bool (fewA l)) ∧ Below w.heap.size w w' := by
  have hl := ans_len h
  have HL := Lib.hid hl.1
  have hcap := hl.2.1
  have hmx := hl.2.2
  have H := Lib.hid h
  have HS := Lib.hid hs
  clear hl h hs
  go_enter Try.func17, Try.ntmps17
  go_wp2
  go_loopw [7] (fun i wr => ∃ k : Nat, k ≤ n ∧ i = .int .i64 k ∧ Hid ((l.take k).all (fun x => fewB x.all) = true) ∧ Hid (Below w.heap.size w wr)) (fun i _ => n - (intOf i).toNat)
  case atStart => exact ⟨0, Nat.zero_le _, rfl, Lib.hid (by rw [List.take_zero]; rfl), Lib.hid (Below.refl _ _)⟩
  case round =>
    obtain ⟨k, hk, rfl, HA, HB⟩ := hrel
    by_cases hlt : k < n
    · have hltz : (k : Int) < (n : Int) := by omega
      obtain ⟨b, o, x, ab, nb, cb, ax, nx, capx, rfl, hbB, Hx, x0, x1, x2, x3, x4, GB, GV⟩ := ans_at (MemW.keep H.out HB.out) k hlt
      have HSX := Lib.hid (HS.out x (mem_of_at Hx.out))
      have HBL : Hid ((Tm.rows x.binds).length ≤ 1048576) := Lib.hid (by
        have h1 := HSX.out
        have h2 := Tm.len_args x.all
        rw [Ans.all, List.length_append] at h2
        rw [Tm.rows_len]
        rw [Ans.all] at h1
        omega)
      have GB2 := Lib.hid (MemW.alloc GB.out (.cells #[.slice ab nb cb, .int .i64 x.value.kind, .string x.value.name, .int .i64 x.value.n, .slice ax nx capx] 48))
      have GV2 := Lib.hid (MemW.alloc GV.out (.cells #[.slice ab nb cb, .int .i64 x.value.kind, .string x.value.name, .int .i64 x.value.n, .slice ax nx capx] 48))
      have HBA := Lib.hid (HB.out.alloc HB.out.size (.cells #[.slice ab nb cb, .int .i64 x.value.kind, .string x.value.name, .int .i64 x.value.n, .slice ax nx capx] 48))
      have HLM : Hid (MemW ((wr.alloc (.cells #[.slice ab nb cb, .int .i64 x.value.kind, .string x.value.name, .int .i64 x.value.n, .slice ax nx capx] 48)).alloc (.cells #[.int .i64 x.value.kind, .string x.value.name, .int .i64 x.value.n, .slice ax nx capx] 24)) (.s 4 (Tm.rows [x.value])) (.slice (some ⟨wr.heap.size + 1, 0, none⟩) 1 1)) := Lib.hid (by have := one_mem x.value GV2.out; rw [World.size_alloc] at this; exact this)
      have HY := Lib.hid (Bo.new wr 48 #[.slice ab nb cb, .int .i64 x.value.kind, .string x.value.name, .int .i64 x.value.n, .slice ax nx capx])
      have z0 : (wr.alloc (.cells #[.slice ab nb cb, .int .i64 x.value.kind, .string x.value.name, .int .i64 x.value.n, .slice ax nx capx] 48)).cell? ⟨wr.heap.size, 0, none⟩ = some (.slice ab nb cb) := HY.out.cell (j := 0) rfl
      have z1 : (wr.alloc (.cells #[.slice ab nb cb, .int .i64 x.value.kind, .string x.value.name, .int .i64 x.value.n, .slice ax nx capx] 48)).cell? ⟨wr.heap.size, 1, none⟩ = some (.int .i64 x.value.kind) := HY.out.cell (j := 1) rfl
      have z2 : (wr.alloc (.cells #[.slice ab nb cb, .int .i64 x.value.kind, .string x.value.name, .int .i64 x.value.n, .slice ax nx capx] 48)).cell? ⟨wr.heap.size, 2, none⟩ = some (.string x.value.name) := HY.out.cell (j := 2) rfl
      have z3 : (wr.alloc (.cells #[.slice ab nb cb, .int .i64 x.value.kind, .string x.value.name, .int .i64 x.value.n, .slice ax nx capx] 48)).cell? ⟨wr.heap.size, 3, none⟩ = some (.int .i64 x.value.n) := HY.out.cell (j := 3) rfl
      have z4 : (wr.alloc (.cells #[.slice ab nb cb, .int .i64 x.value.kind, .string x.value.name, .int .i64 x.value.n, .slice ax nx capx] 48)).cell? ⟨wr.heap.size, 4, none⟩ = some (.slice ax nx capx) := HY.out.cell (j := 4) rfl
      have HT : Hid ((l.take (k + 1)).all (fun x => fewB x.all) = fewB x.all) := Lib.hid (by
        rw [take_at Hx.out, List.all_append, HA.out]
        simp)
      by_cases hf : fewB x.all = true
      · have HFX := Lib.hid hf
        clear hf
        go_wp2
        go_region_held3 (fun w' => w'.cell? ⟨wr.heap.size, 0, none⟩ = some (.slice ab nb cb) ∧ w'.cell? ⟨wr.heap.size, 1, none⟩ = some (.int .i64 x.value.kind) ∧ w'.cell? ⟨wr.heap.size, 2, none⟩ = some (.string x.value.name) ∧ w'.cell? ⟨wr.heap.size, 3, none⟩ = some (.int .i64 x.value.n) ∧ w'.cell? ⟨wr.heap.size, 4, none⟩ = some (.slice ax nx capx))
          ((repeat' apply And.intro) <;> (repeat (first | with_reducible assumption | with_reducible refine cell_drew ?_ | with_reducible refine cell_alloc _ ?_ | with_reducible refine cell_row_far _ ?_ (by omega) | with_reducible refine cell_below ?_ HB5.out | with_reducible refine cell_below ?_ HB7.out)))
          (first
            | (refine stepx_app (by rfl) (.const (.slice none 0 0)) (.tmp 12) (by rfl) (by rfl) (by rfl) (ans_app1 (W0 := wr.alloc (.cells #[.slice ab nb cb, .int .i64 x.value.kind, .string x.value.name, .int .i64 x.value.n, .slice ax nx capx] 48)) (by exact ⟨rfl, rfl, rfl, rfl⟩) GB2.out HBL.out) ?_; rintro v5 w5 ⟨a5, c5, rfl, ho5, hb5⟩; have HO5 := Lib.hid ho5; have HB5 := Lib.hid hb5; clear ho5 hb5)
            | (refine stepx_app (by rfl) (.const (.slice none 0 0)) (.tmp 12) (by rfl) (by rfl) (by rfl) (ans_app1 (W0 := (wr.alloc (.cells #[.slice ab nb cb, .int .i64 x.value.kind, .string x.value.name, .int .i64 x.value.n, .slice ax nx capx] 48)).alloc (.cells #[.int .i64 x.value.kind, .string x.value.name, .int .i64 x.value.n, .slice ax nx capx] 24)) (by exact ⟨rfl, rfl, rfl, rfl⟩) (MemW.alloc GB2.out _) HBL.out) ?_; rintro v5 w5 ⟨a5, c5, rfl, ho5, hb5⟩; have HO5b := Lib.hid ho5; have HB5 := Lib.hid hb5; clear ho5 hb5)
            | (refine stepx_app (by rfl) (.tmp 13) (.tmp 16) (by rfl) (by rfl) (by rfl) (ans_app2 (W1 := w5) (base := (wr.alloc (.cells #[.slice ab nb cb, .int .i64 x.value.kind, .string x.value.name, .int .i64 x.value.n, .slice ax nx capx] 48)).heap.size) (by exact ⟨rfl, rfl, rfl, rfl⟩) rfl HO5.out (Mem.keep GV2.out (Nat.le_refl _) HB5.out) HB5.out.size HBL.out) ?_; rintro v6 w6 ⟨a6, c6, rfl, hm6, hb6⟩; have HM6 := Lib.hid hm6; have HB56 := Lib.hid (HB5.out.trans hb6); clear hm6 hb6; have s0 := cell_below z0 HB56.out; have s1 := cell_below z1 HB56.out; have s2 := cell_below z2 HB56.out; have s3 := cell_below z3 HB56.out; have s4 := cell_below z4 HB56.out)
            | (refine stepx_app (by rfl) (.tmp 13) (.tmp 16) (by rfl) (by rfl) (by rfl) (ans_app3 (W1 := w5) (base := ((wr.alloc (.cells #[.slice ab nb cb, .int .i64 x.value.kind, .string x.value.name, .int .i64 x.value.n, .slice ax nx capx] 48)).alloc (.cells #[.int .i64 x.value.kind, .string x.value.name, .int .i64 x.value.n, .slice ax nx capx] 24)).heap.size) (by exact ⟨rfl, rfl, rfl, rfl⟩) HO5b.out (Mem.keep HLM.out (Nat.le_refl _) HB5.out) HB5.out.size (by have := HBL.out; simp only [Tm.rows, List.length_cons, List.length_nil]; omega)) ?_; rintro v6 w6 ⟨a6, c6, rfl, hm6, hb6⟩; have HM6 := Lib.hid hm6; have HB56 := Lib.hid ((below_new (wr.alloc (.cells #[.slice ab nb cb, .int .i64 x.value.kind, .string x.value.name, .int .i64 x.value.n, .slice ax nx capx] 48)) (.cells #[.int .i64 x.value.kind, .string x.value.name, .int .i64 x.value.n, .slice ax nx capx] 24)).trans ((HB5.out.trans hb6).mono (below_new (wr.alloc (.cells #[.slice ab nb cb, .int .i64 x.value.kind, .string x.value.name, .int .i64 x.value.n, .slice ax nx capx] 48)) (.cells #[.int .i64 x.value.kind, .string x.value.name, .int .i64 x.value.n, .slice ax nx capx] 24)).size)); clear hm6 hb6; have s0 := cell_below z0 HB56.out; have s1 := cell_below z1 HB56.out; have s2 := cell_below z2 HB56.out; have s3 := cell_below z3 HB56.out; have s4 := cell_below z4 HB56.out)
            | (go_at_call 8
               refine (few_any (l := x.all) w6 (by rw [Ans.all, Tm.rows_app]; exact HM6.out) HSX.out).mono ?_
               rintro e w7 ⟨rfl, hb⟩
               rw [HFX.out]
               have HB7 := Lib.hid hb
               clear hb))
        all_goals
          go_wp2
          go_roundw
          case rel => exact ⟨k + 1, by omega, by go_num, Lib.hid (by rw [HT.out]; exact HFX.out), Lib.hid (HBA.out.trans ((HB56.out.trans (HB7.out.mono HB56.out.size)).mono HBA.out.size))⟩
          case measure => simp [intOf]; omega
      · have hf' : fewB x.all = false := by simpa using hf
        have HFX := Lib.hid hf'
        have HFL : Hid (fewA l = false) := Lib.hid (by
          unfold fewA
          rw [Bool.and_eq_false_iff]
          refine .inl ?_
          rw [Bool.eq_false_iff]
          intro hall
          have := List.all_eq_true.1 hall x (mem_of_at Hx.out)
          exact hf this)
        clear hf hf'
        go_wp2
        go_region_held3 (fun w' => w'.cell? ⟨wr.heap.size, 0, none⟩ = some (.slice ab nb cb) ∧ w'.cell? ⟨wr.heap.size, 1, none⟩ = some (.int .i64 x.value.kind) ∧ w'.cell? ⟨wr.heap.size, 2, none⟩ = some (.string x.value.name) ∧ w'.cell? ⟨wr.heap.size, 3, none⟩ = some (.int .i64 x.value.n) ∧ w'.cell? ⟨wr.heap.size, 4, none⟩ = some (.slice ax nx capx))
          ((repeat' apply And.intro) <;> (repeat (first | with_reducible assumption | with_reducible refine cell_drew ?_ | with_reducible refine cell_alloc _ ?_ | with_reducible refine cell_row_far _ ?_ (by omega) | with_reducible refine cell_below ?_ HB5.out | with_reducible refine cell_below ?_ HB7.out)))
          (first
            | (refine stepx_app (by rfl) (.const (.slice none 0 0)) (.tmp 12) (by rfl) (by rfl) (by rfl) (ans_app1 (W0 := wr.alloc (.cells #[.slice ab nb cb, .int .i64 x.value.kind, .string x.value.name, .int .i64 x.value.n, .slice ax nx capx] 48)) (by exact ⟨rfl, rfl, rfl, rfl⟩) GB2.out HBL.out) ?_; rintro v5 w5 ⟨a5, c5, rfl, ho5, hb5⟩; have HO5 := Lib.hid ho5; have HB5 := Lib.hid hb5; clear ho5 hb5)
            | (refine stepx_app (by rfl) (.const (.slice none 0 0)) (.tmp 12) (by rfl) (by rfl) (by rfl) (ans_app1 (W0 := (wr.alloc (.cells #[.slice ab nb cb, .int .i64 x.value.kind, .string x.value.name, .int .i64 x.value.n, .slice ax nx capx] 48)).alloc (.cells #[.int .i64 x.value.kind, .string x.value.name, .int .i64 x.value.n, .slice ax nx capx] 24)) (by exact ⟨rfl, rfl, rfl, rfl⟩) (MemW.alloc GB2.out _) HBL.out) ?_; rintro v5 w5 ⟨a5, c5, rfl, ho5, hb5⟩; have HO5b := Lib.hid ho5; have HB5 := Lib.hid hb5; clear ho5 hb5)
            | (refine stepx_app (by rfl) (.tmp 13) (.tmp 16) (by rfl) (by rfl) (by rfl) (ans_app2 (W1 := w5) (base := (wr.alloc (.cells #[.slice ab nb cb, .int .i64 x.value.kind, .string x.value.name, .int .i64 x.value.n, .slice ax nx capx] 48)).heap.size) (by exact ⟨rfl, rfl, rfl, rfl⟩) rfl HO5.out (Mem.keep GV2.out (Nat.le_refl _) HB5.out) HB5.out.size HBL.out) ?_; rintro v6 w6 ⟨a6, c6, rfl, hm6, hb6⟩; have HM6 := Lib.hid hm6; have HB56 := Lib.hid (HB5.out.trans hb6); clear hm6 hb6; have s0 := cell_below z0 HB56.out; have s1 := cell_below z1 HB56.out; have s2 := cell_below z2 HB56.out; have s3 := cell_below z3 HB56.out; have s4 := cell_below z4 HB56.out)
            | (refine stepx_app (by rfl) (.tmp 13) (.tmp 16) (by rfl) (by rfl) (by rfl) (ans_app3 (W1 := w5) (base := ((wr.alloc (.cells #[.slice ab nb cb, .int .i64 x.value.kind, .string x.value.name, .int .i64 x.value.n, .slice ax nx capx] 48)).alloc (.cells #[.int .i64 x.value.kind, .string x.value.name, .int .i64 x.value.n, .slice ax nx capx] 24)).heap.size) (by exact ⟨rfl, rfl, rfl, rfl⟩) HO5b.out (Mem.keep HLM.out (Nat.le_refl _) HB5.out) HB5.out.size (by have := HBL.out; simp only [Tm.rows, List.length_cons, List.length_nil]; omega)) ?_; rintro v6 w6 ⟨a6, c6, rfl, hm6, hb6⟩; have HM6 := Lib.hid hm6; have HB56 := Lib.hid ((below_new (wr.alloc (.cells #[.slice ab nb cb, .int .i64 x.value.kind, .string x.value.name, .int .i64 x.value.n, .slice ax nx capx] 48)) (.cells #[.int .i64 x.value.kind, .string x.value.name, .int .i64 x.value.n, .slice ax nx capx] 24)).trans ((HB5.out.trans hb6).mono (below_new (wr.alloc (.cells #[.slice ab nb cb, .int .i64 x.value.kind, .string x.value.name, .int .i64 x.value.n, .slice ax nx capx] 48)) (.cells #[.int .i64 x.value.kind, .string x.value.name, .int .i64 x.value.n, .slice ax nx capx] 24)).size)); clear hm6 hb6; have s0 := cell_below z0 HB56.out; have s1 := cell_below z1 HB56.out; have s2 := cell_below z2 HB56.out; have s3 := cell_below z3 HB56.out; have s4 := cell_below z4 HB56.out)
            | (go_at_call 8
               refine (few_any (l := x.all) w6 (by rw [Ans.all, Tm.rows_app]; exact HM6.out) HSX.out).mono ?_
               rintro e w7 ⟨rfl, hb⟩
               rw [HFX.out]
               have HB7 := Lib.hid hb
               clear hb))
        all_goals go_wp2
        all_goals go_ret
        all_goals exact ⟨ret_bool HFL.out.symm, HBA.out.trans ((HB56.out.trans (HB7.out.mono HB56.out.size)).mono HBA.out.size)⟩
    · obtain rfl : k = n := by omega
      have hltz : ¬ (k : Int) < (k : Int) := by omega
      have HF : Hid (fewA l = decide ((k : Int) ≤ 10)) := Lib.hid (by
        have h1 := HA.out
        rw [List.take_of_length_le (by rw [HL.out]; exact Nat.le_refl _)] at h1
        unfold fewA
        rw [h1, Bool.true_and, HL.out]
        exact decide_eq_decide.2 (by omega))
      go_wp2
      all_goals
        go_ret
        refine ⟨ret_bool ?_, HB.out⟩
        first
          | exact HF.out.symm
          | (rw [HF.out]; simp; omega)
end Go.Proofs.Ytmadfkofmehfkaa

/-
  The reference's Vars of terms. No condition but how they lie, and how many there are.
-/
namespace Go.Proofs.Ytmadfkofmehfkaa
open Go.RowKit

/-- The numbers of variables, each once, behind others. -/
def varsI (l : List Int) (ts : List Tm) : List Int := ts.foldl (fun l x => if x.kind = 3 then putI l x.n else l) l
theorem varsI_snoc (l : List Int) (ts : List Tm) (x : Tm) : varsI l (ts ++ [x]) = if x.kind = 3 then putI (varsI l ts) x.n else varsI l ts := by unfold varsI; rw [List.foldl_append]; rfl
theorem varsI_app (l : List Int) (ts us : List Tm) : varsI l (ts ++ us) = varsI (varsI l ts) us := by unfold varsI; rw [List.foldl_append]
theorem varsI_len (l : List Int) (ts : List Tm) : (varsI l ts).length ≤ l.length + ts.length := by
  induction ts generalizing l with
  | nil => exact Nat.le_refl _
  | cons x ts ih =>
    have : varsI l (x :: ts) = varsI (if x.kind = 3 then putI l x.n else l) ts := rfl
    rw [this]
    have := ih (if x.kind = 3 then putI l x.n else l)
    have h2 : (if x.kind = 3 then putI l x.n else l).length ≤ l.length + 1 := by
      split
      · unfold putI; split <;> simp
      · omega
    rw [List.length_cons]; omega

theorem place_hit (l : List Int) (s x : Int) (k : Nat) (h : l[k]? = some x) (hx : x = s) : s ∈ l := by subst hx; exact List.mem_of_getElem? h
set_option maxRecDepth 100000 in
set_option maxHeartbeats 2000000 in
theorem place3_any {l : List Int} {n cap : Nat} {a : Option Addr} (s : Int) (w : World) (h : MemW w (.s 1 (intRows l)) (.slice a n cap)) :
    Calls Try.prog 56 #[.slice a n cap, .int .i64 s] w fun e w' => (∃ i : Int, e = .returned (.int .i64 i) ∧ -1 ≤ i ∧ (i < 0 ↔ s ∉ l)) ∧ w = w' := by
  have hl := Mem.len h
  rw [intRows_len] at hl
  have HL := Lib.hid hl.1
  have hcap := hl.2.1
  have hmx := hl.2.2
  have H := Lib.hid h
  clear hl h
  go_enter Try.func56, Try.ntmps56
  go_wp2
  go_loop [5, 6, 9] (fun _ _ i => ∃ k : Nat, k ≤ n ∧ i = .int .i64 k ∧ Hid (∀ j, j < k → l[j]? ≠ some s)) (fun _ _ i => n - (intOf i).toNat)
  case atStart => exact ⟨0, Nat.zero_le _, rfl, fun j hj => by omega⟩
  case round =>
    obtain ⟨k, hk, rfl, Hn⟩ := hrel
    by_cases hlt : k < n
    · obtain ⟨b, o, x, rfl, _, Hx, hc⟩ := int_at H.out k hlt
      by_cases hx : x = s
      · have HF := Lib.hid (place_hit l s x k Hx.out hx)
        have e1 : (x == s) = true := by rw [beq_iff_eq]; exact hx
        clear hx
        go_wp2
        go_ret
        exact ⟨⟨k, rfl, by omega, by constructor <;> intro h' <;> first | omega | exact (h' HF.out).elim⟩, rfl⟩
      · have e1 : (x == s) = false := by rw [beq_eq_false_iff_ne]; exact hx
        have HN : Hid (∀ j, j < k + 1 → l[j]? ≠ some s) := fun j hj => by
          by_cases e : j = k
          · subst e; rw [Hx.out]; intro e; exact hx (Option.some.inj e)
          · exact Hn.out j (by omega)
        clear hx
        go_wp2
        go_round
        case rel => exact ⟨k + 1, by omega, by go_num, HN.out⟩
        case measure => simp [intOf]; omega
    · have HF : Hid (s ∉ l) := Lib.hid fun hm => by
        obtain ⟨j, hj, rfl⟩ := List.getElem_of_mem hm
        exact Hn.out j (by rw [HL.out] at hj; omega) (List.getElem?_eq_getElem hj)
      go_wp2
      go_ret
      exact ⟨⟨-1, rfl, by omega, by constructor <;> intro _ <;> first | exact HF.out | omega⟩, rfl⟩

set_option maxRecDepth 100000 in
set_option maxHeartbeats 2000000 in
theorem vars3_any {l : List Tm} {n cap : Nat} {a : Option Addr} (w : World) (h : MemW w (.s 4 (Tm.rows l)) (.slice a n cap)) (hs : (Tm.alls l).length ≤ 1048576) :
    Calls Try.prog 31 #[.slice a n cap] w (Gives 0 1 (intRows (varsI [] (Tm.alls l))) w) := by
  have hl := Tms.len h
  have HL := Lib.hid hl.1
  have hcap := hl.2.1
  have hmx := hl.2.2
  have H := Lib.hid h
  have HS := Lib.hid hs
  clear hl h hs
  go_enter Try.func31, Try.ntmps31
  go_wp2
  go_loopw [3, 10] (fun v i wr => ∃ k : Nat, k ≤ n ∧ i = .int .i64 k ∧ Hid (Below w.heap.size w wr) ∧ Hid (OwnD 0 w.heap.size 3 1 wr v (intRows (varsI [] (Tm.alls (l.take k)))))) (fun _ i _ => n - (intOf i).toNat)
  case atStart => exact ⟨0, Nat.zero_le _, rfl, Below.refl _ _, by rw [List.take_zero, Tm.alls]; exact OwnD.nil _ _ _ _ _⟩
  case round =>
    obtain ⟨k, hk, rfl, HB, HO⟩ := hrel
    obtain ⟨wo, rfl⟩ : ∃ wo : World, wo = wr := ⟨_, rfl⟩
    by_cases hlt : k < n
    · obtain ⟨b, o, x, ax, nx, capx, rfl, hbB, Hx, x0, x1, x2, x3, GX⟩ := tm_at (Mem.keep H.out (Nat.le_refl _) HB.out) k hlt
      have HWS := Lib.hid (HB.out.size)
      have SX := Lib.hid (show x.size ≤ 1048576 from Nat.le_trans (Tm.size_mem (mem_of_at Hx.out)) HS.out)
      have HV := Lib.hid (show (varsI [] (Tm.alls (l.take k))).length + x.size ≤ 1048576 by
        have h1 := varsI_len [] (Tm.alls (l.take k))
        have h2 := Tm.alls_le (ts := l) (k + 1)
        rw [Tm.alls_at Hx.out, List.length_append] at h2
        have e : x.all.length = x.size := rfl
        have := HS.out
        simp only [List.length_nil] at h1
        omega)
      have HN : Hid (varsI [] (Tm.alls (l.take (k + 1))) = varsI (varsI [] (Tm.alls (l.take k))) x.all) := Lib.hid (by rw [Tm.alls_at Hx.out, varsI_app])
      generalize varsI [] (Tm.alls (l.take k)) = V at *
      go_wp2_with (first
        | (go_at_call 35
           refine (all03 (B := w.heap.size) SX.out (GX.out.keep (Nat.le_refl _) ((below_new wo _).mono HB.out.size)) (by rw [World.size_alloc]; have := HB.out.size; omega)).mono ?_
           rintro e w5 ⟨aa, na, ca, rfl, hb, hm⟩
           have HB5 := Lib.hid hb
           have HM5 := Lib.hid hm
           have HO5 := Lib.hid ((HO.out.alloc _).keep hb)
           have hnl := hm.len
           rw [Tm.rows_len] at hnl
           clear hb hm))
      have hna := hnl.2.1
      have hca := hnl.2.2
      have HNL := Lib.hid hnl.1
      clear hnl
      go_loopw [3, 17] (fun v i wr => ∃ j : Nat, j ≤ na ∧ i = .int .i64 j ∧ Hid (Below w.heap.size w wr) ∧ Hid (Mem (Nw w.heap.size (wo.heap.size + 1) w5.heap.size) wr (.s 4 (Tm.rows x.all)) (.slice aa na ca) ∧ w5.heap.size ≤ wr.heap.size ∧ ∀ b, v.ownBlock = some b → ¬ Nw w.heap.size (wo.heap.size + 1) w5.heap.size b) ∧ Hid (OwnD 0 w.heap.size 3 1 wr v (intRows (varsI V (x.all.take j))))) (fun _ i _ => na - (intOf i).toNat)
      case atStart => exact ⟨0, Nat.zero_le _, rfl, Below.toA HB.out HB5.out, ⟨World.size_alloc wo _ ▸ HM5.out, Nat.le_refl _, fun b hb h => by have h1 := HO.out.lt b hb; have h2 := HWS.out; rcases h.1 with h3 | h3 <;> omega⟩, by rw [List.take_zero]; exact HO5.out⟩
      case round =>
        obtain ⟨j, hj, rfl, HB6, HM6, HO6⟩ := hrel
        by_cases hlt' : j < na
        · obtain ⟨b', o', y, ay, ny, capy, rfl, hbB', Hy, y0, y1, y2, y3, GY⟩ := tm_at HM6.out.1 j hlt'
          have HVL := Lib.hid (show (varsI V (x.all.take j)).length + 1 ≤ 1048576 by
            have h1 := varsI_len V (x.all.take j)
            have h2 := HV.out
            have h3 := HNL.out
            have e : x.all.length = x.size := rfl
            rw [List.length_take] at h1; omega)
          have HN1 := Lib.hid (show varsI V (x.all.take (j + 1)) = if y.kind = 3 then putI (varsI V (x.all.take j)) y.n else varsI V (x.all.take j) by rw [take_at Hy.out, varsI_snoc])
          generalize varsI V (x.all.take j) = U at *
          obtain ⟨va, vc, rfl, hv1, hv2⟩ := HO6.out.form
          rw [intRows_len] at hv1
          by_cases hk3 : y.kind = 3
          · have e3 : (y.kind == 3) = true := by rw [beq_iff_eq]; exact hk3
            by_cases hin : y.n ∈ U
            · have HIN := Lib.hid hin
              have HF : Hid (varsI V (x.all.take (j + 1)) = U) := Lib.hid (by rw [HN1.out, if_pos hk3]; unfold putI; rw [if_pos hin])
              clear hin hk3
              go_wp2_with (first
                | (go_at_call 56
                   refine (place3_any _ _ (HO6.out.alloc _).memW).mono ?_
                   rintro e w' ⟨⟨i, rfl, hi1, hi2⟩, rfl⟩
                   have hi3 : ¬ i < 0 := fun h => (hi2.1 h) HIN.out
                   clear hi2))
              go_roundw
              case rel => exact ⟨j + 1, by omega, by go_num, HB6.out.alloc HB6.out.size _, ⟨Mem.mono HM6.out.1 (fun _ h => h) (fun b h => (below_new wr _).block b (by have := h.2; have := HM6.out.2.1; omega)), by rw [World.size_alloc]; have := HM6.out.2.1; omega, HM6.out.2.2⟩, by rw [HF.out]; exact HO6.out.alloc _⟩
              case measure => simp [intOf]; omega
            · have HIN := Lib.hid hin
              have HF : Hid (varsI V (x.all.take (j + 1)) = U ++ [y.n]) := Lib.hid (by rw [HN1.out, if_pos hk3]; unfold putI; rw [if_neg hin])
              have HBD := Lib.hid (show ((intRows U).length + (intRows [y.n]).length) * 8 ≤ 140737488355328 ∧ (intRows U).length + (intRows [y.n]).length ≤ 4611686018427387904 by have := HVL.out; rw [intRows_len, intRows_len, List.length_cons, List.length_nil]; omega)
              have HSZ : Hid (∀ o : Obj, w.heap.size ≤ (wr.alloc o).heap.size) := fun o => by have := HB6.out.size; rw [World.size_alloc]; omega
              have HSZ2 : Hid (∀ o o' : Obj, w.heap.size ≤ ((wr.alloc o).alloc o').heap.size) := fun o o' => by have := HB6.out.size; rw [World.size_alloc, World.size_alloc]; omega
              clear hin hk3
              go_wp2_with (first
                | (go_at_call 56
                   refine (place3_any _ _ (HO6.out.alloc _).memW).mono ?_
                   rintro e w' ⟨⟨i, rfl, hi1, hi2⟩, rfl⟩
                   have hi3 : i < 0 := hi2.2 HIN.out
                   clear hi2)
                | (at_builtin
                   refine wpList_append_D2 rfl _ _ rfl Try.underlying55 info_int3 rfl (by decide) rfl rfl ((HO6.out.alloc _).alloc _) (own_int y.n _ (World.size_alloc _ _).symm (HO6.out.alloc _) (HSZ.out _)) HBD.out.1 HBD.out.2 (HSZ2.out _ _) ?_
                   intro v' w7 ho hg hw
                   have HO7 := Lib.hid ho
                   have HG7 := Lib.hid hg
                   have HW7 := Lib.hid hw
                   clear ho hg hw))
              go_roundw
              case rel =>
                have hb7 : Below w.heap.size wr w7 := grown_below (((below_new wr _).mono HB6.out.size).alloc (by have := HB6.out.size; rw [World.size_alloc]; omega) _) HG7.out HB6.out.size (fun b hb => (HO6.out.lt b hb).1)
                have hz7 : wr.heap.size + 1 + 1 ≤ w7.heap.size := by have := HG7.out.size; rw [World.size_alloc, World.size_alloc] at this; exact this
                refine ⟨j + 1, by omega, by go_num, HB6.out.trans hb7, ⟨Mem.mono HM6.out.1 (fun _ h => h) (fun b h => ?_), by have := HM6.out.2.1; omega, fun b hb h => ?_⟩, ?_⟩
                · have h1 := HM6.out.2.1
                  have h2 := h.2
                  exact (HG7.out.block b (by rw [World.size_alloc, World.size_alloc]; omega) (fun e => HM6.out.2.2 b e.symm h)).trans (((below_new wr _).alloc (Nat.le_of_lt (by rw [World.size_alloc]; exact Nat.lt_succ_self _)) _).block b (by omega))
                · rcases HW7.out with hw | hw
                  · exact HM6.out.2.2 b (hw ▸ hb) h
                  · have h1 := hw b hb
                    rw [World.size_alloc, World.size_alloc] at h1
                    have h2 := h.2
                    have h3 := HM6.out.2.1
                    omega
                · rw [HF.out, intRows_app]; exact HO7.out
              case measure => simp [intOf]; omega
          · have e3 : (y.kind == 3) = false := by rw [beq_eq_false_iff_ne]; exact hk3
            have HF : Hid (varsI V (x.all.take (j + 1)) = U) := Lib.hid (by rw [HN1.out, if_neg hk3])
            clear hk3
            go_wp2
            go_roundw
            case rel => exact ⟨j + 1, by omega, by go_num, HB6.out.alloc HB6.out.size _, ⟨Mem.mono HM6.out.1 (fun _ h => h) (fun b h => (below_new wr _).block b (by have := h.2; have := HM6.out.2.1; omega)), by rw [World.size_alloc]; have := HM6.out.2.1; omega, HM6.out.2.2⟩, by rw [HF.out]; exact HO6.out.alloc _⟩
            case measure => simp [intOf]; omega
        · have HF : Hid (varsI V (x.all.take j) = varsI [] (Tm.alls (l.take (k + 1)))) := Lib.hid (by rw [HN.out, List.take_of_length_le (by rw [HNL.out]; omega)])
          rw [HF.out] at HO6
          go_wp2
          go_roundw
          case rel => exact ⟨k + 1, by omega, by go_num, HB6.out, HO6.out⟩
          case measure => simp [intOf]; omega
    · have HF : Hid (Tm.alls (l.take k) = Tm.alls l) := Lib.hid (by rw [List.take_of_length_le (by rw [HL.out]; omega)])
      rw [HF.out] at HO
      obtain ⟨va, vc, rfl, _, _⟩ := HO.out.form
      go_wp2
      go_ret
      exact ⟨_, _, _, rfl, HB.out, HO.out.mem⟩
end Go.Proofs.Ytmadfkofmehfkaa
