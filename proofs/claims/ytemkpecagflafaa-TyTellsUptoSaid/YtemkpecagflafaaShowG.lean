/-
  Show of any type: as a text. No condition but how it lies, its numbers, and how long its names are.
-/
import Derived.Test.YtemkpecagflafaaShow
import Derived.Test.YtemkpecagflafaaHeld
namespace Go.Proofs.Ytemkpecagflafaa
open Go.RowKit
attribute [local go_sem] toList_beq conv_one

theorem showT_eq (t : Tm) : showT t = if t.kind = 1 then (if 0 ≤ t.n ∧ t.n < 26 then ⟨#[UInt8.ofNat (97 + t.n).toNat]⟩ else ⟨#[116]⟩ ++ digB t.n) else if t.kind = 2 then t.name ++ showArgs t.args else if t.kind = 3 ∧ t.args.length = 2 then showFun t.args else ⟨#[63]⟩ := by
  cases t; rw [showT]; rfl
theorem size_one (x : UInt8) : (⟨#[x]⟩ : ByteArray).size = 1 := rfl
theorem size_four (x y z v : UInt8) : (⟨#[x, y, z, v]⟩ : ByteArray).size = 4 := rfl
theorem digB_size (n : Int) (h : inI64 n) : (digB n).size ≤ 21 := by
  have e : (digB n).size = (digs n).length := by unfold digB; exact List.size_toArray ..
  rw [e]
  unfold inI64 at h
  unfold digs
  split
  · have := dec_len n.natAbs (by omega); simp only [List.length_cons]; omega
  · have := dec_len n.toNat (by omega); omega
theorem showArgs_snoc (l : List Tm) (x : Tm) : showArgs (l ++ [x]) = showArgs l ++ (⟨#[32]⟩ ++ brk (tightT x) (showT x)) := by
  induction l with
  | nil =>
    rw [List.nil_append, showArgs, showArgs]
    show _ ++ ByteArray.empty = ByteArray.empty ++ _
    rw [ByteArray.append_empty, ByteArray.empty_append]
  | cons t l ih => rw [List.cons_append, showArgs, showArgs, ih]; simp only [ByteArray.append_assoc]
theorem showArgs_size (l : List Tm) (h : ∀ x ∈ l, (showT x).size + 3 ≤ 30 * x.wt) : (showArgs l).size ≤ 30 * Tm.wts l := by
  induction l with
  | nil => rw [showArgs]; exact Nat.zero_le _
  | cons t l ih =>
    have h1 := h t (List.mem_cons_self ..)
    have h2 := ih fun x hx => h x (List.mem_cons_of_mem _ hx)
    have h3 := brk_size (tightT t) (showT t)
    rw [showArgs, Tm.wts_cons]
    simp only [ByteArray.size_append, size_one]
    omega
theorem showFun_size (l : List Tm) (h : ∀ x ∈ l, (showT x).size + 3 ≤ 30 * x.wt) : (showFun l).size ≤ 30 * Tm.wts l + 6 := by
  cases l with
  | nil => rw [showFun]; exact Nat.zero_le _
  | cons t l =>
    have h1 := h t (List.mem_cons_self ..)
    have h3 := brk_size (t.kind == 3) (showT t)
    rw [showFun, Tm.wts_cons]
    cases l with
    | nil => rw [showTo]; simp only [ByteArray.size_append]; show _ + 0 ≤ _; omega
    | cons u l =>
      have h2 := h u (List.mem_cons_of_mem _ (List.mem_cons_self ..))
      rw [showTo, Tm.wts_cons]
      simp only [ByteArray.size_append, size_four]
      omega
theorem Tm.ok_arg' {x t : Tm} (h : t.ok) (hx : x ∈ t.args) : x.ok := fun y hy => h y (Tm.args_all x hx y hy)
theorem showT_size_of (m : Nat) : ∀ t, t.size ≤ m → t.ok → (showT t).size + 3 ≤ 30 * t.wt := by
  induction m with
  | zero => intro t h; have := t.size_pos; omega
  | succ m ih =>
    intro t h hok
    have hw := t.wt_eq
    have hd := digB_size t.n (hok t (Tm.mem_all t)).2
    have hi : ∀ x ∈ t.args, (showT x).size + 3 ≤ 30 * x.wt := fun x hx => ih x (by have := Tm.size_arg hx; omega) (Tm.ok_arg' hok hx)
    have ha := showArgs_size t.args hi
    have hf := showFun_size t.args hi
    rw [showT_eq]
    repeat' split
    all_goals (try simp only [ByteArray.size_append, size_one])
    all_goals omega
theorem showT_size {t : Tm} (h : t.ok) : (showT t).size + 3 ≤ 30 * t.wt := showT_size_of t.size t (Nat.le_refl _) h

/-- How an argument is told: its test, decided. -/
theorem tight_cases (x : Tm) (nx : Nat) (hn : x.args.length = nx) : (x.kind = 3 ∧ tightT x = true) ∨ (¬ x.kind = 3 ∧ x.kind = 2 ∧ 0 < nx ∧ tightT x = true) ∨ (¬ x.kind = 3 ∧ x.kind = 2 ∧ nx = 0 ∧ tightT x = false) ∨ (¬ x.kind = 3 ∧ ¬ x.kind = 2 ∧ tightT x = false) := by
  unfold tightT
  by_cases h3 : x.kind = 3
  · exact .inl ⟨h3, by rw [h3]; rfl⟩
  · have e3 : (x.kind == 3) = false := by rw [beq_eq_false_iff_ne]; exact h3
    by_cases h2 : x.kind = 2
    · have e2 : (x.kind == 2) = true := by rw [beq_iff_eq]; exact h2
      by_cases h0 : 0 < nx
      · exact .inr (.inl ⟨h3, h2, h0, by rw [e3, e2, hn]; simp; omega⟩)
      · exact .inr (.inr (.inl ⟨h3, h2, by omega, by rw [e3, e2, hn]; simp; omega⟩))
    · have e2 : (x.kind == 2) = false := by rw [beq_eq_false_iff_ne]; exact h2
      exact .inr (.inr (.inr ⟨h3, h2, by rw [e3, e2]; rfl⟩))

set_option maxRecDepth 100000 in
set_option maxHeartbeats 2000000 in
theorem show_con {t : Tm} {n cap : Nat} {a : Option Addr} (w : World) (hk : t.kind = 2) (hx : ∀ x ∈ t.args, ShowAt x) (hok : t.ok) (hw : t.wt ≤ 1048576) (h : MemW w (.s 4 (Tm.rows t.args)) (.slice a n cap)) :
    Calls Try.prog 53 #[.agg #[.int .i64 t.kind, .string t.name, .int .i64 t.n, .slice a n cap]] w fun e w' => e = .returned (.string (showT t)) ∧ Below w.heap.size w w' := by
  have HF0 : Hid (showT t = t.name ++ showArgs t.args) := Lib.hid (by rw [showT_eq, hk, if_neg (by decide), if_pos rfl])
  have e1 : (t.kind == 1) = false := by rw [hk]; rfl
  have e2 : (t.kind == 2) = true := by rw [hk]; rfl
  have hl := Tms.len h
  have HL := Lib.hid hl.1
  have hcap := hl.2.1
  have hmx := hl.2.2
  have H := Lib.hid h
  have HX := Lib.hid hx
  have HS : Hid (∀ k, (t.name ++ showArgs (t.args.take k)).size ≤ 31457280) := fun k => by
    have h1 := showArgs_size (t.args.take k) fun x hx => showT_size (Tm.ok_arg' hok (List.mem_of_mem_take hx))
    have h2 : Tm.wts (t.args.take k) ≤ Tm.wts t.args := by
      conv => rhs; rw [← List.take_append_drop k t.args, Tm.wts_app]
      omega
    have h3 := t.wt_eq
    rw [ByteArray.size_append]; omega
  have HXS : Hid (∀ x ∈ t.args, (showT x).size ≤ 31457280) := fun x hx => by
    have h1 := showT_size (Tm.ok_arg' hok hx)
    have h2 := Tm.wts_mem hx
    have h3 := t.wt_eq
    omega
  clear hl h hx hok hw hk
  go_enter Try.func53, Try.ntmps53
  go_wp2
  go_loopw [3, 43] (fun v i wr => ∃ k : Nat, k ≤ n ∧ i = .int .i64 k ∧ v = .string (t.name ++ showArgs (t.args.take k)) ∧ Hid (Below w.heap.size w wr)) (fun _ i _ => n - (intOf i).toNat)
  case atStart => exact ⟨0, Nat.zero_le _, rfl, by rw [List.take_zero, showArgs]; show _ = Value.string (t.name ++ ByteArray.empty); rw [ByteArray.append_empty], (below_new _ _)⟩
  case round =>
    obtain ⟨k, hk, rfl, rfl, HB⟩ := hrel
    by_cases hlt : k < n
    · obtain ⟨b, o, x, ax, nx, capx, rfl, hbB, Hx, x0, x1, x2, x3, GX⟩ := (Tms.keep H.out HB.out).at k hlt
      have hm := mem_of_at Hx.out
      have hs1 := HXS.out x hm
      have hs2 := HS.out k
      have hs3 := brk_size (tightT x) (showT x)
      have HSX := Lib.hid (HX.out x hm)
      have HN := Lib.hid (show t.name ++ showArgs (t.args.take (k + 1)) = t.name ++ showArgs (t.args.take k) ++ (⟨#[32]⟩ ++ brk (tightT x) (showT x)) by rw [take_at Hx.out, showArgs_snoc, ByteArray.append_assoc])
      have HBX := Lib.hid (fun (w : World) => brackets_any (tightT x) (showT x) w (by omega))
      have hcs := tight_cases x nx (Tms.len GX.out).1
      have HC := Lib.hid (Bo.new wr 52 #[.int .i64 x.kind, .string x.name, .int .i64 x.n, .slice ax nx capx]).c4
      obtain ⟨g0, g1, g2, g3⟩ := HC.out
      have iz3 : ((showT x).size : Int) ≤ 1000000000 := by omega
      clear hm
      generalize hs : t.name ++ showArgs (t.args.take k) = s at *
      have iz1 : (s.size : Int) ≤ 1000000000 := by omega
      clear hs
      rcases hcs with ⟨k3, hT⟩ | ⟨k3, k2, kn, hT⟩ | ⟨k3, k2, rfl, hT⟩ | ⟨k3, k2, hT⟩
      · have e3 : (x.kind == 3) = true := by rw [beq_iff_eq]; exact k3
        clear k3
        rw [hT] at HN HBX hs3
        generalize hb' : brk (true) (showT x) = bx at *
        have iz2 : (bx.size : Int) ≤ 1000000000 := by omega
        have iq1 : ¬ (9223372036854775807 < 1 + bx.size) := by omega
        have iq2 : ¬ (9223372036854775807 < s.size + (1 + bx.size)) := by omega
        clear hb' hs1 hs2 hs3 hT
        go_wp2
        refine wp_region_held_drew (S := (fun w' => w'.cell? ⟨wr.heap.size, 0, none⟩ = some (.int .i64 x.kind) ∧ w'.cell? ⟨wr.heap.size, 1, none⟩ = some (.string x.name) ∧ w'.cell? ⟨wr.heap.size, 2, none⟩ = some (.int .i64 x.n) ∧ w'.cell? ⟨wr.heap.size, 3, none⟩ = some (.slice ax nx capx))) (by kernel_rfl) ⟨cell_drew g0, cell_drew g1, cell_drew g2, cell_drew g3⟩ (fun hS0 => ?_)
        refine takeL 0 (v := ?_) rfl (by kernel_rfl) (by kernel_rfl) (by kernel_rfl) (fun _ _ _ h => h) (by rfl) ?_ (by assumption) ?_
        rotate_left
        · (intro w hSw; (try dsimp only at hSw); go_simp; try with_reducible rfl)
        try simp only [Act.put, List.setIfInBounds_toArray, List.set_cons_zero, List.set_cons_succ]
        refine takeL 1 (v := ?_) rfl (by kernel_rfl) (by kernel_rfl) (by kernel_rfl) (fun _ _ _ h => h) (by rfl) ?_ (by assumption) ?_
        rotate_left
        · (intro w hSw; (try dsimp only at hSw); go_simp; try with_reducible rfl)
        try simp only [Act.put, List.setIfInBounds_toArray, List.set_cons_zero, List.set_cons_succ]
        refine takeL 2 (v := ?_) rfl (by kernel_rfl) (by kernel_rfl) (by kernel_rfl) (fun _ _ _ h => h) (by rfl) ?_ (by assumption) ?_
        rotate_left
        · (intro w hSw; (try dsimp only at hSw); go_simp; try with_reducible rfl)
        try simp only [Act.put, List.setIfInBounds_toArray, List.set_cons_zero, List.set_cons_succ]
        refine takeL 3 (v := ?_) rfl (by kernel_rfl) (by kernel_rfl) (by kernel_rfl) (fun _ _ _ h => h) (by rfl) ?_ (by assumption) ?_
        rotate_left
        · (intro w hSw; (try dsimp only at hSw); go_simp; try with_reducible rfl)
        try simp only [Act.put, List.setIfInBounds_toArray, List.set_cons_zero, List.set_cons_succ]
        refine takeL 4 (v := ?_) rfl (by kernel_rfl) (by kernel_rfl) (by kernel_rfl) (fun _ _ _ h => h) (by rfl) ?_ (by assumption) ?_
        rotate_left
        · (intro w hSw; (try dsimp only at hSw); go_simp; try with_reducible rfl)
        try simp only [Act.put, List.setIfInBounds_toArray, List.set_cons_zero, List.set_cons_succ]
        refine skipL 5 rfl (by kernel_rfl) (by kernel_rfl) (by kernel_rfl) (fun _ _ _ h => h) (by rfl) (by assumption) ?_
        try simp only [Act.put, List.setIfInBounds_toArray, List.set_cons_zero, List.set_cons_succ]
        refine skipL 6 rfl (by kernel_rfl) (by kernel_rfl) (by kernel_rfl) (fun _ _ _ h => h) (by rfl) (by assumption) ?_
        try simp only [Act.put, List.setIfInBounds_toArray, List.set_cons_zero, List.set_cons_succ]
        refine skipL 7 rfl (by kernel_rfl) (by kernel_rfl) (by kernel_rfl) (fun _ _ _ h => h) (by rfl) (by assumption) ?_
        try simp only [Act.put, List.setIfInBounds_toArray, List.set_cons_zero, List.set_cons_succ]
        refine skipL 8 rfl (by kernel_rfl) (by kernel_rfl) (by kernel_rfl) (fun _ _ _ h => h) (by rfl) (by assumption) ?_
        try simp only [Act.put, List.setIfInBounds_toArray, List.set_cons_zero, List.set_cons_succ]
        refine skipL 9 rfl (by kernel_rfl) (by kernel_rfl) (by kernel_rfl) (fun _ _ _ h => h) (by rfl) (by assumption) ?_
        try simp only [Act.put, List.setIfInBounds_toArray, List.set_cons_zero, List.set_cons_succ]
        refine skipL 10 rfl (by kernel_rfl) (by kernel_rfl) (by kernel_rfl) (fun _ _ _ h => h) (by rfl) (by assumption) ?_
        try simp only [Act.put, List.setIfInBounds_toArray, List.set_cons_zero, List.set_cons_succ]
        refine skipL 11 rfl (by kernel_rfl) (by kernel_rfl) (by kernel_rfl) (fun _ _ _ h => h) (by rfl) (by assumption) ?_
        try simp only [Act.put, List.setIfInBounds_toArray, List.set_cons_zero, List.set_cons_succ]
        refine skipL 12 rfl (by kernel_rfl) (by kernel_rfl) (by kernel_rfl) (fun _ _ _ h => h) (by rfl) (by assumption) ?_
        try simp only [Act.put, List.setIfInBounds_toArray, List.set_cons_zero, List.set_cons_succ]
        refine skipL 13 rfl (by kernel_rfl) (by kernel_rfl) (by kernel_rfl) (fun _ _ _ h => h) (by rfl) (by assumption) ?_
        try simp only [Act.put, List.setIfInBounds_toArray, List.set_cons_zero, List.set_cons_succ]
        refine takeL 14 (v := ?_) rfl (by kernel_rfl) (by kernel_rfl) (by kernel_rfl) (fun _ _ _ h => h) (by rfl) ?_ (by assumption) ?_
        rotate_left
        · (intro w hSw; (try dsimp only at hSw); go_simp; try with_reducible rfl)
        try simp only [Act.put, List.setIfInBounds_toArray, List.set_cons_zero, List.set_cons_succ]
        refine takeL 15 (v := ?_) rfl (by kernel_rfl) (by kernel_rfl) (by kernel_rfl) (fun _ _ _ h => h) (by rfl) ?_ (by assumption) ?_
        rotate_left
        · (intro w hSw; (try dsimp only at hSw); go_simp; try with_reducible rfl)
        try simp only [Act.put, List.setIfInBounds_toArray, List.set_cons_zero, List.set_cons_succ]
        refine callL 16 rfl (by kernel_rfl) (by rfl) (fun K hK => ?_)
        go_simp
        go_wp2_with (first | (go_at_call 53 ; refine (HSX.out _ ax nx capx (MemW.drew (MemW.alloc GX.out _))).mono ?_; rintro e w2 ⟨rfl, hb⟩; have HB1 := Lib.hid hb; have HB2 := Lib.hid (Below.one hb); clear hb))
        refine hK.out _ _ ?_ (fun hS1 => ?_)
        · exact ⟨cell_below hS0.1 HB1.out, cell_below hS0.2.1 HB1.out, cell_below hS0.2.2.1 HB1.out, cell_below hS0.2.2.2 HB1.out⟩
        clear hK K
        refine callL 17 rfl (by kernel_rfl) (by rfl) (fun K hK => ?_)
        go_simp
        go_wp2_with (first | (go_at_call 98 ; refine (HBX.out _).mono ?_; rintro e w3 ⟨rfl, rfl⟩))
        refine hK.out _ _ ?_ (fun hS2 => ?_)
        · exact hS1
        clear hK K
        refine takeL 18 (v := ?_) rfl (by kernel_rfl) (by kernel_rfl) (by kernel_rfl) (fun _ _ _ h => h) (by rfl) ?_ (by assumption) ?_
        rotate_left
        · (intro w hSw; (try dsimp only at hSw); go_simp; try with_reducible rfl)
        try simp only [Act.put, List.setIfInBounds_toArray, List.set_cons_zero, List.set_cons_succ]
        refine takeL 19 (v := ?_) rfl (by kernel_rfl) (by kernel_rfl) (by kernel_rfl) (fun _ _ _ h => h) (by rfl) ?_ (by assumption) ?_
        rotate_left
        · (intro w hSw; (try dsimp only at hSw); go_simp; try with_reducible rfl)
        try simp only [Act.put, List.setIfInBounds_toArray, List.set_cons_zero, List.set_cons_succ]
        refine takeL 20 (v := ?_) rfl (by kernel_rfl) (by kernel_rfl) (by kernel_rfl) (fun _ _ _ h => h) (by rfl) ?_ (by assumption) ?_
        rotate_left
        · (intro w hSw; (try dsimp only at hSw); go_simp; try with_reducible rfl)
        try simp only [Act.put, List.setIfInBounds_toArray, List.set_cons_zero, List.set_cons_succ]
        refine wpAnyH_done (by kernel_rfl) ?_ _
        go_wp2
        go_roundw
        case rel => exact ⟨k + 1, by omega, by go_num, by rw [HN.out], Below.toA HB.out HB2.out⟩
        case measure => simp [intOf]; omega
      · have e3 : (x.kind == 3) = false := by rw [beq_eq_false_iff_ne]; exact k3
        have e4 : (x.kind == 2) = true := by rw [beq_iff_eq]; exact k2
        have e5 : (0 : Int) < (nx : Int) := by omega
        clear k3 k2
        rw [hT] at HN HBX hs3
        generalize hb' : brk (true) (showT x) = bx at *
        have iz2 : (bx.size : Int) ≤ 1000000000 := by omega
        have iq1 : ¬ (9223372036854775807 < 1 + bx.size) := by omega
        have iq2 : ¬ (9223372036854775807 < s.size + (1 + bx.size)) := by omega
        clear hb' hs1 hs2 hs3 hT
        go_wp2
        refine wp_region_held_drew (S := (fun w' => w'.cell? ⟨wr.heap.size, 0, none⟩ = some (.int .i64 x.kind) ∧ w'.cell? ⟨wr.heap.size, 1, none⟩ = some (.string x.name) ∧ w'.cell? ⟨wr.heap.size, 2, none⟩ = some (.int .i64 x.n) ∧ w'.cell? ⟨wr.heap.size, 3, none⟩ = some (.slice ax nx capx))) (by kernel_rfl) ⟨cell_drew g0, cell_drew g1, cell_drew g2, cell_drew g3⟩ (fun hS0 => ?_)
        refine takeL 0 (v := ?_) rfl (by kernel_rfl) (by kernel_rfl) (by kernel_rfl) (fun _ _ _ h => h) (by rfl) ?_ (by assumption) ?_
        rotate_left
        · (intro w hSw; (try dsimp only at hSw); go_simp; try with_reducible rfl)
        try simp only [Act.put, List.setIfInBounds_toArray, List.set_cons_zero, List.set_cons_succ]
        refine takeL 1 (v := ?_) rfl (by kernel_rfl) (by kernel_rfl) (by kernel_rfl) (fun _ _ _ h => h) (by rfl) ?_ (by assumption) ?_
        rotate_left
        · (intro w hSw; (try dsimp only at hSw); go_simp; try with_reducible rfl)
        try simp only [Act.put, List.setIfInBounds_toArray, List.set_cons_zero, List.set_cons_succ]
        refine takeL 2 (v := ?_) rfl (by kernel_rfl) (by kernel_rfl) (by kernel_rfl) (fun _ _ _ h => h) (by rfl) ?_ (by assumption) ?_
        rotate_left
        · (intro w hSw; (try dsimp only at hSw); go_simp; try with_reducible rfl)
        try simp only [Act.put, List.setIfInBounds_toArray, List.set_cons_zero, List.set_cons_succ]
        refine takeL 3 (v := ?_) rfl (by kernel_rfl) (by kernel_rfl) (by kernel_rfl) (fun _ _ _ h => h) (by rfl) ?_ (by assumption) ?_
        rotate_left
        · (intro w hSw; (try dsimp only at hSw); go_simp; try with_reducible rfl)
        try simp only [Act.put, List.setIfInBounds_toArray, List.set_cons_zero, List.set_cons_succ]
        refine takeL 4 (v := ?_) rfl (by kernel_rfl) (by kernel_rfl) (by kernel_rfl) (fun _ _ _ h => h) (by rfl) ?_ (by assumption) ?_
        rotate_left
        · (intro w hSw; (try dsimp only at hSw); go_simp; try with_reducible rfl)
        try simp only [Act.put, List.setIfInBounds_toArray, List.set_cons_zero, List.set_cons_succ]
        refine takeL 5 (v := ?_) rfl (by kernel_rfl) (by kernel_rfl) (by kernel_rfl) (fun _ _ _ h => h) (by rfl) ?_ (by assumption) ?_
        rotate_left
        · (intro w hSw; (try dsimp only at hSw); go_simp; try with_reducible rfl)
        try simp only [Act.put, List.setIfInBounds_toArray, List.set_cons_zero, List.set_cons_succ]
        refine takeL 6 (v := ?_) rfl (by kernel_rfl) (by kernel_rfl) (by kernel_rfl) (fun _ _ _ h => h) (by rfl) ?_ (by assumption) ?_
        rotate_left
        · (intro w hSw; (try dsimp only at hSw); go_simp; try with_reducible rfl)
        try simp only [Act.put, List.setIfInBounds_toArray, List.set_cons_zero, List.set_cons_succ]
        refine takeL 7 (v := ?_) rfl (by kernel_rfl) (by kernel_rfl) (by kernel_rfl) (fun _ _ _ h => h) (by rfl) ?_ (by assumption) ?_
        rotate_left
        · (intro w hSw; (try dsimp only at hSw); go_simp; try with_reducible rfl)
        try simp only [Act.put, List.setIfInBounds_toArray, List.set_cons_zero, List.set_cons_succ]
        refine takeL 8 (v := ?_) rfl (by kernel_rfl) (by kernel_rfl) (by kernel_rfl) (fun _ _ _ h => h) (by rfl) ?_ (by assumption) ?_
        rotate_left
        · (intro w hSw; (try dsimp only at hSw); go_simp; try with_reducible rfl)
        try simp only [Act.put, List.setIfInBounds_toArray, List.set_cons_zero, List.set_cons_succ]
        refine takeL 9 (v := ?_) rfl (by kernel_rfl) (by kernel_rfl) (by kernel_rfl) (fun _ _ _ h => h) (by rfl) ?_ (by assumption) ?_
        rotate_left
        · (intro w hSw; (try dsimp only at hSw); go_simp; try with_reducible rfl)
        try simp only [Act.put, List.setIfInBounds_toArray, List.set_cons_zero, List.set_cons_succ]
        refine takeL 10 (v := ?_) rfl (by kernel_rfl) (by kernel_rfl) (by kernel_rfl) (fun _ _ _ h => h) (by rfl) ?_ (by assumption) ?_
        rotate_left
        · (intro w hSw; (try dsimp only at hSw); go_simp; try with_reducible rfl)
        try simp only [Act.put, List.setIfInBounds_toArray, List.set_cons_zero, List.set_cons_succ]
        refine takeL 11 (v := ?_) rfl (by kernel_rfl) (by kernel_rfl) (by kernel_rfl) (fun _ _ _ h => h) (by rfl) ?_ (by assumption) ?_
        rotate_left
        · (intro w hSw; (try dsimp only at hSw); go_simp; try with_reducible rfl)
        try simp only [Act.put, List.setIfInBounds_toArray, List.set_cons_zero, List.set_cons_succ]
        refine takeL 12 (v := ?_) rfl (by kernel_rfl) (by kernel_rfl) (by kernel_rfl) (fun _ _ _ h => h) (by rfl) ?_ (by assumption) ?_
        rotate_left
        · (intro w hSw; (try dsimp only at hSw); go_simp; try with_reducible rfl)
        try simp only [Act.put, List.setIfInBounds_toArray, List.set_cons_zero, List.set_cons_succ]
        refine takeL 13 (v := ?_) rfl (by kernel_rfl) (by kernel_rfl) (by kernel_rfl) (fun _ _ _ h => h) (by rfl) ?_ (by assumption) ?_
        rotate_left
        · (intro w hSw; (try dsimp only at hSw); go_simp; try with_reducible rfl)
        try simp only [Act.put, List.setIfInBounds_toArray, List.set_cons_zero, List.set_cons_succ]
        refine takeL 14 (v := ?_) rfl (by kernel_rfl) (by kernel_rfl) (by kernel_rfl) (fun _ _ _ h => h) (by rfl) ?_ (by assumption) ?_
        rotate_left
        · (intro w hSw; (try dsimp only at hSw); go_simp; try with_reducible rfl)
        try simp only [Act.put, List.setIfInBounds_toArray, List.set_cons_zero, List.set_cons_succ]
        refine takeL 15 (v := ?_) rfl (by kernel_rfl) (by kernel_rfl) (by kernel_rfl) (fun _ _ _ h => h) (by rfl) ?_ (by assumption) ?_
        rotate_left
        · (intro w hSw; (try dsimp only at hSw); go_simp; try with_reducible rfl)
        try simp only [Act.put, List.setIfInBounds_toArray, List.set_cons_zero, List.set_cons_succ]
        refine callL 16 rfl (by kernel_rfl) (by rfl) (fun K hK => ?_)
        go_simp
        go_wp2_with (first | (go_at_call 53 ; refine (HSX.out _ ax nx capx (MemW.drew (MemW.alloc GX.out _))).mono ?_; rintro e w2 ⟨rfl, hb⟩; have HB1 := Lib.hid hb; have HB2 := Lib.hid (Below.one hb); clear hb))
        refine hK.out _ _ ?_ (fun hS1 => ?_)
        · exact ⟨cell_below hS0.1 HB1.out, cell_below hS0.2.1 HB1.out, cell_below hS0.2.2.1 HB1.out, cell_below hS0.2.2.2 HB1.out⟩
        clear hK K
        refine callL 17 rfl (by kernel_rfl) (by rfl) (fun K hK => ?_)
        go_simp
        go_wp2_with (first | (go_at_call 98 ; refine (HBX.out _).mono ?_; rintro e w3 ⟨rfl, rfl⟩))
        refine hK.out _ _ ?_ (fun hS2 => ?_)
        · exact hS1
        clear hK K
        refine takeL 18 (v := ?_) rfl (by kernel_rfl) (by kernel_rfl) (by kernel_rfl) (fun _ _ _ h => h) (by rfl) ?_ (by assumption) ?_
        rotate_left
        · (intro w hSw; (try dsimp only at hSw); go_simp; try with_reducible rfl)
        try simp only [Act.put, List.setIfInBounds_toArray, List.set_cons_zero, List.set_cons_succ]
        refine takeL 19 (v := ?_) rfl (by kernel_rfl) (by kernel_rfl) (by kernel_rfl) (fun _ _ _ h => h) (by rfl) ?_ (by assumption) ?_
        rotate_left
        · (intro w hSw; (try dsimp only at hSw); go_simp; try with_reducible rfl)
        try simp only [Act.put, List.setIfInBounds_toArray, List.set_cons_zero, List.set_cons_succ]
        refine takeL 20 (v := ?_) rfl (by kernel_rfl) (by kernel_rfl) (by kernel_rfl) (fun _ _ _ h => h) (by rfl) ?_ (by assumption) ?_
        rotate_left
        · (intro w hSw; (try dsimp only at hSw); go_simp; try with_reducible rfl)
        try simp only [Act.put, List.setIfInBounds_toArray, List.set_cons_zero, List.set_cons_succ]
        refine wpAnyH_done (by kernel_rfl) ?_ _
        go_wp2
        go_roundw
        case rel => exact ⟨k + 1, by omega, by go_num, by rw [HN.out], Below.toA HB.out HB2.out⟩
        case measure => simp [intOf]; omega
      · have e3 : (x.kind == 3) = false := by rw [beq_eq_false_iff_ne]; exact k3
        have e4 : (x.kind == 2) = true := by rw [beq_iff_eq]; exact k2
        clear k3 k2
        rw [hT] at HN HBX hs3
        generalize hb' : brk (false) (showT x) = bx at *
        have iz2 : (bx.size : Int) ≤ 1000000000 := by omega
        have iq1 : ¬ (9223372036854775807 < 1 + bx.size) := by omega
        have iq2 : ¬ (9223372036854775807 < s.size + (1 + bx.size)) := by omega
        clear hb' hs1 hs2 hs3 hT
        go_wp2
        refine wp_region_held_drew (S := (fun w' => w'.cell? ⟨wr.heap.size, 0, none⟩ = some (.int .i64 x.kind) ∧ w'.cell? ⟨wr.heap.size, 1, none⟩ = some (.string x.name) ∧ w'.cell? ⟨wr.heap.size, 2, none⟩ = some (.int .i64 x.n) ∧ w'.cell? ⟨wr.heap.size, 3, none⟩ = some (.slice ax 0 capx))) (by kernel_rfl) ⟨cell_drew g0, cell_drew g1, cell_drew g2, cell_drew g3⟩ (fun hS0 => ?_)
        refine takeL 0 (v := ?_) rfl (by kernel_rfl) (by kernel_rfl) (by kernel_rfl) (fun _ _ _ h => h) (by rfl) ?_ (by assumption) ?_
        rotate_left
        · (intro w hSw; (try dsimp only at hSw); go_simp; try with_reducible rfl)
        try simp only [Act.put, List.setIfInBounds_toArray, List.set_cons_zero, List.set_cons_succ]
        refine takeL 1 (v := ?_) rfl (by kernel_rfl) (by kernel_rfl) (by kernel_rfl) (fun _ _ _ h => h) (by rfl) ?_ (by assumption) ?_
        rotate_left
        · (intro w hSw; (try dsimp only at hSw); go_simp; try with_reducible rfl)
        try simp only [Act.put, List.setIfInBounds_toArray, List.set_cons_zero, List.set_cons_succ]
        refine takeL 2 (v := ?_) rfl (by kernel_rfl) (by kernel_rfl) (by kernel_rfl) (fun _ _ _ h => h) (by rfl) ?_ (by assumption) ?_
        rotate_left
        · (intro w hSw; (try dsimp only at hSw); go_simp; try with_reducible rfl)
        try simp only [Act.put, List.setIfInBounds_toArray, List.set_cons_zero, List.set_cons_succ]
        refine takeL 3 (v := ?_) rfl (by kernel_rfl) (by kernel_rfl) (by kernel_rfl) (fun _ _ _ h => h) (by rfl) ?_ (by assumption) ?_
        rotate_left
        · (intro w hSw; (try dsimp only at hSw); go_simp; try with_reducible rfl)
        try simp only [Act.put, List.setIfInBounds_toArray, List.set_cons_zero, List.set_cons_succ]
        refine takeL 4 (v := ?_) rfl (by kernel_rfl) (by kernel_rfl) (by kernel_rfl) (fun _ _ _ h => h) (by rfl) ?_ (by assumption) ?_
        rotate_left
        · (intro w hSw; (try dsimp only at hSw); go_simp; try with_reducible rfl)
        try simp only [Act.put, List.setIfInBounds_toArray, List.set_cons_zero, List.set_cons_succ]
        refine takeL 5 (v := ?_) rfl (by kernel_rfl) (by kernel_rfl) (by kernel_rfl) (fun _ _ _ h => h) (by rfl) ?_ (by assumption) ?_
        rotate_left
        · (intro w hSw; (try dsimp only at hSw); go_simp; try with_reducible rfl)
        try simp only [Act.put, List.setIfInBounds_toArray, List.set_cons_zero, List.set_cons_succ]
        refine takeL 6 (v := ?_) rfl (by kernel_rfl) (by kernel_rfl) (by kernel_rfl) (fun _ _ _ h => h) (by rfl) ?_ (by assumption) ?_
        rotate_left
        · (intro w hSw; (try dsimp only at hSw); go_simp; try with_reducible rfl)
        try simp only [Act.put, List.setIfInBounds_toArray, List.set_cons_zero, List.set_cons_succ]
        refine takeL 7 (v := ?_) rfl (by kernel_rfl) (by kernel_rfl) (by kernel_rfl) (fun _ _ _ h => h) (by rfl) ?_ (by assumption) ?_
        rotate_left
        · (intro w hSw; (try dsimp only at hSw); go_simp; try with_reducible rfl)
        try simp only [Act.put, List.setIfInBounds_toArray, List.set_cons_zero, List.set_cons_succ]
        refine takeL 8 (v := ?_) rfl (by kernel_rfl) (by kernel_rfl) (by kernel_rfl) (fun _ _ _ h => h) (by rfl) ?_ (by assumption) ?_
        rotate_left
        · (intro w hSw; (try dsimp only at hSw); go_simp; try with_reducible rfl)
        try simp only [Act.put, List.setIfInBounds_toArray, List.set_cons_zero, List.set_cons_succ]
        refine takeL 9 (v := ?_) rfl (by kernel_rfl) (by kernel_rfl) (by kernel_rfl) (fun _ _ _ h => h) (by rfl) ?_ (by assumption) ?_
        rotate_left
        · (intro w hSw; (try dsimp only at hSw); go_simp; try with_reducible rfl)
        try simp only [Act.put, List.setIfInBounds_toArray, List.set_cons_zero, List.set_cons_succ]
        refine takeL 10 (v := ?_) rfl (by kernel_rfl) (by kernel_rfl) (by kernel_rfl) (fun _ _ _ h => h) (by rfl) ?_ (by assumption) ?_
        rotate_left
        · (intro w hSw; (try dsimp only at hSw); go_simp; try with_reducible rfl)
        try simp only [Act.put, List.setIfInBounds_toArray, List.set_cons_zero, List.set_cons_succ]
        refine takeL 11 (v := ?_) rfl (by kernel_rfl) (by kernel_rfl) (by kernel_rfl) (fun _ _ _ h => h) (by rfl) ?_ (by assumption) ?_
        rotate_left
        · (intro w hSw; (try dsimp only at hSw); go_simp; try with_reducible rfl)
        try simp only [Act.put, List.setIfInBounds_toArray, List.set_cons_zero, List.set_cons_succ]
        refine takeL 12 (v := ?_) rfl (by kernel_rfl) (by kernel_rfl) (by kernel_rfl) (fun _ _ _ h => h) (by rfl) ?_ (by assumption) ?_
        rotate_left
        · (intro w hSw; (try dsimp only at hSw); go_simp; try with_reducible rfl)
        try simp only [Act.put, List.setIfInBounds_toArray, List.set_cons_zero, List.set_cons_succ]
        refine takeL 13 (v := ?_) rfl (by kernel_rfl) (by kernel_rfl) (by kernel_rfl) (fun _ _ _ h => h) (by rfl) ?_ (by assumption) ?_
        rotate_left
        · (intro w hSw; (try dsimp only at hSw); go_simp; try with_reducible rfl)
        try simp only [Act.put, List.setIfInBounds_toArray, List.set_cons_zero, List.set_cons_succ]
        refine takeL 14 (v := ?_) rfl (by kernel_rfl) (by kernel_rfl) (by kernel_rfl) (fun _ _ _ h => h) (by rfl) ?_ (by assumption) ?_
        rotate_left
        · (intro w hSw; (try dsimp only at hSw); go_simp; try with_reducible rfl)
        try simp only [Act.put, List.setIfInBounds_toArray, List.set_cons_zero, List.set_cons_succ]
        refine takeL 15 (v := ?_) rfl (by kernel_rfl) (by kernel_rfl) (by kernel_rfl) (fun _ _ _ h => h) (by rfl) ?_ (by assumption) ?_
        rotate_left
        · (intro w hSw; (try dsimp only at hSw); go_simp; try with_reducible rfl)
        try simp only [Act.put, List.setIfInBounds_toArray, List.set_cons_zero, List.set_cons_succ]
        refine callL 16 rfl (by kernel_rfl) (by rfl) (fun K hK => ?_)
        go_simp
        go_wp2_with (first | (go_at_call 53 ; refine (HSX.out _ ax 0 capx (MemW.drew (MemW.alloc GX.out _))).mono ?_; rintro e w2 ⟨rfl, hb⟩; have HB1 := Lib.hid hb; have HB2 := Lib.hid (Below.one hb); clear hb))
        refine hK.out _ _ ?_ (fun hS1 => ?_)
        · exact ⟨cell_below hS0.1 HB1.out, cell_below hS0.2.1 HB1.out, cell_below hS0.2.2.1 HB1.out, cell_below hS0.2.2.2 HB1.out⟩
        clear hK K
        refine callL 17 rfl (by kernel_rfl) (by rfl) (fun K hK => ?_)
        go_simp
        go_wp2_with (first | (go_at_call 98 ; refine (HBX.out _).mono ?_; rintro e w3 ⟨rfl, rfl⟩))
        refine hK.out _ _ ?_ (fun hS2 => ?_)
        · exact hS1
        clear hK K
        refine takeL 18 (v := ?_) rfl (by kernel_rfl) (by kernel_rfl) (by kernel_rfl) (fun _ _ _ h => h) (by rfl) ?_ (by assumption) ?_
        rotate_left
        · (intro w hSw; (try dsimp only at hSw); go_simp; try with_reducible rfl)
        try simp only [Act.put, List.setIfInBounds_toArray, List.set_cons_zero, List.set_cons_succ]
        refine takeL 19 (v := ?_) rfl (by kernel_rfl) (by kernel_rfl) (by kernel_rfl) (fun _ _ _ h => h) (by rfl) ?_ (by assumption) ?_
        rotate_left
        · (intro w hSw; (try dsimp only at hSw); go_simp; try with_reducible rfl)
        try simp only [Act.put, List.setIfInBounds_toArray, List.set_cons_zero, List.set_cons_succ]
        refine takeL 20 (v := ?_) rfl (by kernel_rfl) (by kernel_rfl) (by kernel_rfl) (fun _ _ _ h => h) (by rfl) ?_ (by assumption) ?_
        rotate_left
        · (intro w hSw; (try dsimp only at hSw); go_simp; try with_reducible rfl)
        try simp only [Act.put, List.setIfInBounds_toArray, List.set_cons_zero, List.set_cons_succ]
        refine wpAnyH_done (by kernel_rfl) ?_ _
        go_wp2
        go_roundw
        case rel => exact ⟨k + 1, by omega, by go_num, by rw [HN.out], Below.toA HB.out HB2.out⟩
        case measure => simp [intOf]; omega
      · have e3 : (x.kind == 3) = false := by rw [beq_eq_false_iff_ne]; exact k3
        have e4 : (x.kind == 2) = false := by rw [beq_eq_false_iff_ne]; exact k2
        clear k3 k2
        rw [hT] at HN HBX hs3
        generalize hb' : brk (false) (showT x) = bx at *
        have iz2 : (bx.size : Int) ≤ 1000000000 := by omega
        have iq1 : ¬ (9223372036854775807 < 1 + bx.size) := by omega
        have iq2 : ¬ (9223372036854775807 < s.size + (1 + bx.size)) := by omega
        clear hb' hs1 hs2 hs3 hT
        go_wp2
        refine wp_region_held_drew (S := (fun w' => w'.cell? ⟨wr.heap.size, 0, none⟩ = some (.int .i64 x.kind) ∧ w'.cell? ⟨wr.heap.size, 1, none⟩ = some (.string x.name) ∧ w'.cell? ⟨wr.heap.size, 2, none⟩ = some (.int .i64 x.n) ∧ w'.cell? ⟨wr.heap.size, 3, none⟩ = some (.slice ax nx capx))) (by kernel_rfl) ⟨cell_drew g0, cell_drew g1, cell_drew g2, cell_drew g3⟩ (fun hS0 => ?_)
        refine takeL 0 (v := ?_) rfl (by kernel_rfl) (by kernel_rfl) (by kernel_rfl) (fun _ _ _ h => h) (by rfl) ?_ (by assumption) ?_
        rotate_left
        · (intro w hSw; (try dsimp only at hSw); go_simp; try with_reducible rfl)
        try simp only [Act.put, List.setIfInBounds_toArray, List.set_cons_zero, List.set_cons_succ]
        refine takeL 1 (v := ?_) rfl (by kernel_rfl) (by kernel_rfl) (by kernel_rfl) (fun _ _ _ h => h) (by rfl) ?_ (by assumption) ?_
        rotate_left
        · (intro w hSw; (try dsimp only at hSw); go_simp; try with_reducible rfl)
        try simp only [Act.put, List.setIfInBounds_toArray, List.set_cons_zero, List.set_cons_succ]
        refine takeL 2 (v := ?_) rfl (by kernel_rfl) (by kernel_rfl) (by kernel_rfl) (fun _ _ _ h => h) (by rfl) ?_ (by assumption) ?_
        rotate_left
        · (intro w hSw; (try dsimp only at hSw); go_simp; try with_reducible rfl)
        try simp only [Act.put, List.setIfInBounds_toArray, List.set_cons_zero, List.set_cons_succ]
        refine takeL 3 (v := ?_) rfl (by kernel_rfl) (by kernel_rfl) (by kernel_rfl) (fun _ _ _ h => h) (by rfl) ?_ (by assumption) ?_
        rotate_left
        · (intro w hSw; (try dsimp only at hSw); go_simp; try with_reducible rfl)
        try simp only [Act.put, List.setIfInBounds_toArray, List.set_cons_zero, List.set_cons_succ]
        refine takeL 4 (v := ?_) rfl (by kernel_rfl) (by kernel_rfl) (by kernel_rfl) (fun _ _ _ h => h) (by rfl) ?_ (by assumption) ?_
        rotate_left
        · (intro w hSw; (try dsimp only at hSw); go_simp; try with_reducible rfl)
        try simp only [Act.put, List.setIfInBounds_toArray, List.set_cons_zero, List.set_cons_succ]
        refine takeL 5 (v := ?_) rfl (by kernel_rfl) (by kernel_rfl) (by kernel_rfl) (fun _ _ _ h => h) (by rfl) ?_ (by assumption) ?_
        rotate_left
        · (intro w hSw; (try dsimp only at hSw); go_simp; try with_reducible rfl)
        try simp only [Act.put, List.setIfInBounds_toArray, List.set_cons_zero, List.set_cons_succ]
        refine takeL 6 (v := ?_) rfl (by kernel_rfl) (by kernel_rfl) (by kernel_rfl) (fun _ _ _ h => h) (by rfl) ?_ (by assumption) ?_
        rotate_left
        · (intro w hSw; (try dsimp only at hSw); go_simp; try with_reducible rfl)
        try simp only [Act.put, List.setIfInBounds_toArray, List.set_cons_zero, List.set_cons_succ]
        refine takeL 7 (v := ?_) rfl (by kernel_rfl) (by kernel_rfl) (by kernel_rfl) (fun _ _ _ h => h) (by rfl) ?_ (by assumption) ?_
        rotate_left
        · (intro w hSw; (try dsimp only at hSw); go_simp; try with_reducible rfl)
        try simp only [Act.put, List.setIfInBounds_toArray, List.set_cons_zero, List.set_cons_succ]
        refine takeL 8 (v := ?_) rfl (by kernel_rfl) (by kernel_rfl) (by kernel_rfl) (fun _ _ _ h => h) (by rfl) ?_ (by assumption) ?_
        rotate_left
        · (intro w hSw; (try dsimp only at hSw); go_simp; try with_reducible rfl)
        try simp only [Act.put, List.setIfInBounds_toArray, List.set_cons_zero, List.set_cons_succ]
        refine skipL 9 rfl (by kernel_rfl) (by kernel_rfl) (by kernel_rfl) (fun _ _ _ h => h) (by rfl) (by assumption) ?_
        try simp only [Act.put, List.setIfInBounds_toArray, List.set_cons_zero, List.set_cons_succ]
        refine skipL 10 rfl (by kernel_rfl) (by kernel_rfl) (by kernel_rfl) (fun _ _ _ h => h) (by rfl) (by assumption) ?_
        try simp only [Act.put, List.setIfInBounds_toArray, List.set_cons_zero, List.set_cons_succ]
        refine skipL 11 rfl (by kernel_rfl) (by kernel_rfl) (by kernel_rfl) (fun _ _ _ h => h) (by rfl) (by assumption) ?_
        try simp only [Act.put, List.setIfInBounds_toArray, List.set_cons_zero, List.set_cons_succ]
        refine skipL 12 rfl (by kernel_rfl) (by kernel_rfl) (by kernel_rfl) (fun _ _ _ h => h) (by rfl) (by assumption) ?_
        try simp only [Act.put, List.setIfInBounds_toArray, List.set_cons_zero, List.set_cons_succ]
        refine takeL 13 (v := ?_) rfl (by kernel_rfl) (by kernel_rfl) (by kernel_rfl) (fun _ _ _ h => h) (by rfl) ?_ (by assumption) ?_
        rotate_left
        · (intro w hSw; (try dsimp only at hSw); go_simp; try with_reducible rfl)
        try simp only [Act.put, List.setIfInBounds_toArray, List.set_cons_zero, List.set_cons_succ]
        refine takeL 14 (v := ?_) rfl (by kernel_rfl) (by kernel_rfl) (by kernel_rfl) (fun _ _ _ h => h) (by rfl) ?_ (by assumption) ?_
        rotate_left
        · (intro w hSw; (try dsimp only at hSw); go_simp; try with_reducible rfl)
        try simp only [Act.put, List.setIfInBounds_toArray, List.set_cons_zero, List.set_cons_succ]
        refine takeL 15 (v := ?_) rfl (by kernel_rfl) (by kernel_rfl) (by kernel_rfl) (fun _ _ _ h => h) (by rfl) ?_ (by assumption) ?_
        rotate_left
        · (intro w hSw; (try dsimp only at hSw); go_simp; try with_reducible rfl)
        try simp only [Act.put, List.setIfInBounds_toArray, List.set_cons_zero, List.set_cons_succ]
        refine callL 16 rfl (by kernel_rfl) (by rfl) (fun K hK => ?_)
        go_simp
        go_wp2_with (first | (go_at_call 53 ; refine (HSX.out _ ax nx capx (MemW.drew (MemW.alloc GX.out _))).mono ?_; rintro e w2 ⟨rfl, hb⟩; have HB1 := Lib.hid hb; have HB2 := Lib.hid (Below.one hb); clear hb))
        refine hK.out _ _ ?_ (fun hS1 => ?_)
        · exact ⟨cell_below hS0.1 HB1.out, cell_below hS0.2.1 HB1.out, cell_below hS0.2.2.1 HB1.out, cell_below hS0.2.2.2 HB1.out⟩
        clear hK K
        refine callL 17 rfl (by kernel_rfl) (by rfl) (fun K hK => ?_)
        go_simp
        go_wp2_with (first | (go_at_call 98 ; refine (HBX.out _).mono ?_; rintro e w3 ⟨rfl, rfl⟩))
        refine hK.out _ _ ?_ (fun hS2 => ?_)
        · exact hS1
        clear hK K
        refine takeL 18 (v := ?_) rfl (by kernel_rfl) (by kernel_rfl) (by kernel_rfl) (fun _ _ _ h => h) (by rfl) ?_ (by assumption) ?_
        rotate_left
        · (intro w hSw; (try dsimp only at hSw); go_simp; try with_reducible rfl)
        try simp only [Act.put, List.setIfInBounds_toArray, List.set_cons_zero, List.set_cons_succ]
        refine takeL 19 (v := ?_) rfl (by kernel_rfl) (by kernel_rfl) (by kernel_rfl) (fun _ _ _ h => h) (by rfl) ?_ (by assumption) ?_
        rotate_left
        · (intro w hSw; (try dsimp only at hSw); go_simp; try with_reducible rfl)
        try simp only [Act.put, List.setIfInBounds_toArray, List.set_cons_zero, List.set_cons_succ]
        refine takeL 20 (v := ?_) rfl (by kernel_rfl) (by kernel_rfl) (by kernel_rfl) (fun _ _ _ h => h) (by rfl) ?_ (by assumption) ?_
        rotate_left
        · (intro w hSw; (try dsimp only at hSw); go_simp; try with_reducible rfl)
        try simp only [Act.put, List.setIfInBounds_toArray, List.set_cons_zero, List.set_cons_succ]
        refine wpAnyH_done (by kernel_rfl) ?_ _
        go_wp2
        go_roundw
        case rel => exact ⟨k + 1, by omega, by go_num, by rw [HN.out], Below.toA HB.out HB2.out⟩
        case measure => simp [intOf]; omega
    · have HF := Lib.hid (show t.args.take k = t.args from List.take_of_length_le (by rw [HL.out]; omega))
      go_wp2
      go_ret
      exact ⟨ret_str (by rw [HF0.out, HF.out]), HB.out⟩

set_option maxRecDepth 100000 in
set_option maxHeartbeats 2000000 in
theorem show_of {t : Tm} (hx : ∀ x ∈ t.args, ShowAt x) (hok : t.ok) (hw : t.wt ≤ 1048576) : ShowAt t := by
  intro w a n cap h
  have hn := (hok t (Tm.mem_all t)).2
  unfold inI64 at hn
  have hsz := showT_size hok
  have hl := Tms.len h
  have HE := Lib.hid (showT_eq t)
  have hds := digB_size t.n (hok t (Tm.mem_all t)).2
  have HD := Lib.hid (fun (w' : World) => Digits_any t.n w' hn.1 hn.2)
  have id1 : (((⟨(digs t.n).toArray⟩ : ByteArray)).size : Int) ≤ 1000000000 := by show ((digB t.n).size : Int) ≤ _; omega
  have idl : (digs t.n).length ≤ 21 := by
    have e : (digB t.n).size = (digs t.n).length := by unfold digB; exact List.size_toArray ..
    omega
  have id2 : ((digs t.n).length : Int) ≤ 1000000000 := by omega
  have id3 : ¬ (9223372036854775807 < 1 + (digs t.n).length) := by omega
  by_cases k1 : t.kind = 1
  · by_cases kl : 0 ≤ t.n ∧ t.n < 26
    · exact show_letter w k1 kl.1 kl.2
    · have e1 : (t.kind == 1) = true := by rw [beq_iff_eq]; exact k1
      have HF := Lib.hid (HE.out.trans ((if_pos k1).trans (if_neg kl)))
      by_cases k0 : 0 ≤ t.n
      · have k26 : ¬ t.n < 26 := fun h => kl ⟨k0, h⟩
        clear k1 kl hx hok hw h hsz hl
        go_enter Try.func53, Try.ntmps53
        go_wp2_with (first | (go_at_call 25 ; refine (HD.out _).mono ?_; rintro e w2 ⟨rfl, hb⟩; have HB2 := Lib.hid hb; clear hb))
        go_ret
        exact ⟨ret_str HF.out.symm, Below.toA (Below.refl _ _) HB2.out⟩
      · clear k1 kl hx hok hw h hsz hl
        go_enter Try.func53, Try.ntmps53
        go_wp2_with (first | (go_at_call 25 ; refine (HD.out _).mono ?_; rintro e w2 ⟨rfl, hb⟩; have HB2 := Lib.hid hb; clear hb))
        go_ret
        exact ⟨ret_str HF.out.symm, Below.toA (Below.refl _ _) HB2.out⟩
  by_cases k2 : t.kind = 2
  · exact show_con w k2 hx hok hw h
  have e1 : (t.kind == 1) = false := by rw [beq_eq_false_iff_ne]; exact k1
  have e2 : (t.kind == 2) = false := by rw [beq_eq_false_iff_ne]; exact k2
  by_cases k3 : t.kind = 3
  · by_cases kl : t.args.length = 2
    · obtain ⟨x, y, ha⟩ : ∃ x y, t.args = [x, y] := by
        match hq : t.args, kl with
        | [x, y], _ => exact ⟨x, y, rfl⟩
      have hxm : x ∈ t.args := by rw [ha]; simp
      have hym : y ∈ t.args := by rw [ha]; simp
      have h1 := showT_size (Tm.ok_arg' hok hxm)
      have h2 := showT_size (Tm.ok_arg' hok hym)
      have h3 := Tm.wts_mem hxm
      have h4 := Tm.wts_mem hym
      have h5 := t.wt_eq
      exact show_fun w k3 ha h (hx x hxm) (hx y hym) (by omega) (by omega)
    · have e3 : (t.kind == 3) = true := by rw [beq_iff_eq]; exact k3
      have HF := Lib.hid (HE.out.trans ((if_neg k1).trans ((if_neg k2).trans (if_neg (fun h => kl h.2)))))
      have e4 : ((n : Int) == 2) = false := by rw [beq_eq_false_iff_ne]; omega
      clear k1 k2 k3 kl hx hok hw h hsz hl
      go_enter Try.func53, Try.ntmps53
      go_wp2
      go_ret
      exact ⟨ret_str HF.out.symm, below_new _ _⟩
  · have e3 : (t.kind == 3) = false := by rw [beq_eq_false_iff_ne]; exact k3
    have HF := Lib.hid (HE.out.trans ((if_neg k1).trans ((if_neg k2).trans (if_neg (fun h => k3 h.1)))))
    clear k1 k2 k3 hx hok hw h hsz hl
    go_enter Try.func53, Try.ntmps53
    go_wp2
    go_ret
    exact ⟨ret_str HF.out.symm, below_new _ _⟩
theorem Tm.wt_arg' {x t : Tm} (hx : x ∈ t.args) : x.wt ≤ t.wt := by have := Tm.wts_mem hx; have := t.wt_eq; omega
theorem showT_any (m : Nat) : ∀ t : Tm, t.size ≤ m → t.ok → t.wt ≤ 1048576 → ShowAt t := by
  induction m with
  | zero => intro t h; have := t.size_pos; omega
  | succ m ih => intro t h hok hw; exact show_of (fun x hx => ih x (by have := Tm.size_arg hx; omega) (Tm.ok_arg' hok hx) (Nat.le_trans (Tm.wt_arg' hx) hw)) hok hw
theorem showTt {t : Tm} (hok : t.ok) (hw : t.wt ≤ 1048576) : ShowAt t := showT_any t.size t (Nat.le_refl _) hok hw
end Go.Proofs.Ytemkpecagflafaa
