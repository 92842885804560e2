/-
  The reference's Scheme: a type numbered anew, variable by variable. No condition but how it lies, how great it is, and that its variables have no arguments.
-/
import Derived.Test.YtemkpecagflafaaPut9
import Derived.Test.YtemkpecagflafaaVars9
namespace Go.Proofs.Ytemkpecagflafaa
open Go.RowKit
attribute [local go_sem ↓] store_type
attribute [local go_sem] stOk_type
attribute [local go_sem] stB_eq stC_eq wr_drew wr_alloc wr_row

/-- The first j variables, put aside; and brought back by their places. -/
def sch1 (l : List Int) : Nat → Tm → Tm
  | 0, t => t
  | j + 1, t => putT (l.getD j 0) (-1000000 - (j : Int)) (sch1 l j t)
def sch2 : Nat → Tm → Tm
  | 0, t => t
  | j + 1, t => putT (-1000000 - (j : Int)) (j : Int) (sch2 j t)
theorem sch1_na {l : List Int} {t : Tm} (h : NA t) : ∀ j, NA (sch1 l j t) ∧ (sch1 l j t).size = t.size
  | 0 => ⟨h, rfl⟩
  | j + 1 => by
    obtain ⟨h1, h2⟩ := sch1_na (l := l) h j
    rw [sch1]; exact ⟨putT_na h1, (putT_size h1).trans h2⟩
theorem sch2_na {t : Tm} (h : NA t) : ∀ j, NA (sch2 j t) ∧ (sch2 j t).size = t.size
  | 0 => ⟨h, rfl⟩
  | j + 1 => by
    obtain ⟨h1, h2⟩ := sch2_na h j
    rw [sch2]; exact ⟨putT_na h1, (putT_size h1).trans h2⟩

set_option maxRecDepth 100000 in
set_option maxHeartbeats 2000000 in
theorem var9_any (k : Int) (w : World) : Calls Try.prog 103 #[.int .i64 k] w fun e w' => e = .returned (.agg #[.int .i64 1, .string ⟨#[]⟩, .int .i64 k, .slice none 0 0]) ∧ w.alloc (.cells #[.int .i64 1, .string ⟨#[]⟩, .int .i64 k, .slice none 0 0] 52) = w' := by
  go_enter Try.func103, Try.ntmps103
  go_wp2
  exact bodyPost_ret (v := .agg #[.int .i64 1, .string ⟨#[]⟩, .int .i64 k, .slice none 0 0]) (by simp [results, Try.results103, go_sem]) rfl ⟨rfl, rfl⟩

/-- What the reference's Scheme hands back. -/
def GivesSch9 (t : Tm) (k : Int) (w : World) (e : Ending) (w' : World) : Prop :=
  ∃ a n cap, e = .returned (.tuple #[.agg #[.int .i64 t.kind, .string t.name, .int .i64 t.n, .slice a n cap], .int .i64 k]) ∧ Below w.heap.size w w' ∧ MemW w' (.s 4 (Tm.rows t.args)) (.slice a n cap)

set_option maxRecDepth 100000 in
set_option maxHeartbeats 2000000 in
theorem scheme9_any {t : Tm} {n cap : Nat} {a : Option Addr} {w : World} (hs : t.size ≤ 1000) (hna : NA t) (h : MemW w (.s 4 (Tm.rows t.args)) (.slice a n cap)) :
    Calls Try.prog 59 #[.agg #[.int .i64 t.kind, .string t.name, .int .i64 t.n, .slice a n cap]] w (GivesSch9 (sch2 (rvT [] t).length (sch1 (rvT [] t) (rvT [] t).length t)) (rvT [] t).length w) := by
  have HW1 : Hid (Below w.heap.size w ((w.alloc (.cells #[.int .i64 t.kind, .string t.name, .int .i64 t.n, .slice a n cap] 52)).alloc (.cells #[.int .i64 0, .string ⟨#[]⟩, .int .i64 0, .slice none 0 0] 52))) := Lib.hid ((below_new w _).alloc (by simp) _)
  have HX0 : Hid (Bo ((w.alloc (.cells #[.int .i64 t.kind, .string t.name, .int .i64 t.n, .slice a n cap] 52)).alloc (.cells #[.int .i64 0, .string ⟨#[]⟩, .int .i64 0, .slice none 0 0] 52)) w.heap.size 52 #[.int .i64 t.kind, .string t.name, .int .i64 t.n, .slice a n cap]) := Lib.hid ((Bo.new w _ _).alloc _)
  have HZ0 : Hid (Bo ((w.alloc (.cells #[.int .i64 t.kind, .string t.name, .int .i64 t.n, .slice a n cap] 52)).alloc (.cells #[.int .i64 0, .string ⟨#[]⟩, .int .i64 0, .slice none 0 0] 52)) (w.heap.size + 1) 52 #[.int .i64 0, .string ⟨#[]⟩, .int .i64 0, .slice none 0 0]) := Lib.hid (World.size_alloc w (.cells #[.int .i64 t.kind, .string t.name, .int .i64 t.n, .slice a n cap] 52) ▸ Bo.new (w.alloc (.cells #[.int .i64 t.kind, .string t.name, .int .i64 t.n, .slice a n cap] 52)) 52 #[.int .i64 0, .string ⟨#[]⟩, .int .i64 0, .slice none 0 0])
  have HT := Lib.hid h
  have hV := rvT_len t []
  have HS := Lib.hid hs
  have HNA0 := Lib.hid hna
  have HVC := Lib.hid (vars9 (t := t) (n := n) (cap := cap) (a := a) (w := (w.alloc (.cells #[.int .i64 t.kind, .string t.name, .int .i64 t.n, .slice a n cap] 52)).alloc (.cells #[.int .i64 0, .string ⟨#[]⟩, .int .i64 0, .slice none 0 0] 52)) (by omega) (MemW.keep h HW1.out))
  simp only [List.length_nil, Nat.zero_add] at hV
  have hVb : (rvT [] t).length ≤ 1000 := by omega
  clear h hs hna hV
  generalize rvT [] t = V at *
  go_enter Try.func59, Try.ntmps59
  go_wp2_with (first
    | (go_at_call 61
       refine HVC.out.mono ?_
       rintro e w2 ⟨v, rfl, ho, hb⟩
       obtain ⟨av, cv, rfl, _, _⟩ := ho.form
       rw [intRows_len] at *
       have HM0 : Hid (Mem (Nw 0 (w.heap.size + 2) w2.heap.size) w2 (.s 1 (intRows V)) (.slice av V.length cv)) := Lib.hid (by have := ho.mem; simp only [World.size_alloc] at this; exact this)
       have HB2 := Lib.hid hb
       clear ho hb))
  generalize hnv : V.length = nv at *
  have HNV := Lib.hid hnv
  clear hnv
  go_loopw [12] (fun i wr => ∃ k : Nat, k ≤ nv ∧ i = .int .i64 k ∧ ∃ ax nx capx, Hid (Below w.heap.size w wr) ∧ Hid (Bo wr w.heap.size 52 #[.int .i64 (sch1 V k t).kind, .string (sch1 V k t).name, .int .i64 (sch1 V k t).n, .slice ax nx capx]) ∧ Hid (Bo wr (w.heap.size + 1) 52 #[.int .i64 0, .string ⟨#[]⟩, .int .i64 0, .slice none 0 0]) ∧ Hid (Mem (Nw w.heap.size (w.heap.size + 2) wr.heap.size) wr (.s 4 (Tm.rows (sch1 V k t).args)) (.slice ax nx capx)) ∧ Hid (Mem (Nw 0 (w.heap.size + 2) wr.heap.size) wr (.s 1 (intRows V)) (.slice av nv cv)) ∧ Hid (NA (sch1 V k t)) ∧ Hid ((sch1 V k t).size ≤ 1048576)) (fun i _ => nv - (intOf i).toNat)
  case atStart => exact ⟨0, Nat.zero_le _, rfl, a, n, cap, HW1.out.trans (HB2.out.mono HW1.out.size), HX0.out.keep HB2.out, HZ0.out.keep HB2.out, by rw [sch1]; exact HT.out.mono (fun b hb => ⟨.inl hb, Nat.lt_of_lt_of_le hb (Nat.le_trans HW1.out.size HB2.out.size)⟩) (fun b hb => (HW1.out.trans (HB2.out.mono HW1.out.size)).block b hb), HM0.out, HNA0.out, show (sch1 V 0 t).size ≤ 1048576 by rw [sch1]; have := HS.out; omega⟩
  case round =>
    obtain ⟨k, hk, rfl, ax, nx, capx, HB, HX, HZ, HM, HVm, HNA, HZS⟩ := hrel
    have HMW : Hid (MemW wr (.s 4 (Tm.rows (sch1 V k t).args)) (.slice ax nx capx)) := Lib.hid (HM.out.mono (fun b hb => hb.2) fun _ _ => rfl)
    by_cases hlt : k < nv
    · obtain ⟨b, o, y, rfl, hbB, Hy, hc⟩ := int_at HVm.out k hlt
      obtain ⟨g0, g1, g2, g3⟩ := HX.out.c4
      have hsub : IntKind.i64.wrap (-1000000 - (k : Int)) = -1000000 - (k : Int) := IntWalk.i64_in _ (by omega)
      have HST : Hid (sch1 V (k + 1) t = putT y (-1000000 - (k : Int)) (sch1 V k t)) := Lib.hid (by rw [sch1, List.getD_eq_getElem?_getD, Hy.out]; rfl)
      have HNA2 : Hid (NA (sch1 V (k + 1) t)) := Lib.hid (sch1_na HNA0.out (k + 1)).1
      have HZS2 : Hid ((sch1 V (k + 1) t).size ≤ 1048576) := Lib.hid (by rw [(sch1_na HNA0.out (k + 1)).2]; have := HS.out; omega)
      go_wp2
      refine wp_region_held_drew (S := fun _ => True) (by kernel_rfl) trivial (fun hS0 => ?_)
      refine takeL 1 (v := ?_) rfl (by kernel_rfl) (by kernel_rfl) (by kernel_rfl) (fun _ _ _ h => h) (by rfl) ?_ (by assumption) ?_
      rotate_left
      · (intro w hSw; (try dsimp only at hSw); go_simp; try with_reducible rfl)
      try simp only [Act.put, List.setIfInBounds_toArray, List.set_cons_zero, List.set_cons_succ]
      refine takeL 2 (v := ?_) rfl (by kernel_rfl) (by kernel_rfl) (by kernel_rfl) (fun _ _ _ h => h) (by rfl) ?_ (by assumption) ?_
      rotate_left
      · (intro w hSw; (try dsimp only at hSw); go_simp; try with_reducible rfl)
      try simp only [Act.put, List.setIfInBounds_toArray, List.set_cons_zero, List.set_cons_succ]
      refine takeL 3 (v := ?_) rfl (by kernel_rfl) (by kernel_rfl) (by kernel_rfl) (fun _ _ _ h => h) (by rfl) ?_ (by assumption) ?_
      rotate_left
      · (intro w hSw; (try dsimp only at hSw); go_simp; try with_reducible rfl)
      try simp only [Act.put, List.setIfInBounds_toArray, List.set_cons_zero, List.set_cons_succ]
      refine wpAnyH_ready (rs := [0, 4]) (by kernel_rfl) (by simp) ?_
      refine consL 0 rfl (by rfl) (fun K hK => ?_) ?_
      · go_simp
        refine hK.out _ _ trivial (fun hS1 => ?_)
        clear hK K hS1
        refine wpAnyH_ready (rs := [4]) (by kernel_rfl) (by simp) ?_
        refine consL 4 rfl (by rfl) (fun K hK => ?_) ?_
        · go_simp
          go_wp2_with (first | (go_at_call 103 ; refine (var9_any _ _).mono ?_; rintro e w3 ⟨rfl, h3⟩; have HB3 : Hid (Below wr.drew.heap.size wr.drew w3) := Lib.hid (h3 ▸ below_new _ _); clear h3))
          refine hK.out _ _ trivial (fun hS1 => ?_)
          clear hK K hS1
          have HB3b : Hid (Below wr.heap.size wr w3) := Lib.hid (Below.one HB3.out)
          obtain ⟨q0, q1, q2, q3⟩ := (HX.out.keep HB3b.out).c4
          refine callL 5 rfl (by kernel_rfl) (by rfl) (fun K hK => ?_)
          go_simp
          go_wp2_with (first | (go_at_call 102 ; refine (put_any (m := y) (v := (-1000000 - (k : Int))) 1048576 (sch1 V k t) _ nx capx ax w3 HZS.out HNA.out (Nat.le_refl _) (MemW.keep HMW.out HB3b.out) (Nat.le_refl _)).mono ?_; rintro e w4 ⟨a4, n4, cap4, rfl, hb, hm⟩; have HB4 := Lib.hid hb; have HM4 := Lib.hid hm; have HB4b : Hid (Below wr.heap.size wr w4) := Lib.hid (HB3b.out.trans (hb.mono HB3b.out.size)); have HX4 := Lib.hid (HX.out.keep HB4b.out); have hwr : Wr w4 w.heap.size 52 4 := HX4.out.wr; clear hb hm))
          refine hK.out _ _ trivial (fun hS1 => ?_)
          clear hK K hS1
          refine callL 6 rfl (by kernel_rfl) (by rfl) (fun K hK => ?_)
          go_simp
          refine hK.out _ _ trivial (fun hS1 => ?_)
          clear hK K hS1
          refine wpAnyH_done (by kernel_rfl) ?_ _
          go_wp2
          go_roundw
          case rel =>
            have hwz := HB.out.size
            have hz3 := HB3b.out.size
            have hz4 := HB4b.out.size
            have hzz := HZ.out.lt
            refine ⟨k + 1, by omega, by go_num, a4, n4, cap4, below_setRow (HB.out.trans (HB4b.out.mono hwz)) (Nat.le_refl _) _, by rw [HST.out]; exact HX4.out.row _, (HZ.out.keep HB4b.out).rowFar _ (by omega), ?_, ?_, HNA2.out, HZS2.out⟩
            · rw [HST.out]; exact (HM4.out.row w.heap.size _ (fun h => by rcases h.1 with h | h <;> omega)).mono (fun b hb => ⟨.inr (by rcases hb.1 with h | h <;> omega), by rw [size_setRow]; exact hb.2⟩) fun _ _ => rfl
            · exact (HVm.out.mono (S' := Nw 0 (w.heap.size + 2) w4.heap.size) (fun b hb => ⟨hb.1, Nat.lt_of_lt_of_le hb.2 hz4⟩) (fun b hb => HB4b.out.block b hb.2)).row w.heap.size _ (fun h => by rcases h.1 with h | h <;> omega) |>.mono (fun b hb => ⟨hb.1, by rw [size_setRow]; exact hb.2⟩) fun _ _ => rfl
          case measure => simp [intOf]; omega
        exact AllReadyH.nil
      refine consL 4 rfl (by rfl) (fun K hK => ?_) ?_
      · go_simp
        go_wp2_with (first | (go_at_call 103 ; refine (var9_any _ _).mono ?_; rintro e w3 ⟨rfl, h3⟩; have HB3 : Hid (Below wr.drew.heap.size wr.drew w3) := Lib.hid (h3 ▸ below_new _ _); clear h3))
        refine hK.out _ _ trivial (fun hS1 => ?_)
        clear hK K hS1
        have HB3b : Hid (Below wr.heap.size wr w3) := Lib.hid (Below.one HB3.out)
        obtain ⟨q0, q1, q2, q3⟩ := (HX.out.keep HB3b.out).c4
        refine wpAnyH_ready (rs := [0]) (by kernel_rfl) (by simp) ?_
        refine consL 0 rfl (by rfl) (fun K hK => ?_) ?_
        · go_simp
          refine hK.out _ _ trivial (fun hS1 => ?_)
          clear hK K hS1
          refine callL 5 rfl (by kernel_rfl) (by rfl) (fun K hK => ?_)
          go_simp
          go_wp2_with (first | (go_at_call 102 ; refine (put_any (m := y) (v := (-1000000 - (k : Int))) 1048576 (sch1 V k t) _ nx capx ax w3 HZS.out HNA.out (Nat.le_refl _) (MemW.keep HMW.out HB3b.out) (Nat.le_refl _)).mono ?_; rintro e w4 ⟨a4, n4, cap4, rfl, hb, hm⟩; have HB4 := Lib.hid hb; have HM4 := Lib.hid hm; have HB4b : Hid (Below wr.heap.size wr w4) := Lib.hid (HB3b.out.trans (hb.mono HB3b.out.size)); have HX4 := Lib.hid (HX.out.keep HB4b.out); have hwr : Wr w4 w.heap.size 52 4 := HX4.out.wr; clear hb hm))
          refine hK.out _ _ trivial (fun hS1 => ?_)
          clear hK K hS1
          refine callL 6 rfl (by kernel_rfl) (by rfl) (fun K hK => ?_)
          go_simp
          refine hK.out _ _ trivial (fun hS1 => ?_)
          clear hK K hS1
          refine wpAnyH_done (by kernel_rfl) ?_ _
          go_wp2
          go_roundw
          case rel =>
            have hwz := HB.out.size
            have hz3 := HB3b.out.size
            have hz4 := HB4b.out.size
            have hzz := HZ.out.lt
            refine ⟨k + 1, by omega, by go_num, a4, n4, cap4, below_setRow (HB.out.trans (HB4b.out.mono hwz)) (Nat.le_refl _) _, by rw [HST.out]; exact HX4.out.row _, (HZ.out.keep HB4b.out).rowFar _ (by omega), ?_, ?_, HNA2.out, HZS2.out⟩
            · rw [HST.out]; exact (HM4.out.row w.heap.size _ (fun h => by rcases h.1 with h | h <;> omega)).mono (fun b hb => ⟨.inr (by rcases hb.1 with h | h <;> omega), by rw [size_setRow]; exact hb.2⟩) fun _ _ => rfl
            · exact (HVm.out.mono (S' := Nw 0 (w.heap.size + 2) w4.heap.size) (fun b hb => ⟨hb.1, Nat.lt_of_lt_of_le hb.2 hz4⟩) (fun b hb => HB4b.out.block b hb.2)).row w.heap.size _ (fun h => by rcases h.1 with h | h <;> omega) |>.mono (fun b hb => ⟨hb.1, by rw [size_setRow]; exact hb.2⟩) fun _ _ => rfl
          case measure => simp [intOf]; omega
        exact AllReadyH.nil
      exact AllReadyH.nil
    · have hkn : k = nv := by omega
      subst hkn
      clear hlt
      go_wp2
      go_loopw [26] (fun i wr => ∃ j : Nat, j ≤ k ∧ i = .int .i64 j ∧ ∃ ax nx capx, Hid (Below w.heap.size w wr) ∧ Hid (Bo wr w.heap.size 52 #[.int .i64 (sch2 j (sch1 V k t)).kind, .string (sch2 j (sch1 V k t)).name, .int .i64 (sch2 j (sch1 V k t)).n, .slice ax nx capx]) ∧ Hid (Bo wr (w.heap.size + 1) 52 #[.int .i64 0, .string ⟨#[]⟩, .int .i64 0, .slice none 0 0]) ∧ Hid (Mem (Nw w.heap.size (w.heap.size + 2) wr.heap.size) wr (.s 4 (Tm.rows (sch2 j (sch1 V k t)).args)) (.slice ax nx capx)) ∧ Hid (Mem (Nw 0 (w.heap.size + 2) wr.heap.size) wr (.s 1 (intRows V)) (.slice av k cv)) ∧ Hid (NA (sch2 j (sch1 V k t))) ∧ Hid ((sch2 j (sch1 V k t)).size ≤ 1048576)) (fun i _ => k - (intOf i).toNat)
      case atStart => exact ⟨0, Nat.zero_le _, rfl, ax, nx, capx, HB.out, HX.out, HZ.out, HM.out, HVm.out, HNA.out, HZS.out⟩
      case round =>
        clear HB HX HZ HM HVm HMW HNA HZS
        obtain ⟨j, hj, rfl, ax, nx, capx, HB, HX, HZ, HM, HVm, HNA, HZS⟩ := hrel
        have HMW : Hid (MemW wr (.s 4 (Tm.rows (sch2 j (sch1 V k t)).args)) (.slice ax nx capx)) := Lib.hid (HM.out.mono (fun b hb => hb.2) fun _ _ => rfl)
        obtain ⟨g0, g1, g2, g3⟩ := HX.out.c4
        by_cases hlt : j < k
        · have hsub : IntKind.i64.wrap (-1000000 - (j : Int)) = -1000000 - (j : Int) := IntWalk.i64_in _ (by omega)
          have HST : Hid (sch2 (j + 1) (sch1 V k t) = putT (-1000000 - (j : Int)) (j : Int) (sch2 j (sch1 V k t))) := Lib.hid (by rw [sch2])
          have HNA1 := Lib.hid (sch1_na (l := V) HNA0.out k)
          have HNA2 : Hid (NA (sch2 (j + 1) (sch1 V k t))) := Lib.hid (sch2_na HNA1.out.1 (j + 1)).1
          have HZS2 : Hid ((sch2 (j + 1) (sch1 V k t)).size ≤ 1048576) := Lib.hid (by rw [(sch2_na HNA1.out.1 (j + 1)).2, HNA1.out.2]; have := HS.out; omega)
          go_wp2
          refine wp_region_held_drew (S := fun _ => True) (by kernel_rfl) trivial (fun hS0 => ?_)
          refine takeL 1 (v := ?_) rfl (by kernel_rfl) (by kernel_rfl) (by kernel_rfl) (fun _ _ _ h => h) (by rfl) ?_ (by assumption) ?_
          rotate_left
          · (intro w hSw; (try dsimp only at hSw); go_simp; try with_reducible rfl)
          try simp only [Act.put, List.setIfInBounds_toArray, List.set_cons_zero, List.set_cons_succ]
          refine takeL 2 (v := ?_) rfl (by kernel_rfl) (by kernel_rfl) (by kernel_rfl) (fun _ _ _ h => h) (by rfl) ?_ (by assumption) ?_
          rotate_left
          · (intro w hSw; (try dsimp only at hSw); go_simp; try with_reducible rfl)
          try simp only [Act.put, List.setIfInBounds_toArray, List.set_cons_zero, List.set_cons_succ]
          refine takeL 3 (v := ?_) rfl (by kernel_rfl) (by kernel_rfl) (by kernel_rfl) (fun _ _ _ h => h) (by rfl) ?_ (by assumption) ?_
          rotate_left
          · (intro w hSw; (try dsimp only at hSw); go_simp; try with_reducible rfl)
          try simp only [Act.put, List.setIfInBounds_toArray, List.set_cons_zero, List.set_cons_succ]
          refine wpAnyH_ready (rs := [0, 4]) (by kernel_rfl) (by simp) ?_
          refine consL 0 rfl (by rfl) (fun K hK => ?_) ?_
          · go_simp
            refine hK.out _ _ trivial (fun hS1 => ?_)
            clear hK K hS1
            refine wpAnyH_ready (rs := [4]) (by kernel_rfl) (by simp) ?_
            refine consL 4 rfl (by rfl) (fun K hK => ?_) ?_
            · go_simp
              go_wp2_with (first | (go_at_call 103 ; refine (var9_any _ _).mono ?_; rintro e w3 ⟨rfl, h3⟩; have HB3 : Hid (Below wr.drew.heap.size wr.drew w3) := Lib.hid (h3 ▸ below_new _ _); clear h3))
              refine hK.out _ _ trivial (fun hS1 => ?_)
              clear hK K hS1
              have HB3b : Hid (Below wr.heap.size wr w3) := Lib.hid (Below.one HB3.out)
              obtain ⟨q0, q1, q2, q3⟩ := (HX.out.keep HB3b.out).c4
              refine callL 5 rfl (by kernel_rfl) (by rfl) (fun K hK => ?_)
              go_simp
              go_wp2_with (first | (go_at_call 102 ; refine (put_any (m := (-1000000 - (j : Int))) (v := (j : Int)) 1048576 (sch2 j (sch1 V k t)) _ nx capx ax w3 HZS.out HNA.out (Nat.le_refl _) (MemW.keep HMW.out HB3b.out) (Nat.le_refl _)).mono ?_; rintro e w4 ⟨a4, n4, cap4, rfl, hb, hm⟩; have HB4 := Lib.hid hb; have HM4 := Lib.hid hm; have HB4b : Hid (Below wr.heap.size wr w4) := Lib.hid (HB3b.out.trans (hb.mono HB3b.out.size)); have HX4 := Lib.hid (HX.out.keep HB4b.out); have hwr : Wr w4 w.heap.size 52 4 := HX4.out.wr; clear hb hm))
              refine hK.out _ _ trivial (fun hS1 => ?_)
              clear hK K hS1
              refine callL 6 rfl (by kernel_rfl) (by rfl) (fun K hK => ?_)
              go_simp
              refine hK.out _ _ trivial (fun hS1 => ?_)
              clear hK K hS1
              refine wpAnyH_done (by kernel_rfl) ?_ _
              go_wp2
              go_roundw
              case rel =>
                have hwz := HB.out.size
                have hz3 := HB3b.out.size
                have hz4 := HB4b.out.size
                have hzz := HZ.out.lt
                refine ⟨j + 1, by omega, by go_num, a4, n4, cap4, below_setRow (HB.out.trans (HB4b.out.mono hwz)) (Nat.le_refl _) _, by rw [HST.out]; exact HX4.out.row _, (HZ.out.keep HB4b.out).rowFar _ (by omega), ?_, ?_, HNA2.out, HZS2.out⟩
                · rw [HST.out]; exact (HM4.out.row w.heap.size _ (fun h => by rcases h.1 with h | h <;> omega)).mono (fun b hb => ⟨.inr (by rcases hb.1 with h | h <;> omega), by rw [size_setRow]; exact hb.2⟩) fun _ _ => rfl
                · exact (HVm.out.mono (S' := Nw 0 (w.heap.size + 2) w4.heap.size) (fun b hb => ⟨hb.1, Nat.lt_of_lt_of_le hb.2 hz4⟩) (fun b hb => HB4b.out.block b hb.2)).row w.heap.size _ (fun h => by rcases h.1 with h | h <;> omega) |>.mono (fun b hb => ⟨hb.1, by rw [size_setRow]; exact hb.2⟩) fun _ _ => rfl
              case measure => simp [intOf]; omega
            exact AllReadyH.nil
          refine consL 4 rfl (by rfl) (fun K hK => ?_) ?_
          · go_simp
            go_wp2_with (first | (go_at_call 103 ; refine (var9_any _ _).mono ?_; rintro e w3 ⟨rfl, h3⟩; have HB3 : Hid (Below wr.drew.heap.size wr.drew w3) := Lib.hid (h3 ▸ below_new _ _); clear h3))
            refine hK.out _ _ trivial (fun hS1 => ?_)
            clear hK K hS1
            have HB3b : Hid (Below wr.heap.size wr w3) := Lib.hid (Below.one HB3.out)
            obtain ⟨q0, q1, q2, q3⟩ := (HX.out.keep HB3b.out).c4
            refine wpAnyH_ready (rs := [0]) (by kernel_rfl) (by simp) ?_
            refine consL 0 rfl (by rfl) (fun K hK => ?_) ?_
            · go_simp
              refine hK.out _ _ trivial (fun hS1 => ?_)
              clear hK K hS1
              refine callL 5 rfl (by kernel_rfl) (by rfl) (fun K hK => ?_)
              go_simp
              go_wp2_with (first | (go_at_call 102 ; refine (put_any (m := (-1000000 - (j : Int))) (v := (j : Int)) 1048576 (sch2 j (sch1 V k t)) _ nx capx ax w3 HZS.out HNA.out (Nat.le_refl _) (MemW.keep HMW.out HB3b.out) (Nat.le_refl _)).mono ?_; rintro e w4 ⟨a4, n4, cap4, rfl, hb, hm⟩; have HB4 := Lib.hid hb; have HM4 := Lib.hid hm; have HB4b : Hid (Below wr.heap.size wr w4) := Lib.hid (HB3b.out.trans (hb.mono HB3b.out.size)); have HX4 := Lib.hid (HX.out.keep HB4b.out); have hwr : Wr w4 w.heap.size 52 4 := HX4.out.wr; clear hb hm))
              refine hK.out _ _ trivial (fun hS1 => ?_)
              clear hK K hS1
              refine callL 6 rfl (by kernel_rfl) (by rfl) (fun K hK => ?_)
              go_simp
              refine hK.out _ _ trivial (fun hS1 => ?_)
              clear hK K hS1
              refine wpAnyH_done (by kernel_rfl) ?_ _
              go_wp2
              go_roundw
              case rel =>
                have hwz := HB.out.size
                have hz3 := HB3b.out.size
                have hz4 := HB4b.out.size
                have hzz := HZ.out.lt
                refine ⟨j + 1, by omega, by go_num, a4, n4, cap4, below_setRow (HB.out.trans (HB4b.out.mono hwz)) (Nat.le_refl _) _, by rw [HST.out]; exact HX4.out.row _, (HZ.out.keep HB4b.out).rowFar _ (by omega), ?_, ?_, HNA2.out, HZS2.out⟩
                · rw [HST.out]; exact (HM4.out.row w.heap.size _ (fun h => by rcases h.1 with h | h <;> omega)).mono (fun b hb => ⟨.inr (by rcases hb.1 with h | h <;> omega), by rw [size_setRow]; exact hb.2⟩) fun _ _ => rfl
                · exact (HVm.out.mono (S' := Nw 0 (w.heap.size + 2) w4.heap.size) (fun b hb => ⟨hb.1, Nat.lt_of_lt_of_le hb.2 hz4⟩) (fun b hb => HB4b.out.block b hb.2)).row w.heap.size _ (fun h => by rcases h.1 with h | h <;> omega) |>.mono (fun b hb => ⟨hb.1, by rw [size_setRow]; exact hb.2⟩) fun _ _ => rfl
              case measure => simp [intOf]; omega
            exact AllReadyH.nil
          exact AllReadyH.nil
        · have hjk : j = k := by omega
          subst hjk
          have hwr : Wr wr (w.heap.size + 1) 52 4 := HZ.out.wr
          have hzz := HZ.out.lt
          go_wp2
          have HR := Lib.hid (HZ.out.row #[.int .i64 (sch2 j (sch1 V j t)).kind, .string (sch2 j (sch1 V j t)).name, .int .i64 (sch2 j (sch1 V j t)).n, .slice ax nx capx]).c4
          refine bodyPost_ret (v := .tuple #[.agg #[.int .i64 (sch2 j (sch1 V j t)).kind, .string (sch2 j (sch1 V j t)).name, .int .i64 (sch2 j (sch1 V j t)).n, .slice ax nx capx], .int .i64 j]) (by simp [results, Try.results59, go_sem, HR.out]) rfl ?_
          refine ⟨ax, nx, capx, rfl, below_setRow HB.out (by omega) _, ?_⟩
          exact (HM.out.row (w.heap.size + 1) _ (fun h => by rcases h.1 with h | h <;> omega)).mono (fun b hb => by rw [size_setRow]; exact hb.2) fun _ _ => rfl
end Go.Proofs.Ytemkpecagflafaa
