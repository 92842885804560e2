/-
  ty.replaced with Scheme's function: a type, its variables numbered anew. No condition but how it lies, and how great it is.
-/
import Derived.Test.YtemkpecagflafaaFun
import Derived.Test.YtemkpecagflafaaAwake11
import Derived.Test.YtemkpecagflafaaIndexI
namespace Go.Proofs.Ytemkpecagflafaa
open Go.RowKit
attribute [local go_sem ↓] store_type
attribute [local go_sem] stOk_type
attribute [local go_sem] stB_eq stC_eq wr_drew wr_alloc wr_row

theorem OwnD.cellAt {B base : Nat} {e : TypeId} {sz : Nat} {w : World} {y : Value} {rs : List (List At)} (h : OwnD B base e sz w y rs) (g j : Nat) (v : Value) (h1 : g < base) (h2 : B ≤ g) : OwnD B base e sz (w.setCell ⟨g, j, none⟩ v) y rs := by
  have hs : (w.setCell ⟨g, j, none⟩ v).heap.size = w.heap.size := by simp [World.setCell]
  obtain ⟨css, ho, hm⟩ := h
  refine ⟨css, ⟨ho.1, ?_⟩, hm.imp fun r cs' ⟨hc, hm⟩ => ⟨hc, hm.imp fun x y' hx => hx.mono (fun b ⟨⟨h1, h3⟩, h2⟩ => ⟨⟨h1, by rw [hs]; exact h3⟩, h2⟩) fun b ⟨⟨h3, _⟩, _⟩ => heap_setCell_other w ⟨g, j, none⟩ b v (by show b ≠ g; rcases h3 with h3 | h3 <;> omega)⟩⟩
  rcases ho.2 with hn | ⟨g', cap, cur, rfl, hb, hgg, rest⟩
  · exact .inl hn
  · exact .inr ⟨g', cap, cur, rfl, hb, (heap_setCell_other w ⟨g, j, none⟩ g' v (by show g' ≠ g; omega)).trans hgg, rest⟩
mutual
/-- A type, with other numbers for its variables. -/
def numT (f : Int → Int) : Tm → Tm
  | .mk k s n ts => if k = 1 then .mk 1 ⟨#[]⟩ (f n) [] else .mk k s n (numTs f ts)
def numTs (f : Int → Int) : List Tm → List Tm
  | [] => []
  | t :: ts => numT f t :: numTs f ts
end
theorem numT_var (f : Int → Int) {t : Tm} (h : t.kind = 1) : numT f t = .mk 1 ⟨#[]⟩ (f t.n) [] := by cases t; rw [numT]; exact if_pos h
theorem numT_not (f : Int → Int) {t : Tm} (h : ¬ t.kind = 1) : numT f t = .mk t.kind t.name t.n (numTs f t.args) := by cases t; rw [numT]; exact if_neg h
theorem numTs_eq (f : Int → Int) (ts : List Tm) : numTs f ts = ts.map (numT f) := by
  induction ts with
  | nil => rw [numTs]; rfl
  | cons t ts ih => rw [numTs, ih]; rfl

set_option maxRecDepth 100000 in
set_option maxHeartbeats 2000000 in
theorem scheme1_any {V : List Int} {t : Tm} {n cap nv cv q : Nat} {a av : Option Addr} {w : World} (h1 : w.cell? ⟨q, 0, none⟩ = some (.slice av nv cv)) (hV : MemW w (.s 1 (intRows V)) (.slice av nv cv)) :
    Calls Try.prog 100 #[.agg #[.int .i64 t.kind, .string t.name, .int .i64 t.n, .slice a n cap], .pointer (some ⟨q, 0, none⟩)] w fun e w' => e = .returned (.tuple #[.agg #[.int .i64 1, .string ⟨#[]⟩, .int .i64 (idxI V t.n), .slice none 0 0], .bool true]) ∧ Below w.heap.size w w' := by
  have HI := Lib.hid (fun (w' : World) (h : MemW w' (.s 1 (intRows V)) (.slice av nv cv)) => index_int_any t.n w' h)
  have HV := Lib.hid hV
  have HW1 := Lib.hid (((below_new w (.cells #[.int .i64 t.kind, .string t.name, .int .i64 t.n, .slice a n cap] 52)).alloc (by simp) (.cells #[.int .i64 0, .string ⟨#[]⟩, .int .i64 0, .slice none 0 0] 52)))
  have c1 := cell_below h1 HW1.out
  have q1l := World.block_lt_of_cell? w _ h1
  have HY := Lib.hid (World.size_alloc w (.cells #[.int .i64 t.kind, .string t.name, .int .i64 t.n, .slice a n cap] 52) ▸ Bo.new (w.alloc (.cells #[.int .i64 t.kind, .string t.name, .int .i64 t.n, .slice a n cap] 52)) 52 #[.int .i64 0, .string ⟨#[]⟩, .int .i64 0, .slice none 0 0])
  clear h1 hV
  generalize idxI V t.n = i at *
  go_enter Try.func100, Try.ntmps100
  go_wp2_with (first
    | (go_at_call 101 ; refine (HI.out _ (MemW.keep HV.out HW1.out)).mono ?_; rintro e w2 ⟨rfl, rfl⟩)
    | (go_at_call 88
       refine (var_any _ _).mono ?_
       rintro e w3 ⟨rfl, h3⟩
       have HB3 : Hid (Below _ _ w3) := Lib.hid (h3 ▸ below_new _ _)
       have HY3 := Lib.hid (HY.out.keep HB3.out)
       have hwr : Wr w3 (w.heap.size + 1) 52 4 := HY3.out.wr
       have hz3 := HY3.out.lt
       clear h3))
  have HR := Lib.hid (HY3.out.row #[.int .i64 1, .string ⟨#[]⟩, .int .i64 i, .slice none 0 0]).c4
  exact bodyPost_ret (v := .tuple #[.agg #[.int .i64 1, .string ⟨#[]⟩, .int .i64 i, .slice none 0 0], .bool true]) (by simp [results, Try.results100, go_sem, HR.out]) rfl ⟨rfl, below_setRow (HW1.out.trans (HB3.out.mono HW1.out.size)) (by omega) _⟩

set_option maxRecDepth 100000 in
set_option maxHeartbeats 2000000 in
theorem replacedS_any {V : List Int} (m : Nat) : ∀ (t : Tm) (B q n cap nv cv : Nat) (a av : Option Addr) (w : World), t.size ≤ m → m ≤ 1048576 → w.cell? ⟨q, 0, none⟩ = some (.slice av nv cv) → MemW w (.s 1 (intRows V)) (.slice av nv cv) → Mem (· < B) w (.s 4 (Tm.rows t.args)) (.slice a n cap) → B ≤ w.heap.size →
    Calls Try.prog 89 #[.agg #[.int .i64 t.kind, .string t.name, .int .i64 t.n, .slice a n cap], .func (.func 100) #[] #[.pointer (some ⟨q, 0, none⟩)]] w (GivesT B (numT (idxI V) t) w) := by
  induction m with
  | zero => intro t _ _ _ _ _ _ _ _ w h; have := t.size_pos; omega
  | succ m ih =>
    intro t B q n cap nv cv a av w hm hmm hq hV ht hB
    have IH := Lib.hid ih
    clear ih
    have HW1 := Lib.hid (((below_new w (.cells #[.int .i64 t.kind, .string t.name, .int .i64 t.n, .slice a n cap] 52)).alloc (by simp) (.cells #[.int .i64 0, .string ⟨#[]⟩, .int .i64 0, .slice none 0 0] 52)))
    have HX := Lib.hid ((Bo.new w 52 #[.int .i64 t.kind, .string t.name, .int .i64 t.n, .slice a n cap]).alloc (.cells #[.int .i64 0, .string ⟨#[]⟩, .int .i64 0, .slice none 0 0] 52))
    have HY := Lib.hid (World.size_alloc w (.cells #[.int .i64 t.kind, .string t.name, .int .i64 t.n, .slice a n cap] 52) ▸ Bo.new (w.alloc (.cells #[.int .i64 t.kind, .string t.name, .int .i64 t.n, .slice a n cap] 52)) 52 #[.int .i64 0, .string ⟨#[]⟩, .int .i64 0, .slice none 0 0])
    have HQ := Lib.hid hq
    have HV := Lib.hid hV
    have HT := Lib.hid ht
    have H0 := Lib.hid hB
    by_cases hk : t.kind = 1
    · have HC := Lib.hid (scheme1_any (t := t) (n := n) (cap := cap) (a := a) (cell_below hq HW1.out) (MemW.keep hV HW1.out))
      have e1 : (t.kind == 1) = true := by rw [beq_iff_eq]; exact hk
      have HF := Lib.hid (numT_var (idxI V) hk)
      clear hq hV ht hB hm hmm hk
      generalize idxI V t.n = i at *
      go_enter Try.func89, Try.ntmps89
      go_wp2_with (first | (go_at_call 100 ; refine HC.out.mono ?_; rintro e w2 ⟨rfl, hb⟩; have HB2 := Lib.hid hb; clear hb; have HY2 := Lib.hid (HY.out.keep HB2.out); have hwr : Wr w2 (w.heap.size + 1) 52 4 := HY2.out.wr; have hz2 := HY2.out.lt))
      have HR := Lib.hid (fun (o : Obj) => ((HY2.out.alloc o).row #[.int .i64 1, .string ⟨#[]⟩, .int .i64 i, .slice none 0 0]).c4)
      refine bodyPost_ret (v := .agg #[.int .i64 1, .string ⟨#[]⟩, .int .i64 i, .slice none 0 0]) (by simp [results, Try.results89, go_sem, HR.out]) rfl ?_
      rw [HF.out]
      exact ⟨none, 0, 0, rfl, below_setRow ((HW1.out.trans (HB2.out.mono HW1.out.size)).alloc (Nat.le_trans HW1.out.size HB2.out.size) _) (by omega) _, by show Mem _ _ (.s 4 (Tm.rows [])) _; rw [Tm.rows]; exact .e _ _ _ (by decide)⟩
    · have e1 : (t.kind == 1) = false := by rw [beq_eq_false_iff_ne]; exact hk
      have HF := Lib.hid (numT_not (idxI V) hk)
      have hl := ht.len
      rw [Tm.rows_len] at hl
      have hln := Lib.hid hl.1
      have hcap := hl.2.1
      have hmx := hl.2.2
      have HA := Lib.hid (show ∀ x ∈ t.args, x.size ≤ m from fun x hx => by have := Tm.size_arg hx; omega)
      have HM := Lib.hid (show t.size ≤ 1048576 by omega)
      have HMM := Lib.hid (show m ≤ 1048576 by omega)
      clear hq hV ht hB hm hmm hk hl
      go_enter Try.func89, Try.ntmps89
      go_wp2
      go_loopw [7, 25] (fun v i wr => ∃ k : Nat, k ≤ n ∧ i = .int .i64 k ∧ Hid (Below w.heap.size w wr) ∧ Hid (Bo wr w.heap.size 52 #[.int .i64 t.kind, .string t.name, .int .i64 t.n, .slice a n cap]) ∧ Hid (Bo wr (w.heap.size + 1) 52 #[.int .i64 0, .string ⟨#[]⟩, .int .i64 0, .slice none 0 0]) ∧ Hid (OwnD B (w.heap.size + 2) 52 4 wr v (Tm.rows (numTs (idxI V) (t.args.take k))))) (fun _ i _ => n - (intOf i).toNat)
      case atStart => exact ⟨0, Nat.zero_le _, rfl, HW1.out, HX.out, HY.out, by rw [List.take_zero, numTs, Tm.rows]; exact OwnD.nil _ _ _ _ _⟩
      case round =>
        obtain ⟨k, hk, rfl, HB, HX1, HY1, HO⟩ := hrel
        have hz1 := HY1.out.lt
        by_cases hlt : k < n
        · obtain ⟨b, o, x, ax, nx, capx, rfl, hbB, Hx, x0, x1, x2, x3, GX⟩ := tm_at (HT.out.keep (Nat.le_refl _) (HB.out.mono H0.out)) k hlt
          have GA := Lib.hid (HA.out x (mem_of_at Hx.out))
          have HW := Lib.hid (show B ≤ wr.heap.size from Nat.le_trans H0.out HB.out.size)
          have HN := Lib.hid (show numTs (idxI V) (t.args.take (k + 1)) = numTs (idxI V) (t.args.take k) ++ [numT (idxI V) x] by rw [take_at Hx.out, numTs_eq, numTs_eq, List.map_append]; rfl)
          have HL := Lib.hid (show ((Tm.rows (numTs (idxI V) (t.args.take k))).length + 1) * 56 ≤ 140737488355328 ∧ (Tm.rows (numTs (idxI V) (t.args.take k))).length + 1 ≤ 4611686018427387904 by
            have h1 := HM.out
            rw [Tm.size_eq] at h1
            have h2 := Tm.len_args t.args
            rw [Tm.rows_len, numTs_eq, List.length_map, List.length_take]; omega)
          go_wp2_with (first
            | (go_at_call 89
               refine (IH.out x B q _ _ nv cv _ av _ GA.out HMM.out (cell_below HQ.out (Below.toA HB.out (Below.refl _ _))) (MemW.keep HV.out (Below.toA HB.out (Below.refl _ _))) (GX.out.keep (Nat.le_refl _) ((below_new wr _).mono HW.out)) (by have := HW.out; rw [World.size_alloc]; omega)).mono ?_
               rintro e w2 ⟨a2, n2, cap2, rfl, hb, hm⟩
               have HB2 := Lib.hid hb; clear hb
               have HM2 := Lib.hid hm; clear hm
               have HO2 := Lib.hid ((HO.out.alloc _).keep HB2.out))
            | (at_builtin
               refine wpList_append_D rfl _ _ rfl Try.underlying50 info_type rfl (by decide) rfl rfl (HO2.out.alloc _) (own_one (numT (idxI V) x) HO2.out (by have := HB2.out.size; rw [World.size_alloc] at this; omega) ((HO.out.alloc _).apart (by have := H0.out; omega) (by rw [World.size_alloc]; omega) HM2.out)) HL.out.1 HL.out.2 (by have := HB2.out.size; rw [World.size_alloc] at this; rw [World.size_alloc]; omega) ?_
               intro v' w3 ho hg
               have HO3 := Lib.hid ho; clear ho
               have HG3 := Lib.hid hg; clear hg))
          go_roundw
          case rel =>
            have hbw := Below.toA HB.out HB2.out
            refine ⟨k + 1, by omega, by go_num, grown_below (hbw.alloc hbw.size _) HG3.out (Nat.le_refl _) (fun b hb => by have := (HO2.out.lt b hb).1; omega), ((HX1.out.alloc _).keep HB2.out |>.alloc _).grown HG3.out (fun b hb => by have := (HO2.out.lt b hb).1; omega), ((HY1.out.alloc _).keep HB2.out |>.alloc _).grown HG3.out (fun b hb => by have := (HO2.out.lt b hb).1; omega), ?_⟩
            rw [HN.out, Tm.rows_app]; exact HO3.out
          case measure => simp [intOf]; omega
        · have hk' : t.args.take k = t.args := List.take_of_length_le (by rw [hln.out]; omega)
          rw [hk'] at HO
          clear hk'
          obtain ⟨a', cap', hv, _, _⟩ := HO.out.form
          subst hv
          have HX2 : Hid (Bo (wr.setCell ⟨w.heap.size, 3, none⟩ (.slice a' (Tm.rows (numTs (idxI V) t.args)).length cap')) w.heap.size 52 #[.int .i64 t.kind, .string t.name, .int .i64 t.n, .slice a' (Tm.rows (numTs (idxI V) t.args)).length cap']) := Lib.hid (HX1.out.set 3 _)
          have HY2 : Hid (Bo (wr.setCell ⟨w.heap.size, 3, none⟩ (.slice a' (Tm.rows (numTs (idxI V) t.args)).length cap')) (w.heap.size + 1) 52 #[.int .i64 0, .string ⟨#[]⟩, .int .i64 0, .slice none 0 0]) := Lib.hid (HY1.out.far 3 _ (by omega))
          have HO2 := Lib.hid (HO.out.cellAt w.heap.size 3 (.slice a' (Tm.rows (numTs (idxI V) t.args)).length cap') (by omega) H0.out)
          obtain ⟨g0, g1, g2, g3⟩ := HX1.out.c4
          obtain ⟨p0, p1, p2, p3⟩ := HX2.out.c4
          have f3 := HX1.out.frozen 3
          have hwr : Wr (wr.setCell ⟨w.heap.size, 3, none⟩ (.slice a' (Tm.rows (numTs (idxI V) t.args)).length cap')) (w.heap.size + 1) 52 4 := HY2.out.wr
          clear g0 g1 g2
          go_wp2
          have HR := Lib.hid (HY2.out.row #[.int .i64 t.kind, .string t.name, .int .i64 t.n, .slice a' (Tm.rows (numTs (idxI V) t.args)).length cap']).c4
          refine bodyPost_ret (v := .agg #[.int .i64 t.kind, .string t.name, .int .i64 t.n, .slice a' (Tm.rows (numTs (idxI V) t.args)).length cap']) (by simp [results, Try.results89, go_sem, HR.out]) rfl ?_
          rw [HF.out]
          refine ⟨a', _, cap', rfl, below_setRow (HB.out.setCell (p := ⟨w.heap.size, 3, none⟩) (Nat.le_refl _) _) (by omega) _, ?_⟩
          exact ((HO2.out.row (w.heap.size + 1) #[.int .i64 t.kind, .string t.name, .int .i64 t.n, .slice a' (Tm.rows (numTs (idxI V) t.args)).length cap'] (by omega) (by have := H0.out; omega)).mem).mono (fun b hb => ⟨hb.1.imp id fun h => by omega, hb.2⟩) fun _ _ => rfl
end Go.Proofs.Ytemkpecagflafaa
