/-
  The reference's put: a type, with another variable for a variable. No condition but how it lies, and how great it is.
-/
import Derived.Test.YtemkpecagflafaaHeld
import Derived.Test.YtemkpecagflafaaReplaced
namespace Go.Proofs.Ytemkpecagflafaa
open Go.RowKit
attribute [local go_sem ↓] store_type
attribute [local go_sem] stOk_type
attribute [local go_sem] stB_eq stC_eq wr_drew wr_alloc wr_row

mutual
/-- A type, with a variable v for a variable m. -/
def putT (m v : Int) : Tm → Tm
  | .mk k s n ts => if k = 1 then (if n = m then .mk 1 ⟨#[]⟩ v [] else .mk k s n ts) else .mk k s n (putTs m v ts)
def putTs (m v : Int) : List Tm → List Tm
  | [] => []
  | t :: ts => putT m v t :: putTs m v ts
end
theorem putT_hit {m v : Int} {t : Tm} (h : t.kind = 1) (h2 : t.n = m) : putT m v t = .mk 1 ⟨#[]⟩ v [] := by cases t; rw [putT]; exact (if_pos h).trans (if_pos h2)
theorem putT_miss {m v : Int} {t : Tm} (h : t.kind = 1) (h2 : ¬ t.n = m) : putT m v t = t := by cases t; rw [putT]; exact (if_pos h).trans (if_neg h2)
theorem putT_not {m v : Int} {t : Tm} (h : ¬ t.kind = 1) : putT m v t = .mk t.kind t.name t.n (putTs m v t.args) := by cases t; rw [putT]; exact if_neg h
theorem putTs_eq (m v : Int) (ts : List Tm) : putTs m v ts = ts.map (putT m v) := by
  induction ts with
  | nil => rw [putTs]; rfl
  | cons t ts ih => rw [putTs, ih]; rfl

/-- Its variables have no arguments. -/
def NA (t : Tm) : Prop := ∀ x ∈ t.all, x.kind = 1 → x.args = []
theorem NA.arg {x t : Tm} (h : NA t) (hx : x ∈ t.args) : NA x := fun y hy => h y (Tm.args_all x hx y hy)
theorem NA.self {t : Tm} (h : NA t) (hk : t.kind = 1) : t.args = [] := h t (Tm.mem_all t) hk
theorem alls_map_len (g : Tm → Tm) : ∀ (ts : List Tm), (∀ t ∈ ts, (g t).size = t.size) → (Tm.alls (ts.map g)).length = (Tm.alls ts).length
  | [], _ => rfl
  | t :: ts, h => by
    rw [List.map_cons, Tm.alls, Tm.alls, List.length_append, List.length_append, alls_map_len g ts fun t ht => h t (List.mem_cons_of_mem _ ht)]
    have e1 : (g t).all.length = (g t).size := rfl
    have e2 : t.all.length = t.size := rfl
    rw [e1, e2, h t (List.mem_cons_self ..)]
theorem putT_size_of (m v : Int) (z : Nat) : ∀ t, t.size ≤ z → NA t → (putT m v t).size = t.size := by
  induction z with
  | zero => intro t h; have := t.size_pos; omega
  | succ z ih =>
    intro t h hn
    by_cases hk : t.kind = 1
    · by_cases h2 : t.n = m
      · rw [putT_hit hk h2, Tm.size_eq, Tm.size_eq t, hn.self hk]; rfl
      · rw [putT_miss hk h2]
    · rw [putT_not hk, Tm.size_eq, Tm.size_eq t]
      show 1 + (Tm.alls (putTs m v t.args)).length = _
      rw [putTs_eq, alls_map_len _ _ fun x hx => ih x (by have := Tm.size_arg hx; omega) (hn.arg hx)]
theorem putT_size {m v : Int} {t : Tm} (h : NA t) : (putT m v t).size = t.size := putT_size_of m v t.size t (Nat.le_refl _) h
theorem putT_na_of (m v : Int) (z : Nat) : ∀ t, t.size ≤ z → NA t → NA (putT m v t) := by
  induction z with
  | zero => intro t h; have := t.size_pos; omega
  | succ z ih =>
    intro t h hn
    by_cases hk : t.kind = 1
    · by_cases h2 : t.n = m
      · rw [putT_hit hk h2]
        intro x hx hx1
        rw [Tm.all_eq] at hx
        have : x = .mk 1 ⟨#[]⟩ v [] := by simpa [Tm.args, Tm.alls] using hx
        rw [this]; rfl
      · rw [putT_miss hk h2]; exact hn
    · rw [putT_not hk]
      intro x hx hx1
      rw [Tm.all_eq] at hx
      rcases List.mem_cons.1 hx with rfl | hx
      · exact absurd hx1 hk
      · have hx' : x ∈ Tm.alls (putTs m v t.args) := hx
        rw [putTs_eq, Tm.alls_eq, List.mem_flatMap] at hx'
        obtain ⟨y, hy, hxy⟩ := hx'
        obtain ⟨u, hu, rfl⟩ := List.mem_map.1 hy
        exact ih u (by have := Tm.size_arg hu; omega) (hn.arg hu) x hxy hx1
theorem putT_na {m v : Int} {t : Tm} (h : NA t) : NA (putT m v t) := putT_na_of m v t.size t (Nat.le_refl _) h

set_option maxRecDepth 100000 in
set_option maxHeartbeats 2000000 in
theorem put_any {m v : Int} (z : Nat) : ∀ (t : Tm) (B n cap : Nat) (a : Option Addr) (w : World), t.size ≤ z → NA t → z ≤ 1048576 → Mem (· < B) w (.s 4 (Tm.rows t.args)) (.slice a n cap) → B ≤ w.heap.size →
    Calls Try.prog 102 #[.agg #[.int .i64 t.kind, .string t.name, .int .i64 t.n, .slice a n cap], .int .i64 m, .agg #[.int .i64 1, .string ⟨#[]⟩, .int .i64 v, .slice none 0 0]] w (GivesT 0 (putT m v t) w) := by
  induction z with
  | zero => intro t _ _ _ _ w h; have := t.size_pos; omega
  | succ z ih =>
    intro t B n cap a w hm hna hmm ht hB
    have IH := Lib.hid ih
    clear ih
    have HW1 : Hid (Below w.heap.size w (((w.alloc (.cells #[.int .i64 t.kind, .string t.name, .int .i64 t.n, .slice a n cap] 52)).alloc (.cells #[.int .i64 1, .string ⟨#[]⟩, .int .i64 v, .slice none 0 0] 52)).alloc (.cells #[.int .i64 0, .string ⟨#[]⟩, .int .i64 0, .slice none 0 0] 52))) := Lib.hid (((below_new w _).alloc (by simp) _).alloc (by simp; omega) _)
    have HX : Hid (Bo (((w.alloc (.cells #[.int .i64 t.kind, .string t.name, .int .i64 t.n, .slice a n cap] 52)).alloc (.cells #[.int .i64 1, .string ⟨#[]⟩, .int .i64 v, .slice none 0 0] 52)).alloc (.cells #[.int .i64 0, .string ⟨#[]⟩, .int .i64 0, .slice none 0 0] 52)) w.heap.size 52 #[.int .i64 t.kind, .string t.name, .int .i64 t.n, .slice a n cap]) := Lib.hid (((Bo.new w _ _).alloc _).alloc _)
    have HY : Hid (Bo (((w.alloc (.cells #[.int .i64 t.kind, .string t.name, .int .i64 t.n, .slice a n cap] 52)).alloc (.cells #[.int .i64 1, .string ⟨#[]⟩, .int .i64 v, .slice none 0 0] 52)).alloc (.cells #[.int .i64 0, .string ⟨#[]⟩, .int .i64 0, .slice none 0 0] 52)) (w.heap.size + 1) 52 #[.int .i64 1, .string ⟨#[]⟩, .int .i64 v, .slice none 0 0]) := Lib.hid ((World.size_alloc w (.cells #[.int .i64 t.kind, .string t.name, .int .i64 t.n, .slice a n cap] 52) ▸ Bo.new (w.alloc (.cells #[.int .i64 t.kind, .string t.name, .int .i64 t.n, .slice a n cap] 52)) 52 #[.int .i64 1, .string ⟨#[]⟩, .int .i64 v, .slice none 0 0] : Bo _ (w.heap.size + 1) _ _).alloc _)
    have HZ : Hid (Bo (((w.alloc (.cells #[.int .i64 t.kind, .string t.name, .int .i64 t.n, .slice a n cap] 52)).alloc (.cells #[.int .i64 1, .string ⟨#[]⟩, .int .i64 v, .slice none 0 0] 52)).alloc (.cells #[.int .i64 0, .string ⟨#[]⟩, .int .i64 0, .slice none 0 0] 52)) (w.heap.size + 1 + 1) 52 #[.int .i64 0, .string ⟨#[]⟩, .int .i64 0, .slice none 0 0]) := Lib.hid (by
      have := Bo.new ((w.alloc (.cells #[.int .i64 t.kind, .string t.name, .int .i64 t.n, .slice a n cap] 52)).alloc (.cells #[.int .i64 1, .string ⟨#[]⟩, .int .i64 v, .slice none 0 0] 52)) 52 #[.int .i64 0, .string ⟨#[]⟩, .int .i64 0, .slice none 0 0]
      rw [World.size_alloc, World.size_alloc] at this
      exact this)
    have HT := Lib.hid ht
    have H0 := Lib.hid hB
    have hl := ht.len
    rw [Tm.rows_len] at hl
    by_cases hk : t.kind = 1
    · have e1 : (t.kind == 1) = true := by rw [beq_iff_eq]; exact hk
      by_cases hn : t.n = m
      · have e2 : (t.n == m) = true := by rw [beq_iff_eq]; exact hn
        have HF := Lib.hid (putT_hit (v := v) hk hn)
        clear ht hB hm hmm hk hn hl hna
        go_enter Try.func102, Try.ntmps102
        go_wp2
        refine bodyPost_ret (v := .agg #[.int .i64 1, .string ⟨#[]⟩, .int .i64 v, .slice none 0 0]) (by simp [results, Try.results102, go_sem]) rfl ?_
        rw [HF.out]
        exact ⟨none, 0, 0, rfl, ((below_new w _).alloc (by simp) _).alloc (by simp; omega) _, by show Mem _ _ (.s 4 (Tm.rows [])) _; rw [Tm.rows]; exact .e _ _ _ (by decide)⟩
      · have e2 : (t.n == m) = false := by rw [beq_eq_false_iff_ne]; exact hn
        have HF := Lib.hid (putT_miss (m := m) (v := v) hk hn)
        have HNA := Lib.hid (hna.self hk)
        clear ht hB hm hmm hk hn hl hna
        go_enter Try.func102, Try.ntmps102
        go_wp2
        refine bodyPost_ret (v := .agg #[.int .i64 t.kind, .string t.name, .int .i64 t.n, .slice a n cap]) (by simp [results, Try.results102, go_sem]) rfl ?_
        rw [HF.out]
        have hb : Below w.heap.size w (((w.alloc (.cells #[.int .i64 t.kind, .string t.name, .int .i64 t.n, .slice a n cap] 52)).alloc (.cells #[.int .i64 1, .string ⟨#[]⟩, .int .i64 v, .slice none 0 0] 52)).alloc (.cells #[.int .i64 t.kind, .string t.name, .int .i64 t.n, .slice a n cap] 52)) := ((below_new w _).alloc (by simp) _).alloc (by simp; omega) _
        exact ⟨a, n, cap, rfl, hb, by have h1 := HT.out; rw [HNA.out, Tm.rows] at h1 ⊢; have h2 := h1.len; obtain rfl : n = 0 := h2.1.symm; exact .e _ _ _ h2.2.2⟩
    · have e1 : (t.kind == 1) = false := by rw [beq_eq_false_iff_ne]; exact hk
      have HF := Lib.hid (putT_not (m := m) (v := v) hk)
      have hln := Lib.hid hl.1
      have hcap := hl.2.1
      have hmx := hl.2.2
      have HNA := Lib.hid (fun x hx => NA.arg (x := x) hna hx)
      have HA := Lib.hid (show ∀ x ∈ t.args, x.size ≤ z from fun x hx => by have := Tm.size_arg hx; omega)
      have HM := Lib.hid (show t.size ≤ 1048576 by omega)
      have HMM := Lib.hid (show z ≤ 1048576 by omega)
      have HW2 : Hid (Below w.heap.size w ((((w.alloc (.cells #[.int .i64 t.kind, .string t.name, .int .i64 t.n, .slice a n cap] 52)).alloc (.cells #[.int .i64 1, .string ⟨#[]⟩, .int .i64 v, .slice none 0 0] 52)).alloc (.cells #[.int .i64 0, .string ⟨#[]⟩, .int .i64 0, .slice none 0 0] 52)).alloc (.cells #[.int .i64 t.kind, .string t.name, .int .i64 t.n, .slice none 0 0] 52))) := Lib.hid (HW1.out.alloc HW1.out.size _)
      have HN : Hid (Bo ((((w.alloc (.cells #[.int .i64 t.kind, .string t.name, .int .i64 t.n, .slice a n cap] 52)).alloc (.cells #[.int .i64 1, .string ⟨#[]⟩, .int .i64 v, .slice none 0 0] 52)).alloc (.cells #[.int .i64 0, .string ⟨#[]⟩, .int .i64 0, .slice none 0 0] 52)).alloc (.cells #[.int .i64 t.kind, .string t.name, .int .i64 t.n, .slice none 0 0] 52)) (w.heap.size + 1 + 1 + 1) 52 #[.int .i64 t.kind, .string t.name, .int .i64 t.n, .slice none 0 0]) := Lib.hid (by
        have := Bo.new (((w.alloc (.cells #[.int .i64 t.kind, .string t.name, .int .i64 t.n, .slice a n cap] 52)).alloc (.cells #[.int .i64 1, .string ⟨#[]⟩, .int .i64 v, .slice none 0 0] 52)).alloc (.cells #[.int .i64 0, .string ⟨#[]⟩, .int .i64 0, .slice none 0 0] 52)) 52 #[.int .i64 t.kind, .string t.name, .int .i64 t.n, .slice none 0 0]
        rw [World.size_alloc, World.size_alloc, World.size_alloc] at this
        exact this)
      clear ht hB hm hmm hk hl hna
      go_enter Try.func102, Try.ntmps102
      go_wp2
      go_loopw [29] (fun i wr => ∃ k : Nat, k ≤ n ∧ i = .int .i64 k ∧ Hid (Below w.heap.size w wr) ∧ Hid (Bo wr (w.heap.size + 1) 52 #[.int .i64 1, .string ⟨#[]⟩, .int .i64 v, .slice none 0 0]) ∧ Hid (Bo wr (w.heap.size + 1 + 1) 52 #[.int .i64 0, .string ⟨#[]⟩, .int .i64 0, .slice none 0 0]) ∧ ∃ va vc, Hid (Bo wr (w.heap.size + 1 + 1 + 1) 52 #[.int .i64 t.kind, .string t.name, .int .i64 t.n, .slice va (Tm.rows (putTs m v (t.args.take k))).length vc]) ∧ Hid (OwnD 0 (w.heap.size + 4) 52 4 wr (.slice va (Tm.rows (putTs m v (t.args.take k))).length vc) (Tm.rows (putTs m v (t.args.take k))))) (fun i _ => n - (intOf i).toNat)
      case atStart => exact ⟨0, Nat.zero_le _, rfl, HW2.out, HY.out.alloc _, HZ.out.alloc _, none, 0, by rw [List.take_zero, putTs, Tm.rows]; exact HN.out, by rw [List.take_zero, putTs, Tm.rows]; exact OwnD.nil _ _ _ _ _⟩
      case round =>
        obtain ⟨k, hk, rfl, HB, HY1, HZ1, va, vc, HN0, HO⟩ := hrel
        have hz1 := HN0.out.lt
        by_cases hlt : k < n
        · obtain ⟨b, o, x, ax, nx, capx, rfl, hbB, Hx, x0, x1, x2, x3, GX⟩ := tm_at (HT.out.keep (Nat.le_refl _) (HB.out.mono H0.out)) k hlt
          have GA := Lib.hid (HA.out x (mem_of_at Hx.out))
          have HW := Lib.hid (show B ≤ wr.heap.size from Nat.le_trans H0.out HB.out.size)
          have HPN := Lib.hid (show putTs m v (t.args.take (k + 1)) = putTs m v (t.args.take k) ++ [putT m v x] by rw [take_at Hx.out, putTs_eq, putTs_eq, List.map_append]; rfl)
          have HL := Lib.hid (show ((Tm.rows (putTs m v (t.args.take k))).length + 1) * 56 ≤ 140737488355328 ∧ (Tm.rows (putTs m v (t.args.take k))).length + 1 ≤ 4611686018427387904 by
            have h1 := HM.out
            rw [Tm.size_eq] at h1
            have h2 := Tm.len_args t.args
            rw [Tm.rows_len, putTs_eq, List.length_map, List.length_take]; omega)
          have HN1 := Lib.hid (HN0.out.alloc (.cells #[.int .i64 x.kind, .string x.name, .int .i64 x.n, .slice ax nx capx] 52))
          have HY1a := Lib.hid (HY1.out.alloc (.cells #[.int .i64 x.kind, .string x.name, .int .i64 x.n, .slice ax nx capx] 52))
          have HZ1a := Lib.hid (HZ1.out.alloc (.cells #[.int .i64 x.kind, .string x.name, .int .i64 x.n, .slice ax nx capx] 52))
          have HOa := Lib.hid (HO.out.alloc (.cells #[.int .i64 x.kind, .string x.name, .int .i64 x.n, .slice ax nx capx] 52))
          obtain ⟨p0, p1, p2, p3⟩ := HY1a.out.c4
          obtain ⟨_, _, _, i3⟩ := HN1.out.c4
          obtain ⟨s0, s1, s2, s3⟩ := (Bo.new wr 52 #[.int .i64 x.kind, .string x.name, .int .i64 x.n, .slice ax nx capx]).c4
          have HC := Lib.hid (IH.out x B nx capx ax (wr.alloc (.cells #[.int .i64 x.kind, .string x.name, .int .i64 x.n, .slice ax nx capx] 52)).drew GA.out (HNA.out x (mem_of_at Hx.out)) HMM.out ((GX.out.keep (Nat.le_refl _) ((below_new wr _).mono HW.out)).drew) (by have := HW.out; show B ≤ (wr.alloc (.cells #[.int .i64 x.kind, .string x.name, .int .i64 x.n, .slice ax nx capx] 52)).heap.size; rw [World.size_alloc]; omega))
          go_wp2
          refine wp_region_held_drew (S := fun w' => w'.cell? ⟨wr.heap.size, 0, none⟩ = some (.int .i64 x.kind) ∧ w'.cell? ⟨wr.heap.size, 1, none⟩ = some (.string x.name) ∧ w'.cell? ⟨wr.heap.size, 2, none⟩ = some (.int .i64 x.n) ∧ w'.cell? ⟨wr.heap.size, 3, none⟩ = some (.slice ax nx capx) ∧ w'.cell? ⟨w.heap.size + 1, 0, none⟩ = some (.int .i64 1) ∧ w'.cell? ⟨w.heap.size + 1, 1, none⟩ = some (.string ⟨#[]⟩) ∧ w'.cell? ⟨w.heap.size + 1, 2, none⟩ = some (.int .i64 v) ∧ w'.cell? ⟨w.heap.size + 1, 3, none⟩ = some (.slice none 0 0)) (by kernel_rfl) ⟨cell_drew s0, cell_drew s1, cell_drew s2, cell_drew s3, cell_drew p0, cell_drew p1, cell_drew p2, cell_drew p3⟩ (fun hS0 => ?_)
          refine takeL 0 (v := ?_) rfl (by kernel_rfl) (by kernel_rfl) (by kernel_rfl) (fun _ _ _ h => h) (by rfl) ?_ (by assumption) ?_
          rotate_left
          · (intro w hSw; (try dsimp only at hSw); go_simp; try with_reducible rfl)
          try simp only [Act.put, List.setIfInBounds_toArray, List.set_cons_zero, List.set_cons_succ]
          refine takeL 2 (v := ?_) rfl (by kernel_rfl) (by kernel_rfl) (by kernel_rfl) (fun _ _ _ h => h) (by rfl) ?_ (by assumption) ?_
          rotate_left
          · (intro w hSw; (try dsimp only at hSw); go_simp; try with_reducible rfl)
          try simp only [Act.put, List.setIfInBounds_toArray, List.set_cons_zero, List.set_cons_succ]
          refine takeL 3 (v := ?_) rfl (by kernel_rfl) (by kernel_rfl) (by kernel_rfl) (fun _ _ _ h => h) (by rfl) ?_ (by assumption) ?_
          rotate_left
          · (intro w hSw; (try dsimp only at hSw); go_simp; try with_reducible rfl)
          try simp only [Act.put, List.setIfInBounds_toArray, List.set_cons_zero, List.set_cons_succ]
          refine takeL 4 (v := ?_) rfl (by kernel_rfl) (by kernel_rfl) (by kernel_rfl) (fun _ _ _ h => h) (by rfl) ?_ (by assumption) ?_
          rotate_left
          · (intro w hSw; (try dsimp only at hSw); go_simp; try with_reducible rfl)
          try simp only [Act.put, List.setIfInBounds_toArray, List.set_cons_zero, List.set_cons_succ]
          refine wpAnyH_ready (rs := [1, 5]) (by kernel_rfl) (by simp) ?_
          refine consL 1 rfl (by rfl) (fun K hK => ?_) ?_
          · go_simp
            refine hK.out _ _ hS0 (fun hS1 => ?_)
            clear hK K
            refine wpAnyH_ready (rs := [5]) (by kernel_rfl) (by simp) ?_
            refine consL 5 rfl (by rfl) (fun K hK => ?_) ?_
            · go_simp
              go_wp2_with (first | (go_at_call 102 ; refine HC.out.mono ?_; rintro e w2 ⟨a2, n2, cap2, rfl, hb, hm⟩; have HB2 := Lib.hid (Below.one hb); have HB2d := Lib.hid hb; have HM2 := Lib.hid hm; clear hb hm))
              refine hK.out _ _ ⟨cell_below hS1.1 HB2d.out, cell_below hS1.2.1 HB2d.out, cell_below hS1.2.2.1 HB2d.out, cell_below hS1.2.2.2.1 HB2d.out, cell_below hS1.2.2.2.2.1 HB2d.out, cell_below hS1.2.2.2.2.2.1 HB2d.out, cell_below hS1.2.2.2.2.2.2.1 HB2d.out, cell_below hS1.2.2.2.2.2.2.2 HB2d.out⟩ (fun hS2 => ?_)
              clear hK K
              obtain ⟨_, _, _, k3⟩ := (HN1.out.keep HB2.out).c4
              obtain ⟨_, _, _, l3⟩ := ((HN1.out.keep HB2.out).alloc (.cells #[.int .i64 (putT m v x).kind, .string (putT m v x).name, .int .i64 (putT m v x).n, .slice a2 n2 cap2] 52)).c4
              have HOA := Lib.hid (HOa.out.keep HB2.out)
              have HNA := Lib.hid ((HN1.out.keep HB2.out).alloc (.cells #[.int .i64 (putT m v x).kind, .string (putT m v x).name, .int .i64 (putT m v x).n, .slice a2 n2 cap2] 52))
              have HYA := Lib.hid ((HY1a.out.keep HB2.out).alloc (.cells #[.int .i64 (putT m v x).kind, .string (putT m v x).name, .int .i64 (putT m v x).n, .slice a2 n2 cap2] 52))
              have HZA := Lib.hid ((HZ1a.out.keep HB2.out).alloc (.cells #[.int .i64 (putT m v x).kind, .string (putT m v x).name, .int .i64 (putT m v x).n, .slice a2 n2 cap2] 52))
              have hsz2 : wr.heap.size + 1 ≤ w2.heap.size := by have := HB2.out.size; rw [World.size_alloc] at this; exact this
              refine wpAnyH_ready (rs := [6]) (by kernel_rfl) (by simp) ?_
              refine consL 6 rfl (by rfl) (fun K hK => ?_) ?_
              · go_simp
                refine hK.out _ _ ⟨cell_alloc _ hS2.1, cell_alloc _ hS2.2.1, cell_alloc _ hS2.2.2.1, cell_alloc _ hS2.2.2.2.1, cell_alloc _ hS2.2.2.2.2.1, cell_alloc _ hS2.2.2.2.2.2.1, cell_alloc _ hS2.2.2.2.2.2.2.1, cell_alloc _ hS2.2.2.2.2.2.2.2⟩ (fun hS3 => ?_)
                clear hK K
                refine callL 7 rfl (by kernel_rfl) (by rfl) (fun K hK => ?_)
                refine wp_append_D2 _ _ (by rfl) Try.underlying50 info_type rfl (by decide) (by rfl) (by rfl) (HOA.out.alloc _) (own_one (putT m v x) HOA.out (by omega) (HOa.out.apart (by have := H0.out; omega) (by rw [World.size_alloc]; omega) HM2.out)) HL.out.1 HL.out.2 (by rw [World.size_alloc]; omega) ?_
                intro v' w3 ho hg
                have hnb : ∀ q, q ≤ wr.heap.size → q < w.heap.size + 4 ∨ q = wr.heap.size → ∀ b, (Value.slice va (Tm.rows (putTs m v (t.args.take k))).length vc).ownBlock = some b → b ≠ q := fun q _ hq b hb e => by
                  have h1 := (HO.out.lt b hb)
                  rcases hq with hq | hq <;> omega
                have ho : OwnD 0 (w.heap.size + 4) 52 4 w3 v' (Tm.rows (putTs m v (t.args.take (k + 1)))) := by rw [HPN.out, Tm.rows_app]; exact ho
                have HO3 := Lib.hid ho
                have HG3 := Lib.hid hg
                have HN3 := Lib.hid (HNA.out.grown hg (hnb (w.heap.size + 1 + 1 + 1) (by omega) (.inl (by omega))))
                have HY3 := Lib.hid (HYA.out.grown hg (hnb (w.heap.size + 1) (by omega) (.inl (by omega))))
                have HZ3 := Lib.hid (HZA.out.grown hg (hnb (w.heap.size + 1 + 1) (by omega) (.inl (by omega))))
                have hx3 : ∀ q j u, w2.heap.size ≥ q → (q < w.heap.size + 4 ∨ q = wr.heap.size) → (w2.alloc (.cells #[.int .i64 (putT m v x).kind, .string (putT m v x).name, .int .i64 (putT m v x).n, .slice a2 n2 cap2] 52)).cell? ⟨q, j, none⟩ = some u → w3.cell? ⟨q, j, none⟩ = some u := fun q j u _ hq hu => (World.cell?_of_block (hg.block q (World.block_lt_of_cell? _ _ hu) (fun e => by rcases hq with hq | hq <;> exact (hnb q (by omega) (by first | exact .inl hq | exact .inr hq) _ e.symm) rfl))).trans hu
                obtain ⟨_, _, _, j3⟩ := HN3.out.c4
                have f3 := HN3.out.frozen 3
                obtain ⟨va', vc', rfl, _, _⟩ := ho.form
                clear ho hg
                refine hK.out _ _ ⟨hx3 _ _ _ (by omega) (by first | exact .inr rfl | exact .inl (by omega)) hS3.1, hx3 _ _ _ (by omega) (by first | exact .inr rfl | exact .inl (by omega)) hS3.2.1, hx3 _ _ _ (by omega) (by first | exact .inr rfl | exact .inl (by omega)) hS3.2.2.1, hx3 _ _ _ (by omega) (by first | exact .inr rfl | exact .inl (by omega)) hS3.2.2.2.1, hx3 _ _ _ (by omega) (by first | exact .inr rfl | exact .inl (by omega)) hS3.2.2.2.2.1, hx3 _ _ _ (by omega) (by first | exact .inr rfl | exact .inl (by omega)) hS3.2.2.2.2.2.1, hx3 _ _ _ (by omega) (by first | exact .inr rfl | exact .inl (by omega)) hS3.2.2.2.2.2.2.1, hx3 _ _ _ (by omega) (by first | exact .inr rfl | exact .inl (by omega)) hS3.2.2.2.2.2.2.2⟩ (fun hS4 => ?_)
                clear hK K hx3 hnb
                refine takeL 8 (v := ?_) rfl (by kernel_rfl) (by kernel_rfl) (by kernel_rfl) (fun _ _ _ h => h) (by rfl) ?_ (by assumption) ?_
                rotate_left
                · (intro w hSw; (try dsimp only at hSw); go_simp; try with_reducible rfl)
                try simp only [Act.put, List.setIfInBounds_toArray, List.set_cons_zero, List.set_cons_succ]
                refine callL 9 rfl (by kernel_rfl) (by rfl) (fun K hK => ?_)
                go_simp
                refine hK.out _ _ ⟨(cell_set_far _ _ _ _ _ _ (by omega)).trans hS4.1, (cell_set_far _ _ _ _ _ _ (by omega)).trans hS4.2.1, (cell_set_far _ _ _ _ _ _ (by omega)).trans hS4.2.2.1, (cell_set_far _ _ _ _ _ _ (by omega)).trans hS4.2.2.2.1, (cell_set_far _ _ _ _ _ _ (by omega)).trans hS4.2.2.2.2.1, (cell_set_far _ _ _ _ _ _ (by omega)).trans hS4.2.2.2.2.2.1, (cell_set_far _ _ _ _ _ _ (by omega)).trans hS4.2.2.2.2.2.2.1, (cell_set_far _ _ _ _ _ _ (by omega)).trans hS4.2.2.2.2.2.2.2⟩ (fun hS104 => ?_)
                clear hK K
                refine wpAnyH_done (by kernel_rfl) ?_ _
                go_wp2
                go_roundw
                case rel =>
                  have hbw : Below w.heap.size w w2 := Below.toA HB.out HB2.out
                  have hO4 := HO3.out.cellAt (w.heap.size + 1 + 1 + 1) 3 (.slice va' (Tm.rows (putTs m v (t.args.take (k + 1)))).length vc') (by omega) (by have := H0.out; omega)
                  have hN4 := HN3.out.set 3 (.slice va' (Tm.rows (putTs m v (t.args.take (k + 1)))).length vc')
                  refine ⟨k + 1, by omega, by go_num, ?_, HY3.out.far 3 _ (by omega), HZ3.out.far 3 _ (by omega), va', vc', hN4, hO4⟩
                  exact (grown_below (hbw.alloc hbw.size _) HG3.out (Nat.le_refl _) (fun b hb => by have := (HO.out.lt b hb).1; omega)).setCell (p := ⟨w.heap.size + 1 + 1 + 1, 0 + 3, none⟩) (Nat.le_add_right w.heap.size 3) _
                case measure => simp [intOf]; omega
              exact AllReadyH.nil
            exact AllReadyH.nil
          refine consL 5 rfl (by rfl) (fun K hK => ?_) ?_
          · go_simp
            go_wp2_with (first | (go_at_call 102 ; refine HC.out.mono ?_; rintro e w2 ⟨a2, n2, cap2, rfl, hb, hm⟩; have HB2 := Lib.hid (Below.one hb); have HB2d := Lib.hid hb; have HM2 := Lib.hid hm; clear hb hm))
            refine hK.out _ _ ⟨cell_below hS0.1 HB2d.out, cell_below hS0.2.1 HB2d.out, cell_below hS0.2.2.1 HB2d.out, cell_below hS0.2.2.2.1 HB2d.out, cell_below hS0.2.2.2.2.1 HB2d.out, cell_below hS0.2.2.2.2.2.1 HB2d.out, cell_below hS0.2.2.2.2.2.2.1 HB2d.out, cell_below hS0.2.2.2.2.2.2.2 HB2d.out⟩ (fun hS5 => ?_)
            clear hK K
            obtain ⟨_, _, _, k3⟩ := (HN1.out.keep HB2.out).c4
            obtain ⟨_, _, _, l3⟩ := ((HN1.out.keep HB2.out).alloc (.cells #[.int .i64 (putT m v x).kind, .string (putT m v x).name, .int .i64 (putT m v x).n, .slice a2 n2 cap2] 52)).c4
            have HOA := Lib.hid (HOa.out.keep HB2.out)
            have HNA := Lib.hid ((HN1.out.keep HB2.out).alloc (.cells #[.int .i64 (putT m v x).kind, .string (putT m v x).name, .int .i64 (putT m v x).n, .slice a2 n2 cap2] 52))
            have HYA := Lib.hid ((HY1a.out.keep HB2.out).alloc (.cells #[.int .i64 (putT m v x).kind, .string (putT m v x).name, .int .i64 (putT m v x).n, .slice a2 n2 cap2] 52))
            have HZA := Lib.hid ((HZ1a.out.keep HB2.out).alloc (.cells #[.int .i64 (putT m v x).kind, .string (putT m v x).name, .int .i64 (putT m v x).n, .slice a2 n2 cap2] 52))
            have hsz2 : wr.heap.size + 1 ≤ w2.heap.size := by have := HB2.out.size; rw [World.size_alloc] at this; exact this
            refine wpAnyH_ready (rs := [1, 6]) (by kernel_rfl) (by simp) ?_
            refine consL 1 rfl (by rfl) (fun K hK => ?_) ?_
            · go_simp
              refine hK.out _ _ hS5 (fun hS6 => ?_)
              clear hK K
              refine wpAnyH_ready (rs := [6]) (by kernel_rfl) (by simp) ?_
              refine consL 6 rfl (by rfl) (fun K hK => ?_) ?_
              · go_simp
                refine hK.out _ _ ⟨cell_alloc _ hS6.1, cell_alloc _ hS6.2.1, cell_alloc _ hS6.2.2.1, cell_alloc _ hS6.2.2.2.1, cell_alloc _ hS6.2.2.2.2.1, cell_alloc _ hS6.2.2.2.2.2.1, cell_alloc _ hS6.2.2.2.2.2.2.1, cell_alloc _ hS6.2.2.2.2.2.2.2⟩ (fun hS7 => ?_)
                clear hK K
                refine callL 7 rfl (by kernel_rfl) (by rfl) (fun K hK => ?_)
                refine wp_append_D2 _ _ (by rfl) Try.underlying50 info_type rfl (by decide) (by rfl) (by rfl) (HOA.out.alloc _) (own_one (putT m v x) HOA.out (by omega) (HOa.out.apart (by have := H0.out; omega) (by rw [World.size_alloc]; omega) HM2.out)) HL.out.1 HL.out.2 (by rw [World.size_alloc]; omega) ?_
                intro v' w3 ho hg
                have hnb : ∀ q, q ≤ wr.heap.size → q < w.heap.size + 4 ∨ q = wr.heap.size → ∀ b, (Value.slice va (Tm.rows (putTs m v (t.args.take k))).length vc).ownBlock = some b → b ≠ q := fun q _ hq b hb e => by
                  have h1 := (HO.out.lt b hb)
                  rcases hq with hq | hq <;> omega
                have ho : OwnD 0 (w.heap.size + 4) 52 4 w3 v' (Tm.rows (putTs m v (t.args.take (k + 1)))) := by rw [HPN.out, Tm.rows_app]; exact ho
                have HO3 := Lib.hid ho
                have HG3 := Lib.hid hg
                have HN3 := Lib.hid (HNA.out.grown hg (hnb (w.heap.size + 1 + 1 + 1) (by omega) (.inl (by omega))))
                have HY3 := Lib.hid (HYA.out.grown hg (hnb (w.heap.size + 1) (by omega) (.inl (by omega))))
                have HZ3 := Lib.hid (HZA.out.grown hg (hnb (w.heap.size + 1 + 1) (by omega) (.inl (by omega))))
                have hx3 : ∀ q j u, w2.heap.size ≥ q → (q < w.heap.size + 4 ∨ q = wr.heap.size) → (w2.alloc (.cells #[.int .i64 (putT m v x).kind, .string (putT m v x).name, .int .i64 (putT m v x).n, .slice a2 n2 cap2] 52)).cell? ⟨q, j, none⟩ = some u → w3.cell? ⟨q, j, none⟩ = some u := fun q j u _ hq hu => (World.cell?_of_block (hg.block q (World.block_lt_of_cell? _ _ hu) (fun e => by rcases hq with hq | hq <;> exact (hnb q (by omega) (by first | exact .inl hq | exact .inr hq) _ e.symm) rfl))).trans hu
                obtain ⟨_, _, _, j3⟩ := HN3.out.c4
                have f3 := HN3.out.frozen 3
                obtain ⟨va', vc', rfl, _, _⟩ := ho.form
                clear ho hg
                refine hK.out _ _ ⟨hx3 _ _ _ (by omega) (by first | exact .inr rfl | exact .inl (by omega)) hS7.1, hx3 _ _ _ (by omega) (by first | exact .inr rfl | exact .inl (by omega)) hS7.2.1, hx3 _ _ _ (by omega) (by first | exact .inr rfl | exact .inl (by omega)) hS7.2.2.1, hx3 _ _ _ (by omega) (by first | exact .inr rfl | exact .inl (by omega)) hS7.2.2.2.1, hx3 _ _ _ (by omega) (by first | exact .inr rfl | exact .inl (by omega)) hS7.2.2.2.2.1, hx3 _ _ _ (by omega) (by first | exact .inr rfl | exact .inl (by omega)) hS7.2.2.2.2.2.1, hx3 _ _ _ (by omega) (by first | exact .inr rfl | exact .inl (by omega)) hS7.2.2.2.2.2.2.1, hx3 _ _ _ (by omega) (by first | exact .inr rfl | exact .inl (by omega)) hS7.2.2.2.2.2.2.2⟩ (fun hS8 => ?_)
                clear hK K hx3 hnb
                refine takeL 8 (v := ?_) rfl (by kernel_rfl) (by kernel_rfl) (by kernel_rfl) (fun _ _ _ h => h) (by rfl) ?_ (by assumption) ?_
                rotate_left
                · (intro w hSw; (try dsimp only at hSw); go_simp; try with_reducible rfl)
                try simp only [Act.put, List.setIfInBounds_toArray, List.set_cons_zero, List.set_cons_succ]
                refine callL 9 rfl (by kernel_rfl) (by rfl) (fun K hK => ?_)
                go_simp
                refine hK.out _ _ ⟨(cell_set_far _ _ _ _ _ _ (by omega)).trans hS8.1, (cell_set_far _ _ _ _ _ _ (by omega)).trans hS8.2.1, (cell_set_far _ _ _ _ _ _ (by omega)).trans hS8.2.2.1, (cell_set_far _ _ _ _ _ _ (by omega)).trans hS8.2.2.2.1, (cell_set_far _ _ _ _ _ _ (by omega)).trans hS8.2.2.2.2.1, (cell_set_far _ _ _ _ _ _ (by omega)).trans hS8.2.2.2.2.2.1, (cell_set_far _ _ _ _ _ _ (by omega)).trans hS8.2.2.2.2.2.2.1, (cell_set_far _ _ _ _ _ _ (by omega)).trans hS8.2.2.2.2.2.2.2⟩ (fun hS108 => ?_)
                clear hK K
                refine wpAnyH_done (by kernel_rfl) ?_ _
                go_wp2
                go_roundw
                case rel =>
                  have hbw : Below w.heap.size w w2 := Below.toA HB.out HB2.out
                  have hO4 := HO3.out.cellAt (w.heap.size + 1 + 1 + 1) 3 (.slice va' (Tm.rows (putTs m v (t.args.take (k + 1)))).length vc') (by omega) (by have := H0.out; omega)
                  have hN4 := HN3.out.set 3 (.slice va' (Tm.rows (putTs m v (t.args.take (k + 1)))).length vc')
                  refine ⟨k + 1, by omega, by go_num, ?_, HY3.out.far 3 _ (by omega), HZ3.out.far 3 _ (by omega), va', vc', hN4, hO4⟩
                  exact (grown_below (hbw.alloc hbw.size _) HG3.out (Nat.le_refl _) (fun b hb => by have := (HO.out.lt b hb).1; omega)).setCell (p := ⟨w.heap.size + 1 + 1 + 1, 0 + 3, none⟩) (Nat.le_add_right w.heap.size 3) _
                case measure => simp [intOf]; omega
              exact AllReadyH.nil
            refine consL 6 rfl (by rfl) (fun K hK => ?_) ?_
            · go_simp
              refine hK.out _ _ ⟨cell_alloc _ hS5.1, cell_alloc _ hS5.2.1, cell_alloc _ hS5.2.2.1, cell_alloc _ hS5.2.2.2.1, cell_alloc _ hS5.2.2.2.2.1, cell_alloc _ hS5.2.2.2.2.2.1, cell_alloc _ hS5.2.2.2.2.2.2.1, cell_alloc _ hS5.2.2.2.2.2.2.2⟩ (fun hS9 => ?_)
              clear hK K
              refine wpAnyH_ready (rs := [1]) (by kernel_rfl) (by simp) ?_
              refine consL 1 rfl (by rfl) (fun K hK => ?_) ?_
              · go_simp
                refine hK.out _ _ hS9 (fun hS10 => ?_)
                clear hK K
                refine callL 7 rfl (by kernel_rfl) (by rfl) (fun K hK => ?_)
                refine wp_append_D2 _ _ (by rfl) Try.underlying50 info_type rfl (by decide) (by rfl) (by rfl) (HOA.out.alloc _) (own_one (putT m v x) HOA.out (by omega) (HOa.out.apart (by have := H0.out; omega) (by rw [World.size_alloc]; omega) HM2.out)) HL.out.1 HL.out.2 (by rw [World.size_alloc]; omega) ?_
                intro v' w3 ho hg
                have hnb : ∀ q, q ≤ wr.heap.size → q < w.heap.size + 4 ∨ q = wr.heap.size → ∀ b, (Value.slice va (Tm.rows (putTs m v (t.args.take k))).length vc).ownBlock = some b → b ≠ q := fun q _ hq b hb e => by
                  have h1 := (HO.out.lt b hb)
                  rcases hq with hq | hq <;> omega
                have ho : OwnD 0 (w.heap.size + 4) 52 4 w3 v' (Tm.rows (putTs m v (t.args.take (k + 1)))) := by rw [HPN.out, Tm.rows_app]; exact ho
                have HO3 := Lib.hid ho
                have HG3 := Lib.hid hg
                have HN3 := Lib.hid (HNA.out.grown hg (hnb (w.heap.size + 1 + 1 + 1) (by omega) (.inl (by omega))))
                have HY3 := Lib.hid (HYA.out.grown hg (hnb (w.heap.size + 1) (by omega) (.inl (by omega))))
                have HZ3 := Lib.hid (HZA.out.grown hg (hnb (w.heap.size + 1 + 1) (by omega) (.inl (by omega))))
                have hx3 : ∀ q j u, w2.heap.size ≥ q → (q < w.heap.size + 4 ∨ q = wr.heap.size) → (w2.alloc (.cells #[.int .i64 (putT m v x).kind, .string (putT m v x).name, .int .i64 (putT m v x).n, .slice a2 n2 cap2] 52)).cell? ⟨q, j, none⟩ = some u → w3.cell? ⟨q, j, none⟩ = some u := fun q j u _ hq hu => (World.cell?_of_block (hg.block q (World.block_lt_of_cell? _ _ hu) (fun e => by rcases hq with hq | hq <;> exact (hnb q (by omega) (by first | exact .inl hq | exact .inr hq) _ e.symm) rfl))).trans hu
                obtain ⟨_, _, _, j3⟩ := HN3.out.c4
                have f3 := HN3.out.frozen 3
                obtain ⟨va', vc', rfl, _, _⟩ := ho.form
                clear ho hg
                refine hK.out _ _ ⟨hx3 _ _ _ (by omega) (by first | exact .inr rfl | exact .inl (by omega)) hS10.1, hx3 _ _ _ (by omega) (by first | exact .inr rfl | exact .inl (by omega)) hS10.2.1, hx3 _ _ _ (by omega) (by first | exact .inr rfl | exact .inl (by omega)) hS10.2.2.1, hx3 _ _ _ (by omega) (by first | exact .inr rfl | exact .inl (by omega)) hS10.2.2.2.1, hx3 _ _ _ (by omega) (by first | exact .inr rfl | exact .inl (by omega)) hS10.2.2.2.2.1, hx3 _ _ _ (by omega) (by first | exact .inr rfl | exact .inl (by omega)) hS10.2.2.2.2.2.1, hx3 _ _ _ (by omega) (by first | exact .inr rfl | exact .inl (by omega)) hS10.2.2.2.2.2.2.1, hx3 _ _ _ (by omega) (by first | exact .inr rfl | exact .inl (by omega)) hS10.2.2.2.2.2.2.2⟩ (fun hS11 => ?_)
                clear hK K hx3 hnb
                refine takeL 8 (v := ?_) rfl (by kernel_rfl) (by kernel_rfl) (by kernel_rfl) (fun _ _ _ h => h) (by rfl) ?_ (by assumption) ?_
                rotate_left
                · (intro w hSw; (try dsimp only at hSw); go_simp; try with_reducible rfl)
                try simp only [Act.put, List.setIfInBounds_toArray, List.set_cons_zero, List.set_cons_succ]
                refine callL 9 rfl (by kernel_rfl) (by rfl) (fun K hK => ?_)
                go_simp
                refine hK.out _ _ ⟨(cell_set_far _ _ _ _ _ _ (by omega)).trans hS11.1, (cell_set_far _ _ _ _ _ _ (by omega)).trans hS11.2.1, (cell_set_far _ _ _ _ _ _ (by omega)).trans hS11.2.2.1, (cell_set_far _ _ _ _ _ _ (by omega)).trans hS11.2.2.2.1, (cell_set_far _ _ _ _ _ _ (by omega)).trans hS11.2.2.2.2.1, (cell_set_far _ _ _ _ _ _ (by omega)).trans hS11.2.2.2.2.2.1, (cell_set_far _ _ _ _ _ _ (by omega)).trans hS11.2.2.2.2.2.2.1, (cell_set_far _ _ _ _ _ _ (by omega)).trans hS11.2.2.2.2.2.2.2⟩ (fun hS111 => ?_)
                clear hK K
                refine wpAnyH_done (by kernel_rfl) ?_ _
                go_wp2
                go_roundw
                case rel =>
                  have hbw : Below w.heap.size w w2 := Below.toA HB.out HB2.out
                  have hO4 := HO3.out.cellAt (w.heap.size + 1 + 1 + 1) 3 (.slice va' (Tm.rows (putTs m v (t.args.take (k + 1)))).length vc') (by omega) (by have := H0.out; omega)
                  have hN4 := HN3.out.set 3 (.slice va' (Tm.rows (putTs m v (t.args.take (k + 1)))).length vc')
                  refine ⟨k + 1, by omega, by go_num, ?_, HY3.out.far 3 _ (by omega), HZ3.out.far 3 _ (by omega), va', vc', hN4, hO4⟩
                  exact (grown_below (hbw.alloc hbw.size _) HG3.out (Nat.le_refl _) (fun b hb => by have := (HO.out.lt b hb).1; omega)).setCell (p := ⟨w.heap.size + 1 + 1 + 1, 0 + 3, none⟩) (Nat.le_add_right w.heap.size 3) _
                case measure => simp [intOf]; omega
              exact AllReadyH.nil
            exact AllReadyH.nil
          exact AllReadyH.nil
        · have hk' : t.args.take k = t.args := List.take_of_length_le (by rw [hln.out]; omega)
          rw [hk'] at HO HN0
          clear hk'
          obtain ⟨j0, j1, j2, j3⟩ := HN0.out.c4
          have hwr : Wr wr (w.heap.size + 1 + 1) 52 4 := HZ1.out.wr
          go_wp2
          have HR := Lib.hid (HZ1.out.row #[.int .i64 t.kind, .string t.name, .int .i64 t.n, .slice va (Tm.rows (putTs m v t.args)).length vc]).c4
          refine bodyPost_ret (v := .agg #[.int .i64 t.kind, .string t.name, .int .i64 t.n, .slice va (Tm.rows (putTs m v t.args)).length vc]) (by simp [results, Try.results102, go_sem, HR.out]) rfl ?_
          rw [HF.out]
          refine ⟨va, _, vc, rfl, below_setRow HB.out (by omega) _, ?_⟩
          exact ((HO.out.row (w.heap.size + 1 + 1) #[.int .i64 t.kind, .string t.name, .int .i64 t.n, .slice va (Tm.rows (putTs m v t.args)).length vc] (by omega) (by have := H0.out; omega)).mem).mono (fun b hb => ⟨hb.1.imp id fun h => by omega, hb.2⟩) fun _ _ => rfl
end Go.Proofs.Ytemkpecagflafaa
