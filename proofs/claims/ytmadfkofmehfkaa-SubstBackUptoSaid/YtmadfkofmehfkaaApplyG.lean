/-
  The reference's Apply at any list: a term with something else for its variables. No condition but how they lie, and how great they are.
-/
import Derived.Test.YtmadfkofmehfkaaApT
import Derived.Test.YtmadfkofmehfkaaGivesT
import Derived.Test.YtmadfkofmehfkaaAll3
namespace Go.Proofs.Ytmadfkofmehfkaa
open Go.RowKit
theorem store_tmG {dst : Option Nat} {ty : TypeId} {pos : String} {after : Array Edge} {guard : Option (Nat × Bool)} {x y : Operand} {a : Act} {w : World} {K : Act → World → Prop} {Q : Exit → Act → World → Prop} (h : StOk 24 4 w (a.eval x) (a.eval y)) :
    Oper.wp Try.prog { dst := dst, op := .store 24 x y, type := ty, pos := pos, after := after, guard := guard } a w K Q = K (a.put dst undef) (w.setRow (stB (a.eval x)) (stC (a.eval y))) := wp_store_T rfl (by kernel_rfl) h
theorem stOk_tmG {w : World} {g m c : Nat} {k n : Int} {s : ByteArray} {a : Option Addr} : StOk 24 4 w (.pointer (some ⟨g, 0, none⟩)) (.agg #[.int .i64 k, .string s, .int .i64 n, .slice a m c]) = Wr w g 24 4 := stOk_eq rfl (by simp [Value.oneCell'])
attribute [local go_sem ↓] store_tmG
attribute [local go_sem] stOk_tmG
attribute [local go_sem] stB_eq stC_eq wr_drew wr_alloc wr_row

set_option maxRecDepth 100000 in
set_option maxHeartbeats 20000000 in
theorem applyG_any {V : List (Int × Tm)} (m : Nat) : ∀ (t : Tm) (B n cap bn bc : Nat) (a ba : Option Addr) (w : World), t.size ≤ m → m ≤ 1048576 → Mem (· < B) w (.s 5 (bindsT V)) (.slice ba bn bc) → Mem (· < B) w (.s 4 (Tm.rows t.args)) (.slice a n cap) → B ≤ w.heap.size →
    Calls Try.prog 14 #[.slice ba bn bc, .agg #[.int .i64 t.kind, .string t.name, .int .i64 t.n, .slice a n cap]] w (GivesT B (apT V t) w) := by
  induction m with
  | zero => intro t _ _ _ _ _ _ _ w h; have := t.size_pos; omega
  | succ m ih =>
    intro t B n cap bn bc a ba w hm hmm hb ht hB
    have IH := Lib.hid ih
    clear ih
    have HW1 := Lib.hid (((below_new w (.cells #[.int .i64 t.kind, .string t.name, .int .i64 t.n, .slice a n cap] 24)).alloc (by simp) (.cells #[.int .i64 0, .string ⟨#[]⟩, .int .i64 0, .slice none 0 0] 24)))
    have HX := Lib.hid ((Bo.new w 24 #[.int .i64 t.kind, .string t.name, .int .i64 t.n, .slice a n cap]).alloc (.cells #[.int .i64 0, .string ⟨#[]⟩, .int .i64 0, .slice none 0 0] 24))
    have HY := Lib.hid (World.size_alloc w (.cells #[.int .i64 t.kind, .string t.name, .int .i64 t.n, .slice a n cap] 24) ▸ Bo.new (w.alloc (.cells #[.int .i64 t.kind, .string t.name, .int .i64 t.n, .slice a n cap] 24)) 24 #[.int .i64 0, .string ⟨#[]⟩, .int .i64 0, .slice none 0 0])
    have HBD := Lib.hid hb
    have HT := Lib.hid ht
    have H0 := Lib.hid hB
    have hbl := hb.len
    rw [bindsT_len] at hbl
    have hbc := hbl.2.1
    have hbm := hbl.2.2
    have HBL := Lib.hid hbl.1
    have hl := ht.len
    rw [Tm.rows_len] at hl
    have hln := Lib.hid hl.1
    have hcap := hl.2.1
    have hmx := hl.2.2
    have HA := Lib.hid (show ∀ x ∈ t.args, x.size ≤ m from fun x hx => by have := Tm.size_arg hx; omega)
    have HM := Lib.hid (show t.size ≤ 1048576 by omega)
    have HMM := Lib.hid (show m ≤ 1048576 by omega)
    obtain ⟨x0, x1, x2, x3⟩ := HX.out.c4
    clear hb ht hB hm hmm hl hbl
    by_cases hk : t.kind = 3
    · have e1 : (t.kind == 3) = true := by rw [beq_iff_eq]; exact hk
      cases hlk : look V t.n with
      | some xv =>
        obtain ⟨i0, hi1, hi2⟩ := look_idx hlk
        have HF := Lib.hid (apT_hit hk hlk)
        have hi : i0 < bn := by
          have := (List.getElem?_eq_some_iff.1 hi1).1
          have := HBL.out; omega
        have HE := Lib.hid hi1
        have HNE := Lib.hid hi2
        clear hk hi1 hi2 hlk
        go_enter Try.func14, Try.ntmps14
        go_wp2
        clear x0 x1 x2 x3
        go_loopw [15] (fun i wr => ∃ k : Nat, k ≤ i0 ∧ i = .int .i64 k ∧ Hid (Below w.heap.size w wr) ∧ Hid (Bo wr w.heap.size 24 #[.int .i64 t.kind, .string t.name, .int .i64 t.n, .slice a n cap]) ∧ Hid (Bo wr (w.heap.size + 1) 24 #[.int .i64 0, .string ⟨#[]⟩, .int .i64 0, .slice none 0 0])) (fun i _ => bn - (intOf i).toNat)
        case atStart => exact ⟨0, Nat.zero_le _, rfl, HW1.out, HX.out, HY.out⟩
        case round =>
          obtain ⟨k, hk, rfl, HB, HX1, HY1⟩ := hrel
          have hlt : k < bn := by omega
          have hltz : (k : Int) < (bn : Int) := by omega
          obtain ⟨b, o, y, ax, nx, capx, rfl, hbB, Hy, y0, y1, y2, y3, y4, GX⟩ := bindT_at (HBD.out.keep (Nat.le_refl _) (HB.out.mono H0.out)) k hlt
          have hz1 := HY1.out.lt
          obtain ⟨vk, yt⟩ := y
          obtain ⟨g0, g1, g2, g3⟩ := (HX1.out.alloc (.cells #[.int .i64 vk, .int .i64 yt.kind, .string yt.name, .int .i64 yt.n, .slice ax nx capx] 34)).c4
          have hwr : Wr wr (w.heap.size + 1) 24 4 := HY1.out.wr
          simp only at y0 y1 y2 y3 GX
          by_cases hki : k = i0
          · have hyy : (vk, yt) = (t.n, xv) := by
              have h1 := Hy.out
              have h2 := HE.out
              rw [hki] at h1
              exact Option.some.inj (h1.symm.trans h2)
            have e2 : (vk == t.n) = true := by rw [beq_iff_eq]; exact congrArg Prod.fst hyy
            have HYT : Hid (yt = xv) := Lib.hid (congrArg Prod.snd hyy)
            clear hki hyy
            go_wp2
            have HR := Lib.hid ((HY1.out.alloc (.cells #[.int .i64 vk, .int .i64 yt.kind, .string yt.name, .int .i64 yt.n, .slice ax nx capx] 34)).row #[.int .i64 yt.kind, .string yt.name, .int .i64 yt.n, .slice ax nx capx]).c4
            refine bodyPost_ret (v := .agg #[.int .i64 yt.kind, .string yt.name, .int .i64 yt.n, .slice ax nx capx]) (by simp [results, Try.results14, go_sem, HR.out]) rfl ?_
            rw [HF.out, ← HYT.out]
            refine ⟨ax, nx, capx, rfl, below_setRow (HB.out.alloc HB.out.size _) (by omega) _, ?_⟩
            exact GX.out.mono (fun b' hb' => ⟨.inl hb', by rw [size_setRow, World.size_alloc]; have := H0.out; have := HB.out.size; omega⟩) fun b' hb' => (setRow_other _ _ b' _ (by have := H0.out; omega)).trans ((below_new wr _).block b' (by have := H0.out; have := HB.out.size; omega))
          · have e2 : (vk == t.n) = false := by rw [beq_eq_false_iff_ne]; exact HNE.out k (vk, yt) (by omega) Hy.out
            go_wp2
            go_roundw
            case rel => exact ⟨k + 1, by omega, by go_num, Lib.hid (HB.out.alloc HB.out.size _), Lib.hid (HX1.out.alloc _), Lib.hid (HY1.out.alloc _)⟩
            case measure => simp [intOf]; omega
      | none =>
        have HF := Lib.hid (apT_miss (l := V) (t := t) (fun _ => hlk))
        have HNO := Lib.hid (look_no hlk)
        clear hk hlk
        go_enter Try.func14, Try.ntmps14
        go_wp2
        clear x0 x1 x2 x3
        go_loopw [15] (fun i wr => ∃ k : Nat, k ≤ bn ∧ i = .int .i64 k ∧ Hid (Below w.heap.size w wr) ∧ Hid (Bo wr w.heap.size 24 #[.int .i64 t.kind, .string t.name, .int .i64 t.n, .slice a n cap]) ∧ Hid (Bo wr (w.heap.size + 1) 24 #[.int .i64 0, .string ⟨#[]⟩, .int .i64 0, .slice none 0 0])) (fun i _ => bn - (intOf i).toNat)
        case atStart => exact ⟨0, Nat.zero_le _, rfl, HW1.out, HX.out, HY.out⟩
        case round =>
          obtain ⟨k, hk, rfl, HB, HX1, HY1⟩ := hrel
          by_cases hlt : k < bn
          · have hltz : (k : Int) < (bn : Int) := by omega
            obtain ⟨b, o, y, ax, nx, capx, rfl, hbB, Hy, y0, y1, y2, y3, y4, GX⟩ := bindT_at (HBD.out.keep (Nat.le_refl _) (HB.out.mono H0.out)) k hlt
            obtain ⟨vk, yt⟩ := y
            obtain ⟨g0, g1, g2, g3⟩ := (HX1.out.alloc (.cells #[.int .i64 vk, .int .i64 yt.kind, .string yt.name, .int .i64 yt.n, .slice ax nx capx] 34)).c4
            simp only at y0 y1 y2 y3 GX
            have e2 : (vk == t.n) = false := by rw [beq_eq_false_iff_ne]; exact HNO.out (vk, yt) (List.mem_of_getElem? Hy.out)
            go_wp2
            go_roundw
            case rel => exact ⟨k + 1, by omega, by go_num, Lib.hid (HB.out.alloc HB.out.size _), Lib.hid (HX1.out.alloc _), Lib.hid (HY1.out.alloc _)⟩
            case measure => simp [intOf]; omega
          · obtain rfl : k = bn := by omega
            have hltz : ¬ (k : Int) < (k : Int) := by omega
            obtain ⟨x0, x1, x2, x3⟩ := HX1.out.c4
            have hws := HB.out.size
            obtain ⟨ws, hwse⟩ : ∃ ws, ws = wr := ⟨_, rfl⟩
            subst hwse
            go_wp2
            clear x0 x1 x2 x3
            go_loopw [7, 30] (fun v i wr => ∃ k : Nat, k ≤ n ∧ i = .int .i64 k ∧ Hid (Below w.heap.size w wr) ∧ Hid (Bo wr w.heap.size 24 #[.int .i64 t.kind, .string t.name, .int .i64 t.n, .slice a n cap]) ∧ Hid (Bo wr (w.heap.size + 1) 24 #[.int .i64 0, .string ⟨#[]⟩, .int .i64 0, .slice none 0 0]) ∧ Hid (OwnD B (w.heap.size + 2) 24 4 wr v (Tm.rows (apTs V (t.args.take k))))) (fun _ i _ => n - (intOf i).toNat)
            case atStart => exact ⟨0, Nat.zero_le _, rfl, HB, HX1, HY1, Lib.hid (by rw [List.take_zero, apTs, Tm.rows]; exact OwnD.nil _ _ _ _ _)⟩
            case round =>
              clear HB HX1 HY1
              obtain ⟨k2, hk2, rfl, HB, HX1, HY1, HO⟩ := hrel
              have hz1 := HY1.out.lt
              by_cases hlt : k2 < n
              · obtain ⟨b, o, x, ax, nx, capx, rfl, hbB, Hx, x0, x1, x2, x3, GX⟩ := tm_at (HT.out.keep (Nat.le_refl _) (HB.out.mono H0.out)) k2 hlt
                have GA := Lib.hid (HA.out x (mem_of_at Hx.out))
                have HW := Lib.hid (show B ≤ wr.heap.size from Nat.le_trans H0.out HB.out.size)
                have HN := Lib.hid (show apTs V (t.args.take (k2 + 1)) = apTs V (t.args.take k2) ++ [apT V x] by rw [take_at Hx.out, apTs_eq, apTs_eq, List.map_append]; rfl)
                have HL := Lib.hid (show ((Tm.rows (apTs V (t.args.take k2))).length + 1) * 56 ≤ 140737488355328 ∧ (Tm.rows (apTs V (t.args.take k2))).length + 1 ≤ 4611686018427387904 by
                  have h1 := HM.out
                  rw [Tm.size_eq] at h1
                  have h2 := Tm.len_args t.args
                  rw [Tm.rows_len, apTs_eq, List.length_map, List.length_take]; omega)
                go_wp2_with (first
                  | (go_at_call 14
                     refine (IH.out x B _ _ k bc _ ba _ GA.out HMM.out (HBD.out.keep (Nat.le_refl _) ((Below.toA HB.out (Below.refl _ _)).mono H0.out)) (GX.out.keep (Nat.le_refl _) ((below_new wr _).mono HW.out)) (by have := HW.out; rw [World.size_alloc]; omega)).mono ?_
                     rintro e w2 ⟨a2, n2, cap2, rfl, hb, hm⟩
                     have HB2 := Lib.hid hb; clear hb
                     have HM2 := Lib.hid hm; clear hm
                     have HO2 := Lib.hid ((HO.out.alloc _).keep HB2.out))
                  | (at_builtin
                     refine wpList_append_D rfl _ _ rfl Try.underlying22 info_term rfl (by decide) rfl rfl (HO2.out.alloc _) (own_one (apT V x) HO2.out (by have := HB2.out.size; rw [World.size_alloc] at this; omega) ((HO.out.alloc _).apart (by have := H0.out; omega) (by rw [World.size_alloc]; omega) HM2.out)) HL.out.1 HL.out.2 (by have := HB2.out.size; rw [World.size_alloc] at this; rw [World.size_alloc]; omega) ?_
                     intro v' w3 ho hg
                     have HO3 := Lib.hid ho; clear ho
                     have HG3 := Lib.hid hg; clear hg))
                go_roundw
                case rel =>
                  have hbw := Below.toA HB.out HB2.out
                  refine ⟨k2 + 1, by omega, by go_num, Lib.hid (grown_below (hbw.alloc hbw.size _) HG3.out (Nat.le_refl _) (fun b hb => by have := (HO2.out.lt b hb).1; omega)), Lib.hid (((HX1.out.alloc _).keep HB2.out |>.alloc _).grown HG3.out (fun b hb => by have := (HO2.out.lt b hb).1; omega)), Lib.hid (((HY1.out.alloc _).keep HB2.out |>.alloc _).grown HG3.out (fun b hb => by have := (HO2.out.lt b hb).1; omega)), Lib.hid ?_⟩
                  rw [HN.out, Tm.rows_app]; exact HO3.out
                case measure => simp [intOf]; omega
              · have hk' : t.args.take k2 = t.args := List.take_of_length_le (by rw [hln.out]; omega)
                rw [hk'] at HO
                clear hk'
                obtain ⟨a', cap', hv, _, _⟩ := HO.out.form
                subst hv
                obtain ⟨g0, g1, g2, g3⟩ := HX1.out.c4
                have hwr : Wr wr (w.heap.size + 1) 24 4 := HY1.out.wr
                go_wp2
                have HR := Lib.hid (HY1.out.row #[.int .i64 t.kind, .string t.name, .int .i64 t.n, .slice a' (Tm.rows (apTs V t.args)).length cap']).c4
                refine bodyPost_ret (v := .agg #[.int .i64 t.kind, .string t.name, .int .i64 t.n, .slice a' (Tm.rows (apTs V t.args)).length cap']) (by simp [results, Try.results14, go_sem, HR.out]) rfl ?_
                rw [HF.out]
                refine ⟨a', _, cap', rfl, below_setRow HB.out (by omega) _, ?_⟩
                exact ((HO.out.row (w.heap.size + 1) #[.int .i64 t.kind, .string t.name, .int .i64 t.n, .slice a' (Tm.rows (apTs V t.args)).length cap'] (by omega) (by have := H0.out; omega)).mem).mono (fun b hb => ⟨hb.1.imp id fun h => by omega, hb.2⟩) fun _ _ => rfl
    · have e1 : (t.kind == 3) = false := by rw [beq_eq_false_iff_ne]; exact hk
      have HF := Lib.hid (apT_miss (l := V) (t := t) (fun h => absurd h hk))
      clear hk
      go_enter Try.func14, Try.ntmps14
      go_wp2
      clear x0 x1 x2 x3
      have HB := HW1
      have HX1 := HX
      have HY1 := HY
      generalize (w.alloc (.cells #[.int .i64 t.kind, .string t.name, .int .i64 t.n, .slice a n cap] 24)).alloc (.cells #[.int .i64 0, .string ⟨#[]⟩, .int .i64 0, .slice none 0 0] 24) = ws at *
      go_loopw [7, 30] (fun v i wr => ∃ k : Nat, k ≤ n ∧ i = .int .i64 k ∧ Hid (Below w.heap.size w wr) ∧ Hid (Bo wr w.heap.size 24 #[.int .i64 t.kind, .string t.name, .int .i64 t.n, .slice a n cap]) ∧ Hid (Bo wr (w.heap.size + 1) 24 #[.int .i64 0, .string ⟨#[]⟩, .int .i64 0, .slice none 0 0]) ∧ Hid (OwnD B (w.heap.size + 2) 24 4 wr v (Tm.rows (apTs V (t.args.take k))))) (fun _ i _ => n - (intOf i).toNat)
      case atStart => exact ⟨0, Nat.zero_le _, rfl, HB, HX1, HY1, Lib.hid (by rw [List.take_zero, apTs, Tm.rows]; exact OwnD.nil _ _ _ _ _)⟩
      case round =>
        clear HB HX1 HY1
        obtain ⟨k2, hk2, rfl, HB, HX1, HY1, HO⟩ := hrel
        have hz1 := HY1.out.lt
        by_cases hlt : k2 < n
        · obtain ⟨b, o, x, ax, nx, capx, rfl, hbB, Hx, x0, x1, x2, x3, GX⟩ := tm_at (HT.out.keep (Nat.le_refl _) (HB.out.mono H0.out)) k2 hlt
          have GA := Lib.hid (HA.out x (mem_of_at Hx.out))
          have HW := Lib.hid (show B ≤ wr.heap.size from Nat.le_trans H0.out HB.out.size)
          have HN := Lib.hid (show apTs V (t.args.take (k2 + 1)) = apTs V (t.args.take k2) ++ [apT V x] by rw [take_at Hx.out, apTs_eq, apTs_eq, List.map_append]; rfl)
          have HL := Lib.hid (show ((Tm.rows (apTs V (t.args.take k2))).length + 1) * 56 ≤ 140737488355328 ∧ (Tm.rows (apTs V (t.args.take k2))).length + 1 ≤ 4611686018427387904 by
            have h1 := HM.out
            rw [Tm.size_eq] at h1
            have h2 := Tm.len_args t.args
            rw [Tm.rows_len, apTs_eq, List.length_map, List.length_take]; omega)
          go_wp2_with (first
            | (go_at_call 14
               refine (IH.out x B _ _ bn bc _ ba _ GA.out HMM.out (HBD.out.keep (Nat.le_refl _) ((Below.toA HB.out (Below.refl _ _)).mono H0.out)) (GX.out.keep (Nat.le_refl _) ((below_new wr _).mono HW.out)) (by have := HW.out; rw [World.size_alloc]; omega)).mono ?_
               rintro e w2 ⟨a2, n2, cap2, rfl, hb, hm⟩
               have HB2 := Lib.hid hb; clear hb
               have HM2 := Lib.hid hm; clear hm
               have HO2 := Lib.hid ((HO.out.alloc _).keep HB2.out))
            | (at_builtin
               refine wpList_append_D rfl _ _ rfl Try.underlying22 info_term rfl (by decide) rfl rfl (HO2.out.alloc _) (own_one (apT V x) HO2.out (by have := HB2.out.size; rw [World.size_alloc] at this; omega) ((HO.out.alloc _).apart (by have := H0.out; omega) (by rw [World.size_alloc]; omega) HM2.out)) HL.out.1 HL.out.2 (by have := HB2.out.size; rw [World.size_alloc] at this; rw [World.size_alloc]; omega) ?_
               intro v' w3 ho hg
               have HO3 := Lib.hid ho; clear ho
               have HG3 := Lib.hid hg; clear hg))
          go_roundw
          case rel =>
            have hbw := Below.toA HB.out HB2.out
            refine ⟨k2 + 1, by omega, by go_num, Lib.hid (grown_below (hbw.alloc hbw.size _) HG3.out (Nat.le_refl _) (fun b hb => by have := (HO2.out.lt b hb).1; omega)), Lib.hid (((HX1.out.alloc _).keep HB2.out |>.alloc _).grown HG3.out (fun b hb => by have := (HO2.out.lt b hb).1; omega)), Lib.hid (((HY1.out.alloc _).keep HB2.out |>.alloc _).grown HG3.out (fun b hb => by have := (HO2.out.lt b hb).1; omega)), Lib.hid ?_⟩
            rw [HN.out, Tm.rows_app]; exact HO3.out
          case measure => simp [intOf]; omega
        · have hk' : t.args.take k2 = t.args := List.take_of_length_le (by rw [hln.out]; omega)
          rw [hk'] at HO
          clear hk'
          obtain ⟨a', cap', hv, _, _⟩ := HO.out.form
          subst hv
          obtain ⟨g0, g1, g2, g3⟩ := HX1.out.c4
          have hwr : Wr wr (w.heap.size + 1) 24 4 := HY1.out.wr
          go_wp2
          have HR := Lib.hid (HY1.out.row #[.int .i64 t.kind, .string t.name, .int .i64 t.n, .slice a' (Tm.rows (apTs V t.args)).length cap']).c4
          refine bodyPost_ret (v := .agg #[.int .i64 t.kind, .string t.name, .int .i64 t.n, .slice a' (Tm.rows (apTs V t.args)).length cap']) (by simp [results, Try.results14, go_sem, HR.out]) rfl ?_
          rw [HF.out]
          refine ⟨a', _, cap', rfl, below_setRow HB.out (by omega) _, ?_⟩
          exact ((HO.out.row (w.heap.size + 1) #[.int .i64 t.kind, .string t.name, .int .i64 t.n, .slice a' (Tm.rows (apTs V t.args)).length cap'] (by omega) (by have := H0.out; omega)).mem).mono (fun b hb => ⟨hb.1.imp id fun h => by omega, hb.2⟩) fun _ _ => rfl
end Go.Proofs.Ytmadfkofmehfkaa
