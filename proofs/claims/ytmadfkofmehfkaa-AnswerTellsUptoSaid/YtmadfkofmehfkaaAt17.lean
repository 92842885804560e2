/-
  The reference's Match and Instance. No condition but how the terms lie, and how great they are.
-/
import Derived.Test.YtmadfkofmehfkaaAt11
import Derived.Test.YtmadfkofmehfkaaAt15
import Derived.Test.YtmadfkofmehfkaaAt12
import Derived.Test.YtmadfkofmehfkaaAt8
import Derived.Test.YtmadfkofmehfkaaAt5
import Derived.Test.YtmadfkofmehfkaaAt6
import Derived.Test.YtmadfkofmehfkaaAt16
import Derived.Deep.RegionHeld3
import Derived.StillTailTactics
namespace Go.Proofs.Ytmadfkofmehfkaa
open Go.RowKit Go.Maps

theorem info_bindR : (Try.prog.info? 34).map (fun i => (i.zero, i.size, i.bytes)) = some (some (.agg #[.int .i64 0, .int .i64 0, .string .empty, .int .i64 0, .slice none 0 0]), 5, 64) := by kernel_rfl
theorem mt_len (m : Nat) : ∀ (p t : Tm) (M : List (Int × Tm)), p.size ≤ m → (mt p t M).2.length ≤ M.length + p.size := by
  induction m with
  | zero => intro p _ _ h; have := p.size_pos; omega
  | succ m ih =>
    have ihs : ∀ (ps ts : List Tm) (M : List (Int × Tm)), (∀ x ∈ ps, x.size ≤ m) → (mts ps ts M).2.length ≤ M.length + (Tm.alls ps).length := by
      intro ps
      induction ps with
      | nil => intro ts M _; rw [mts]; simp
      | cons p ps ihp =>
        intro ts M h
        cases ts with
        | nil => rw [mts]; simp
        | cons t ts =>
          have h1 := ih p t M (h p (List.mem_cons_self ..))
          rw [mts, Tm.alls, List.length_append]
          have e : p.all.length = p.size := rfl
          split
          · have h2 := ihp ts (mt p t M).2 (fun x hx => h x (List.mem_cons_of_mem _ hx))
            omega
          · simp only
            omega
    intro p t M hm
    obtain ⟨k, s, n, ts⟩ := p
    have hz := Tm.size_eq (.mk k s n ts)
    have ha : (Tm.mk k s n ts).args = ts := rfl
    rw [ha] at hz
    rw [mt]
    split
    · split
      · simp only; omega
      · simp only [List.length_append, List.length_cons, List.length_nil]; omega
    · split
      · split
        · simp only; omega
        · split
          · have := ihs ts t.args M (fun x hx => by have := Tm.size_arg (t := .mk k s n ts) hx; omega)
            omega
          · simp only; omega
      · simp only; omega
theorem mts_len (ps ts : List Tm) (M : List (Int × Tm)) : (mts ps ts M).2.length ≤ M.length + (Tm.alls ps).length := by
  induction ps generalizing ts M with
  | nil => rw [mts]; simp
  | cons p ps ihp =>
    cases ts with
    | nil => rw [mts]; simp
    | cons t ts =>
      have h1 := mt_len p.size p t M (Nat.le_refl _)
      rw [mts, Tm.alls, List.length_append]
      have e : p.all.length = p.size := rfl
      split
      · have h2 := ihp ts (mt p t M).2
        omega
      · simp only
        omega
theorem bindsT_snoc (M : List (Int × Tm)) (x : Int × Tm) : bindsT (M ++ [x]) = bindsT M ++ [bindT x] := by simp [bindsT]
theorem rlook_no {M : List (Int × Tm)} {n : Int} (h : ∀ j y, j < M.length → M[j]? = some y → y.1 ≠ n) : look M n = none := by
  unfold look
  rw [Option.map_eq_none_iff, List.find?_eq_none]
  intro x hx
  obtain ⟨j, hj, rfl⟩ := List.getElem_of_mem hx
  simpa using h j _ hj (List.getElem?_eq_getElem hj)
theorem rlook_yes {M : List (Int × Tm)} {n : Int} {k : Nat} {x : Int × Tm} (hx : M[k]? = some x) (e : x.1 = n) (h : ∀ j y, j < k → M[j]? = some y → y.1 ≠ n) : look M n = some x.2 := by
  induction M generalizing k with
  | nil => simp at hx
  | cons z M ih =>
    cases k with
    | zero =>
      have hz : z = x := by simpa using hx
      subst hz
      simp [look, e]
    | succ k =>
      have hz : z.1 ≠ n := h 0 z (by omega) rfl
      have := ih (k := k) (by simpa using hx) (fun j y hj hy => h (j + 1) y (by omega) (by simpa using hy))
      unfold look at *
      rw [List.find?_cons, show (z.1 == n) = false by simpa using hz]
      exact this
/-- What a call of Match does. -/
def RMOut (w : World) (r : Bool × List (Int × Tm)) (e : Ending) (w' : World) : Prop :=
  ∃ a n c, e = .returned (.tuple #[.slice a n c, .bool r.1]) ∧ Below w.heap.size w w' ∧ MemW w' (.s 5 (bindsT r.2)) (.slice a n c)
def RM (p : Tm) : Prop := ∀ (t : Tm) (M : List (Int × Tm)) (ba pa ta : Option Addr) (bn bc pn pc tn tc : Nat) (w : World), MemW w (.s 5 (bindsT M)) (.slice ba bn bc) → MemW w (.s 4 (Tm.rows p.args)) (.slice pa pn pc) → MemW w (.s 4 (Tm.rows t.args)) (.slice ta tn tc) → M.length + p.size ≤ 500000 →
  Calls Try.prog 50 #[.slice ba bn bc, .agg #[.int .i64 p.kind, .string p.name, .int .i64 p.n, .slice pa pn pc], .agg #[.int .i64 t.kind, .string t.name, .int .i64 t.n, .slice ta tn tc]] w (RMOut w (mt p t M))
/-- One more, behind a full row. -/
theorem app_bindR {W0 wx : World} {M : List (Int × Tm)} {ba : Option Addr} {bn : Nat} {n : Int} {t : Tm} {ta : Option Addr} {tn tc : Nat} (hD : Dr (W0.alloc (.cells #[.int .i64 n, .int .i64 t.kind, .string t.name, .int .i64 t.n, .slice ta tn tc] 34)) wx) {G : Nat} (hG : G = W0.heap.size)
    (hM : MemW W0 (.s 5 (bindsT M)) (.slice ba bn bn)) (hT : MemW W0 (.s 4 (Tm.rows t.args)) (.slice ta tn tc)) (hn : bn ≤ 500000) :
    ∃ v' w', (Builtin.append_ #[31, 31] 31 #[.slice ba bn bn, .slice (some ⟨G, 0, none⟩) 1 1]).run Try.prog wx = .ok v' w' ∧ (∃ a' n' c', v' = .slice a' n' c' ∧ MemW w' (.s 5 (bindsT (M ++ [(n, t)]))) v' ∧ Below W0.heap.size W0 w') := by
  subst hG
  have hs : wx.heap.size = W0.heap.size + 1 := by rw [hD.1, World.size_alloc]
  have hB0 : Below W0.heap.size W0 wx := hD.below (below_new W0 _)
  have hO := own_row (row := bindT (n, t)) (cs := #[.int .i64 n, .int .i64 t.kind, .string t.name, .int .i64 t.n, .slice ta tn tc]) (e' := 34) rfl (OwnD.nil W0.heap.size W0.heap.size 34 5 W0) (Nat.le_refl _) (.cons (.v _ rfl) (row_mk t (hT.mono (fun b hb => ⟨⟨.inl hb, hb⟩, fun e => by cases e⟩) fun _ _ => rfl)))
  have hM2 : Mem (Nw W0.heap.size W0.heap.size wx.heap.size) wx (.s 5 [bindT (n, t)]) (.slice (some ⟨W0.heap.size, 0, none⟩) 1 1) := hO.mono (fun b hb => by rw [hs]; have := hb.1; rw [World.size_alloc] at this; exact this) fun b _ => by rw [hD.1]
  have hY : Mem (Nw W0.heap.size W0.heap.size wx.heap.size) wx (.s 5 (bindsT M)) (.slice ba bn bn) := hM.mono (fun b hb => ⟨.inl hb, by omega⟩) fun b hb => hB0.block b hb
  obtain ⟨v', w', hr, h2, h3, _⟩ := run_append_cut (P := Try.prog) 31 Try.underlying31 info_bindR rfl (by decide) hY hM2 (by decide) (by omega) (by omega) (by omega)
  obtain ⟨a', c', rfl, _, _⟩ := h2.form
  refine ⟨_, w', hr, a', _, c', rfl, by rw [bindsT_snoc]; exact h2.memW, hB0.trans (h3.mono (by omega))⟩

set_option maxRecDepth 100000 in
set_option maxHeartbeats 20000000 in
theorem rmatch_any (m : Nat) : ∀ p : Tm, p.size ≤ m → RM p := by
  induction m with
  | zero => intro p h; have := p.size_pos; omega
  | succ m ih =>
    intro p hm t M ba pa ta bn bc pn pc tn tc w hb hp ht hsz
    have HB0 := Lib.hid ((below_new w (.cells #[.int .i64 p.kind, .string p.name, .int .i64 p.n, .slice pa pn pc] 24)).alloc (below_new w (.cells #[.int .i64 p.kind, .string p.name, .int .i64 p.n, .slice pa pn pc] 24)).size (.cells #[.int .i64 t.kind, .string t.name, .int .i64 t.n, .slice ta tn tc] 24))
    have HX := Lib.hid ((Bo.new w 24 #[.int .i64 p.kind, .string p.name, .int .i64 p.n, .slice pa pn pc]).alloc (.cells #[.int .i64 t.kind, .string t.name, .int .i64 t.n, .slice ta tn tc] 24))
    have HY := Lib.hid (World.size_alloc w (.cells #[.int .i64 p.kind, .string p.name, .int .i64 p.n, .slice pa pn pc] 24) ▸ Bo.new (w.alloc (.cells #[.int .i64 p.kind, .string p.name, .int .i64 p.n, .slice pa pn pc] 24)) 24 #[.int .i64 t.kind, .string t.name, .int .i64 t.n, .slice ta tn tc])
    have HM2 := Lib.hid (MemW.keep hb HB0.out)
    have HP2 := Lib.hid (MemW.keep hp HB0.out)
    have HT2 := Lib.hid (MemW.keep ht HB0.out)
    have hbl := hb.len
    rw [bindsT_len] at hbl
    have hpl := hp.len
    rw [Tm.rows_len] at hpl
    have htl := ht.len
    rw [Tm.rows_len] at htl
    have HSZ := Lib.hid hsz
    have HBL := Lib.hid hbl.1
    have hbcap := hbl.2.1
    have hbmx := hbl.2.2
    obtain ⟨x0, x1, x2, x3⟩ := HX.out.c4
    obtain ⟨y0, y1, y2, y3⟩ := HY.out.c4
    by_cases hk : p.kind = 3
    · have e1 : (p.kind == 3) = true := by rw [beq_iff_eq]; exact hk
      have HMT : Hid (mt p t M = match look M p.n with | some x => (cmpT x t == 0, M) | none => (true, M ++ [(p.n, t)])) := Lib.hid (by obtain ⟨k, s, n, ts⟩ := p; rw [mt]; exact if_pos hk)
      have hpz := p.size_pos
      clear hk hb hp ht hsz hbl hpl htl ih
      go_enter Try.func50, Try.ntmps50
      go_wp2
      clear x0 x1 x2 x3 y0 y1 y2 y3
      generalize hW : ((w.alloc (.cells #[.int .i64 p.kind, .string p.name, .int .i64 p.n, .slice pa pn pc] 24)).alloc (.cells #[.int .i64 t.kind, .string t.name, .int .i64 t.n, .slice ta tn tc] 24)) = wa at *
      have HS2 : Hid (wa.heap.size = w.heap.size + 2) := Lib.hid (by rw [← hW]; simp)
      clear hW
      go_loopw [17] (fun i wr => ∃ k : Nat, k ≤ bn ∧ i = .int .i64 k ∧ Hid (Below wa.heap.size wa wr) ∧ Hid (∀ j y, j < k → M[j]? = some y → y.1 ≠ p.n)) (fun i _ => bn - (intOf i).toNat)
      case atStart => exact ⟨0, Nat.zero_le _, rfl, Lib.hid (Below.refl _ _), Lib.hid (fun j y hj => absurd hj (Nat.not_lt_zero _))⟩
      case round =>
        obtain ⟨k, hk, rfl, HB, HN⟩ := hrel
        have HX1 := Lib.hid (HX.out.keep HB.out)
        have HY1 := Lib.hid (HY.out.keep HB.out)
        have hq1 := HX1.out.lt
        have hq2 := HY1.out.lt
        obtain ⟨x0, x1, x2, x3⟩ := HX1.out.c4
        obtain ⟨y0, y1, y2, y3⟩ := HY1.out.c4
        have HMR := Lib.hid (MemW.keep HM2.out HB.out)
        have HTR := Lib.hid (MemW.keep HT2.out HB.out)
        have HB2 := Lib.hid (HB0.out.trans (HB.out.mono HB0.out.size))
        by_cases hlt : k < bn
        · have hltz : (k : Int) < (bn : Int) := by omega
          obtain ⟨b, ob, x, ax, nx, cx, rfl, hbB, Hx, z0, z1, z2, z3, z4, GX⟩ := bindT_at HMR.out k hlt
          have HBA := Lib.hid (HB.out.alloc HB.out.size (.cells #[.int .i64 x.1, .int .i64 x.2.kind, .string x.2.name, .int .i64 x.2.n, .slice ax nx cx] 34))
          by_cases he : x.1 = p.n
          · have HL := Lib.hid (rlook_yes Hx.out he HN.out)
            have HF : Hid (mt p t M = (cmpT x.2 t == 0, M)) := Lib.hid (by rw [HMT.out, HL.out])
            have e2 : (x.1 == p.n) = true := by rw [beq_iff_eq]; exact he
            have HC := Lib.hid (compare3_any x.2 t (wr.alloc (.cells #[.int .i64 x.1, .int .i64 x.2.kind, .string x.2.name, .int .i64 x.2.n, .slice ax nx cx] 34)) ax ta nx tn cx tc (MemW.alloc GX.out (.cells #[.int .i64 x.1, .int .i64 x.2.kind, .string x.2.name, .int .i64 x.2.n, .slice ax nx cx] 34)) (MemW.alloc HTR.out (.cells #[.int .i64 x.1, .int .i64 x.2.kind, .string x.2.name, .int .i64 x.2.n, .slice ax nx cx] 34)))
            have HB3 := Lib.hid (HB2.out.alloc HB2.out.size (.cells #[.int .i64 x.1, .int .i64 x.2.kind, .string x.2.name, .int .i64 x.2.n, .slice ax nx cx] 34))
            have HMA := Lib.hid (MemW.alloc HMR.out (.cells #[.int .i64 x.1, .int .i64 x.2.kind, .string x.2.name, .int .i64 x.2.n, .slice ax nx cx] 34))
            clear he
            go_wp2_with fail
            refine HC.out.mono ?_
            rintro e w4 ⟨rfl, hb⟩
            have HB4 := Lib.hid (HB3.out.trans (hb.mono HB3.out.size))
            have HM4 := Lib.hid (MemW.keep HMA.out hb)
            clear hb
            generalize hr : cmpT x.2 t = r at *
            clear hr
            go_wp2_with fail
            go_ret2
            exact ⟨_, bn, bc, by rw [HF.out]; rfl, HB4.out, by rw [HF.out]; exact HM4.out⟩
          · have e2 : (x.1 == p.n) = false := by rw [beq_eq_false_iff_ne]; exact he
            have HN2 : Hid (∀ j y, j < k + 1 → M[j]? = some y → y.1 ≠ p.n) := Lib.hid fun j y hj hy => by
              by_cases e : j = k
              · subst e
                rw [Hx.out] at hy
                rw [← Option.some.inj hy]; exact he
              · exact HN.out j y (by omega) hy
            clear he
            go_wp2
            go_roundw
            case rel => exact ⟨k + 1, by omega, by go_num, HBA, HN2⟩
            case measure => simp [intOf]; omega
        · obtain rfl : k = bn := by omega
          have hltz : ¬ (k : Int) < (k : Int) := by omega
          have HF : Hid (mt p t M = (true, M ++ [(p.n, t)])) := Lib.hid (by rw [HMT.out, rlook_no (by rw [HBL.out]; exact HN.out)])
          have hkc : (k : Int) ≤ (bc : Int) := by omega
          have HMC : Hid (MemW wr (.s 5 (bindsT M)) (.slice ba k k)) := Lib.hid (by
            have h1 := Mem.take k (Nat.le_refl _) HMR.out k (Nat.le_refl _) hbcap
            rwa [List.take_of_length_le (by rw [bindsT_len, HBL.out]; exact Nat.le_refl _)] at h1)
          have HK5 : Hid (k ≤ 500000) := Lib.hid (by have := HSZ.out; have := HBL.out; omega)
          go_wp2
          go_region_held3 (fun w' => (w'.cell? ⟨w.heap.size, 0, none⟩ = some (.int .i64 p.kind) ∧ w'.cell? ⟨w.heap.size, 1, none⟩ = some (.string p.name) ∧ w'.cell? ⟨w.heap.size, 2, none⟩ = some (.int .i64 p.n) ∧ w'.cell? ⟨w.heap.size, 3, none⟩ = some (.slice pa pn pc) ∧ w'.cell? ⟨w.heap.size + 1, 0, none⟩ = some (.int .i64 t.kind) ∧ w'.cell? ⟨w.heap.size + 1, 1, none⟩ = some (.string t.name) ∧ w'.cell? ⟨w.heap.size + 1, 2, none⟩ = some (.int .i64 t.n) ∧ w'.cell? ⟨w.heap.size + 1, 3, none⟩ = some (.slice ta tn tc)))
            ((repeat' apply And.intro) <;> (repeat (first | with_reducible assumption | with_reducible refine cell_drew ?_ | with_reducible refine cell_alloc _ ?_ | with_reducible refine cell_row_far _ ?_ (by omega) | with_reducible refine cell_below ?_ HB6.out)))
            (first
              | (refine stepx_app (by rfl) (.tmp 38) (.tmp 43) (by rfl) (by rfl) (by rfl) (app_bindR (W0 := wr) (M := M) (n := p.n) (t := t) (by exact ⟨rfl, rfl, rfl, rfl⟩) rfl HMC.out HTR.out HK5.out) ?_
                 rintro v6 w6 ⟨a6, n6, c6, rfl, hm6, hb6⟩
                 have HM6 := Lib.hid hm6
                 have HB6 := Lib.hid hb6
                 clear hm6 hb6)
              | fail)
          all_goals go_wp2
          all_goals go_ret2
          all_goals exact ⟨a6, n6, c6, by rw [HF.out]; rfl, HB2.out.trans (HB6.out.mono HB2.out.size), by rw [HF.out]; exact HM6.out⟩
    · have e1 : (p.kind == 3) = false := by rw [beq_eq_false_iff_ne]; exact hk
      have HM0 : Hid (mt p t M = if p.kind = t.kind ∧ p.n = t.n ∧ p.name = t.name then (if p.kind = 2 then (true, M) else if p.args.length = t.args.length then mts p.args t.args M else (false, M)) else (false, M)) := Lib.hid (by obtain ⟨k, s, n, ts⟩ := p; rw [mt]; exact if_neg hk)
      by_cases g1 : p.kind = t.kind
      case neg =>
        have HMT : Hid (mt p t M = (false, M)) := Lib.hid (by rw [HM0.out, if_neg (fun h => g1 h.1)])
        have e2 : (p.kind != t.kind) = true := by rw [bne_iff_ne]; exact g1
        clear hk hb hp ht hsz ih HM0 g1
        go_enter Try.func50, Try.ntmps50
        go_wp2
        go_ret2
        exact ⟨ba, bn, bc, by rw [HMT.out]; rfl, HB0.out, by rw [HMT.out]; exact HM2.out⟩
      by_cases g2 : p.n = t.n
      case neg =>
        have HMT : Hid (mt p t M = (false, M)) := Lib.hid (by rw [HM0.out, if_neg (fun h => g2 h.2.1)])
        have e3 : (p.n != t.n) = true := by rw [bne_iff_ne]; exact g2
        clear hk hb hp ht hsz ih HM0 g2
        generalize p.kind = kp at *
        generalize t.kind = kt at *
        subst g1
        go_enter Try.func50, Try.ntmps50
        go_wp2
        go_ret2
        exact ⟨ba, bn, bc, by rw [HMT.out]; rfl, HB0.out, by rw [HMT.out]; exact HM2.out⟩
      by_cases g3 : p.name = t.name
      case neg =>
        have HMT : Hid (mt p t M = (false, M)) := Lib.hid (by rw [HM0.out, if_neg (fun h => g3 h.2.2)])
        have e4 : (p.name.toList == t.name.toList) = false := by rw [beq_eq_false_iff_ne]; intro e; rw [ByteArray.toList_eq, ByteArray.toList_eq] at e; exact g3 (congrArg ByteArray.mk (Array.toList_inj.1 e))
        clear hk hb hp ht hsz ih HM0 g3
        generalize p.kind = kp at *
        generalize t.kind = kt at *
        subst g1
        generalize p.n = np at *
        generalize t.n = nt at *
        subst g2
        go_enter Try.func50, Try.ntmps50
        go_wp2
        go_ret2
        exact ⟨ba, bn, bc, by rw [HMT.out]; rfl, HB0.out, by rw [HMT.out]; exact HM2.out⟩
      by_cases g4 : p.kind = 2
      · have HMT : Hid (mt p t M = (true, M)) := Lib.hid (by rw [HM0.out, if_pos ⟨g1, g2, g3⟩, if_pos g4])
        have e5 : (p.kind == 2) = true := by rw [beq_iff_eq]; exact g4
        clear hk hb hp ht hsz ih HM0 g4
        generalize p.kind = kp at *
        generalize t.kind = kt at *
        subst g1
        generalize p.n = np at *
        generalize t.n = nt at *
        subst g2
        generalize p.name = sp at *
        generalize t.name = st at *
        subst g3
        go_enter Try.func50, Try.ntmps50
        go_wp2
        go_ret2
        exact ⟨ba, bn, bc, by rw [HMT.out]; rfl, HB0.out, by rw [HMT.out]; exact HM2.out⟩
      · have e5 : (p.kind == 2) = false := by rw [beq_eq_false_iff_ne]; exact g4
        by_cases g5 : p.args.length = t.args.length
        case neg =>
          have HMT : Hid (mt p t M = (false, M)) := Lib.hid (by rw [HM0.out, if_pos ⟨g1, g2, g3⟩, if_neg g4, if_neg g5])
          have e6 : ((pn : Int) != (tn : Int)) = true := by rw [bne_iff_ne]; intro e; exact g5 (by omega)
          clear hk hb hp ht hsz ih HM0 g4 g5
          generalize p.kind = kp at *
          generalize t.kind = kt at *
          subst g1
          generalize p.n = np at *
          generalize t.n = nt at *
          subst g2
          generalize p.name = sp at *
          generalize t.name = st at *
          subst g3
          go_enter Try.func50, Try.ntmps50
          go_wp2
          go_ret2
          exact ⟨ba, bn, bc, by rw [HMT.out]; rfl, HB0.out, by rw [HMT.out]; exact HM2.out⟩
        have HMT : Hid (mt p t M = mts p.args t.args M) := Lib.hid (by rw [HM0.out, if_pos ⟨g1, g2, g3⟩, if_neg g4, if_pos g5])
        have HG5 := Lib.hid g5
        obtain rfl : pn = tn := by omega
        have e6 : ((pn : Int) != (pn : Int)) = false := by simp
        have HPL := Lib.hid hpl.1
        have HTL := Lib.hid htl.1
        have hpc := hpl.2.1
        have hpm := hpl.2.2
        have htc := htl.2.1
        have htm := htl.2.2
        have HPS : Hid (M.length + (Tm.alls p.args).length ≤ 500000) := Lib.hid (by have := p.size_eq; omega)
        have IH := Lib.hid (show ∀ x ∈ p.args, RM x from fun x hx => ih x (by have := Tm.size_arg hx; omega))
        clear hk hb hp ht hsz hpl htl hbl ih HM0 g4 g5
        generalize p.kind = kp at *
        generalize t.kind = kt at *
        subst g1
        generalize p.n = np at *
        generalize t.n = nt at *
        subst g2
        generalize p.name = sp at *
        generalize t.name = st at *
        subst g3
        go_enter Try.func50, Try.ntmps50
        go_wp2
        clear x0 x1 x2 x3 y0 y1 y2 y3
        generalize hW : ((w.alloc (.cells #[.int .i64 kp, .string sp, .int .i64 np, .slice pa pn pc] 24)).alloc (.cells #[.int .i64 kp, .string sp, .int .i64 np, .slice ta pn tc] 24)) = wa at *
        clear hW
        go_loopw [0, 10, 80] (fun v0 v10 i wr => ∃ (k : Nat) (a0 : Option Addr) (n0 c0 : Nat), k ≤ pn ∧ i = .int .i64 k ∧ v0 = .slice a0 n0 c0 ∧ v10 = .bool true ∧ Hid (Below wa.heap.size wa wr) ∧ Hid ((mts (p.args.take k) (t.args.take k) M).1 = true) ∧ Hid (MemW wr (.s 5 (bindsT (mts (p.args.take k) (t.args.take k) M).2)) (.slice a0 n0 c0))) (fun _ _ i _ => pn - (intOf i).toNat)
        case atStart => exact ⟨0, ba, bn, bc, Nat.zero_le _, rfl, rfl, rfl, Lib.hid (Below.refl _ _), Lib.hid (by rw [List.take_zero, mts]), Lib.hid (by rw [List.take_zero, mts]; exact HM2.out)⟩
        case round =>
          obtain ⟨k, a0, n0, c0, hk, rfl, rfl, rfl, HB, HT, HM⟩ := hrel
          have HX1 := Lib.hid (HX.out.keep HB.out)
          have HY1 := Lib.hid (HY.out.keep HB.out)
          have hq1 := HX1.out.lt
          have hq2 := HY1.out.lt
          obtain ⟨x0, x1, x2, x3⟩ := HX1.out.c4
          obtain ⟨y0, y1, y2, y3⟩ := HY1.out.c4
          have HB2 := Lib.hid (HB0.out.trans (HB.out.mono HB0.out.size))
          by_cases hlt : k < pn
          · have hltz : (k : Int) < (pn : Int) := by omega
            obtain ⟨b1, o1, x, ax, nx, cx, rfl, hbB1, Hx, u0, u1, u2, u3, GX⟩ := tm_at (MemW.keep HP2.out HB.out) k hlt
            obtain ⟨b2, o2, y, ay, ny, cy, rfl, hbB2, Hy, v0, v1, v2, v3, GY⟩ := tm_at (MemW.keep HT2.out HB.out) k hlt
            have HAT := Lib.hid (mts_at (M := M) Hx.out Hy.out HG5.out HT.out)
            have HSZ2 : Hid ((mts (p.args.take k) (t.args.take k) M).2.length + x.size ≤ 500000) := Lib.hid (by
              have h1 := mts_len (p.args.take k) (t.args.take k) M
              have h2 := Tm.alls_le (ts := p.args) (k + 1)
              rw [Tm.alls_at Hx.out, List.length_append] at h2
              have h3 : x.all.length = x.size := rfl
              have := HPS.out
              omega)
            have HC := Lib.hid (IH.out x (mem_of_at Hx.out) y _ a0 ax ay n0 c0 nx cx ny cy wr.drew (MemW.drew HM.out) (MemW.drew GX.out) (MemW.drew GY.out) HSZ2.out)
            have HST : Hid ((mts (p.args.take (k + 1)) (t.args.take (k + 1)) M).1 = false → mts p.args t.args M = (false, (mts (p.args.take (k + 1)) (t.args.take (k + 1)) M).2)) := Lib.hid (mts_stop HG5.out)
            rw [HAT.out] at HST
            generalize hR : mt x y (mts (p.args.take k) (t.args.take k) M).2 = R at *
            clear hR HM HSZ2 GX GY
            have HCUR := Lib.hid (HB.out.trans ((below_drew wr).mono HB.out.size))
            obtain ⟨r1, rM⟩ := R
            cases r1 with
            | true =>
              go_wp2
              refine wp_region_held_drew (S := fun w' => Below (wr).heap.size (wr) w') (by kernel_rfl) (below_drew _) (fun hS0 => ?_)
              refine takeL 0 (v := ?_) rfl (by kernel_rfl) (by kernel_rfl) (by kernel_rfl) (fun _ _ _ h => h) (by rfl) ?_ (by assumption) ?_
              rotate_left
              · (intro w hSw; (try dsimp only at hSw); replace x0 := cell_below x0 hSw; replace x1 := cell_below x1 hSw; replace x2 := cell_below x2 hSw; replace x3 := cell_below x3 hSw; replace y0 := cell_below y0 hSw; replace y1 := cell_below y1 hSw; replace y2 := cell_below y2 hSw; replace y3 := cell_below y3 hSw; replace u0 := cell_below u0 hSw; replace u1 := cell_below u1 hSw; replace u2 := cell_below u2 hSw; replace u3 := cell_below u3 hSw; replace v0 := cell_below v0 hSw; replace v1 := cell_below v1 hSw; replace v2 := cell_below v2 hSw; replace v3 := cell_below v3 hSw; go_simp; try with_reducible rfl)
              try simp only [Act.put, List.setIfInBounds_toArray, List.set_cons_zero, List.set_cons_succ]
              refine takeL 1 (v := ?_) rfl (by kernel_rfl) (by kernel_rfl) (by kernel_rfl) (fun _ _ _ h => h) (by rfl) ?_ (by assumption) ?_
              rotate_left
              · (intro w hSw; (try dsimp only at hSw); replace x0 := cell_below x0 hSw; replace x1 := cell_below x1 hSw; replace x2 := cell_below x2 hSw; replace x3 := cell_below x3 hSw; replace y0 := cell_below y0 hSw; replace y1 := cell_below y1 hSw; replace y2 := cell_below y2 hSw; replace y3 := cell_below y3 hSw; replace u0 := cell_below u0 hSw; replace u1 := cell_below u1 hSw; replace u2 := cell_below u2 hSw; replace u3 := cell_below u3 hSw; replace v0 := cell_below v0 hSw; replace v1 := cell_below v1 hSw; replace v2 := cell_below v2 hSw; replace v3 := cell_below v3 hSw; go_simp; try with_reducible rfl)
              try simp only [Act.put, List.setIfInBounds_toArray, List.set_cons_zero, List.set_cons_succ]
              refine takeL 2 (v := ?_) rfl (by kernel_rfl) (by kernel_rfl) (by kernel_rfl) (fun _ _ _ h => h) (by rfl) ?_ (by assumption) ?_
              rotate_left
              · (intro w hSw; (try dsimp only at hSw); replace x0 := cell_below x0 hSw; replace x1 := cell_below x1 hSw; replace x2 := cell_below x2 hSw; replace x3 := cell_below x3 hSw; replace y0 := cell_below y0 hSw; replace y1 := cell_below y1 hSw; replace y2 := cell_below y2 hSw; replace y3 := cell_below y3 hSw; replace u0 := cell_below u0 hSw; replace u1 := cell_below u1 hSw; replace u2 := cell_below u2 hSw; replace u3 := cell_below u3 hSw; replace v0 := cell_below v0 hSw; replace v1 := cell_below v1 hSw; replace v2 := cell_below v2 hSw; replace v3 := cell_below v3 hSw; go_simp; try with_reducible rfl)
              try simp only [Act.put, List.setIfInBounds_toArray, List.set_cons_zero, List.set_cons_succ]
              refine takeL 3 (v := ?_) rfl (by kernel_rfl) (by kernel_rfl) (by kernel_rfl) (fun _ _ _ h => h) (by rfl) ?_ (by assumption) ?_
              rotate_left
              · (intro w hSw; (try dsimp only at hSw); replace x0 := cell_below x0 hSw; replace x1 := cell_below x1 hSw; replace x2 := cell_below x2 hSw; replace x3 := cell_below x3 hSw; replace y0 := cell_below y0 hSw; replace y1 := cell_below y1 hSw; replace y2 := cell_below y2 hSw; replace y3 := cell_below y3 hSw; replace u0 := cell_below u0 hSw; replace u1 := cell_below u1 hSw; replace u2 := cell_below u2 hSw; replace u3 := cell_below u3 hSw; replace v0 := cell_below v0 hSw; replace v1 := cell_below v1 hSw; replace v2 := cell_below v2 hSw; replace v3 := cell_below v3 hSw; go_simp; try with_reducible rfl)
              try simp only [Act.put, List.setIfInBounds_toArray, List.set_cons_zero, List.set_cons_succ]
              refine takeL 4 (v := ?_) rfl (by kernel_rfl) (by kernel_rfl) (by kernel_rfl) (fun _ _ _ h => h) (by rfl) ?_ (by assumption) ?_
              rotate_left
              · (intro w hSw; (try dsimp only at hSw); replace x0 := cell_below x0 hSw; replace x1 := cell_below x1 hSw; replace x2 := cell_below x2 hSw; replace x3 := cell_below x3 hSw; replace y0 := cell_below y0 hSw; replace y1 := cell_below y1 hSw; replace y2 := cell_below y2 hSw; replace y3 := cell_below y3 hSw; replace u0 := cell_below u0 hSw; replace u1 := cell_below u1 hSw; replace u2 := cell_below u2 hSw; replace u3 := cell_below u3 hSw; replace v0 := cell_below v0 hSw; replace v1 := cell_below v1 hSw; replace v2 := cell_below v2 hSw; replace v3 := cell_below v3 hSw; go_simp; try with_reducible rfl)
              try simp only [Act.put, List.setIfInBounds_toArray, List.set_cons_zero, List.set_cons_succ]
              refine takeL 5 (v := ?_) rfl (by kernel_rfl) (by kernel_rfl) (by kernel_rfl) (fun _ _ _ h => h) (by rfl) ?_ (by assumption) ?_
              rotate_left
              · (intro w hSw; (try dsimp only at hSw); replace x0 := cell_below x0 hSw; replace x1 := cell_below x1 hSw; replace x2 := cell_below x2 hSw; replace x3 := cell_below x3 hSw; replace y0 := cell_below y0 hSw; replace y1 := cell_below y1 hSw; replace y2 := cell_below y2 hSw; replace y3 := cell_below y3 hSw; replace u0 := cell_below u0 hSw; replace u1 := cell_below u1 hSw; replace u2 := cell_below u2 hSw; replace u3 := cell_below u3 hSw; replace v0 := cell_below v0 hSw; replace v1 := cell_below v1 hSw; replace v2 := cell_below v2 hSw; replace v3 := cell_below v3 hSw; go_simp; try with_reducible rfl)
              try simp only [Act.put, List.setIfInBounds_toArray, List.set_cons_zero, List.set_cons_succ]
              refine takeL 6 (v := ?_) rfl (by kernel_rfl) (by kernel_rfl) (by kernel_rfl) (fun _ _ _ h => h) (by rfl) ?_ (by assumption) ?_
              rotate_left
              · (intro w hSw; (try dsimp only at hSw); replace x0 := cell_below x0 hSw; replace x1 := cell_below x1 hSw; replace x2 := cell_below x2 hSw; replace x3 := cell_below x3 hSw; replace y0 := cell_below y0 hSw; replace y1 := cell_below y1 hSw; replace y2 := cell_below y2 hSw; replace y3 := cell_below y3 hSw; replace u0 := cell_below u0 hSw; replace u1 := cell_below u1 hSw; replace u2 := cell_below u2 hSw; replace u3 := cell_below u3 hSw; replace v0 := cell_below v0 hSw; replace v1 := cell_below v1 hSw; replace v2 := cell_below v2 hSw; replace v3 := cell_below v3 hSw; go_simp; try with_reducible rfl)
              try simp only [Act.put, List.setIfInBounds_toArray, List.set_cons_zero, List.set_cons_succ]
              refine takeL 7 (v := ?_) rfl (by kernel_rfl) (by kernel_rfl) (by kernel_rfl) (fun _ _ _ h => h) (by rfl) ?_ (by assumption) ?_
              rotate_left
              · (intro w hSw; (try dsimp only at hSw); replace x0 := cell_below x0 hSw; replace x1 := cell_below x1 hSw; replace x2 := cell_below x2 hSw; replace x3 := cell_below x3 hSw; replace y0 := cell_below y0 hSw; replace y1 := cell_below y1 hSw; replace y2 := cell_below y2 hSw; replace y3 := cell_below y3 hSw; replace u0 := cell_below u0 hSw; replace u1 := cell_below u1 hSw; replace u2 := cell_below u2 hSw; replace u3 := cell_below u3 hSw; replace v0 := cell_below v0 hSw; replace v1 := cell_below v1 hSw; replace v2 := cell_below v2 hSw; replace v3 := cell_below v3 hSw; go_simp; try with_reducible rfl)
              try simp only [Act.put, List.setIfInBounds_toArray, List.set_cons_zero, List.set_cons_succ]
              refine takeL 8 (v := ?_) rfl (by kernel_rfl) (by kernel_rfl) (by kernel_rfl) (fun _ _ _ h => h) (by rfl) ?_ (by assumption) ?_
              rotate_left
              · (intro w hSw; (try dsimp only at hSw); replace x0 := cell_below x0 hSw; replace x1 := cell_below x1 hSw; replace x2 := cell_below x2 hSw; replace x3 := cell_below x3 hSw; replace y0 := cell_below y0 hSw; replace y1 := cell_below y1 hSw; replace y2 := cell_below y2 hSw; replace y3 := cell_below y3 hSw; replace u0 := cell_below u0 hSw; replace u1 := cell_below u1 hSw; replace u2 := cell_below u2 hSw; replace u3 := cell_below u3 hSw; replace v0 := cell_below v0 hSw; replace v1 := cell_below v1 hSw; replace v2 := cell_below v2 hSw; replace v3 := cell_below v3 hSw; go_simp; try with_reducible rfl)
              try simp only [Act.put, List.setIfInBounds_toArray, List.set_cons_zero, List.set_cons_succ]
              refine takeL 9 (v := ?_) rfl (by kernel_rfl) (by kernel_rfl) (by kernel_rfl) (fun _ _ _ h => h) (by rfl) ?_ (by assumption) ?_
              rotate_left
              · (intro w hSw; (try dsimp only at hSw); replace x0 := cell_below x0 hSw; replace x1 := cell_below x1 hSw; replace x2 := cell_below x2 hSw; replace x3 := cell_below x3 hSw; replace y0 := cell_below y0 hSw; replace y1 := cell_below y1 hSw; replace y2 := cell_below y2 hSw; replace y3 := cell_below y3 hSw; replace u0 := cell_below u0 hSw; replace u1 := cell_below u1 hSw; replace u2 := cell_below u2 hSw; replace u3 := cell_below u3 hSw; replace v0 := cell_below v0 hSw; replace v1 := cell_below v1 hSw; replace v2 := cell_below v2 hSw; replace v3 := cell_below v3 hSw; go_simp; try with_reducible rfl)
              try simp only [Act.put, List.setIfInBounds_toArray, List.set_cons_zero, List.set_cons_succ]
              refine takeL 10 (v := ?_) rfl (by kernel_rfl) (by kernel_rfl) (by kernel_rfl) (fun _ _ _ h => h) (by rfl) ?_ (by assumption) ?_
              rotate_left
              · (intro w hSw; (try dsimp only at hSw); replace x0 := cell_below x0 hSw; replace x1 := cell_below x1 hSw; replace x2 := cell_below x2 hSw; replace x3 := cell_below x3 hSw; replace y0 := cell_below y0 hSw; replace y1 := cell_below y1 hSw; replace y2 := cell_below y2 hSw; replace y3 := cell_below y3 hSw; replace u0 := cell_below u0 hSw; replace u1 := cell_below u1 hSw; replace u2 := cell_below u2 hSw; replace u3 := cell_below u3 hSw; replace v0 := cell_below v0 hSw; replace v1 := cell_below v1 hSw; replace v2 := cell_below v2 hSw; replace v3 := cell_below v3 hSw; go_simp; try with_reducible rfl)
              try simp only [Act.put, List.setIfInBounds_toArray, List.set_cons_zero, List.set_cons_succ]
              refine callL 11 rfl (by kernel_rfl) (by rfl) (fun K hK => ?_)
              go_simp
              refine (HC.out).mono ?_
              rintro e wx1 ⟨a4, n4, c4, rfl, hb, hm⟩
              have HC1 := Lib.hid hb
              have HCUR := Lib.hid (Below.to HCUR.out hb)
              have HM4 := Lib.hid hm
              clear hm
              clear hb
              go_simp
              refine hK.out _ _ ?_ (fun hS1 => ?_)
              · exact Below.to hS0 HC1.out
              clear hK K
              refine takeL 12 (v := ?_) rfl (by kernel_rfl) (by kernel_rfl) (by kernel_rfl) (fun _ _ _ h => h) (by rfl) ?_ (by assumption) ?_
              rotate_left
              · (intro w hSw; (try dsimp only at hSw); replace x0 := cell_below x0 hSw; replace x1 := cell_below x1 hSw; replace x2 := cell_below x2 hSw; replace x3 := cell_below x3 hSw; replace y0 := cell_below y0 hSw; replace y1 := cell_below y1 hSw; replace y2 := cell_below y2 hSw; replace y3 := cell_below y3 hSw; replace u0 := cell_below u0 hSw; replace u1 := cell_below u1 hSw; replace u2 := cell_below u2 hSw; replace u3 := cell_below u3 hSw; replace v0 := cell_below v0 hSw; replace v1 := cell_below v1 hSw; replace v2 := cell_below v2 hSw; replace v3 := cell_below v3 hSw; go_simp; try with_reducible rfl)
              try simp only [Act.put, List.setIfInBounds_toArray, List.set_cons_zero, List.set_cons_succ]
              refine takeL 13 (v := ?_) rfl (by kernel_rfl) (by kernel_rfl) (by kernel_rfl) (fun _ _ _ h => h) (by rfl) ?_ (by assumption) ?_
              rotate_left
              · (intro w hSw; (try dsimp only at hSw); replace x0 := cell_below x0 hSw; replace x1 := cell_below x1 hSw; replace x2 := cell_below x2 hSw; replace x3 := cell_below x3 hSw; replace y0 := cell_below y0 hSw; replace y1 := cell_below y1 hSw; replace y2 := cell_below y2 hSw; replace y3 := cell_below y3 hSw; replace u0 := cell_below u0 hSw; replace u1 := cell_below u1 hSw; replace u2 := cell_below u2 hSw; replace u3 := cell_below u3 hSw; replace v0 := cell_below v0 hSw; replace v1 := cell_below v1 hSw; replace v2 := cell_below v2 hSw; replace v3 := cell_below v3 hSw; go_simp; try with_reducible rfl)
              try simp only [Act.put, List.setIfInBounds_toArray, List.set_cons_zero, List.set_cons_succ]
              refine takeL 14 (v := ?_) rfl (by kernel_rfl) (by kernel_rfl) (by kernel_rfl) (fun _ _ _ h => h) (by rfl) ?_ (by assumption) ?_
              rotate_left
              · (intro w hSw; (try dsimp only at hSw); replace x0 := cell_below x0 hSw; replace x1 := cell_below x1 hSw; replace x2 := cell_below x2 hSw; replace x3 := cell_below x3 hSw; replace y0 := cell_below y0 hSw; replace y1 := cell_below y1 hSw; replace y2 := cell_below y2 hSw; replace y3 := cell_below y3 hSw; replace u0 := cell_below u0 hSw; replace u1 := cell_below u1 hSw; replace u2 := cell_below u2 hSw; replace u3 := cell_below u3 hSw; replace v0 := cell_below v0 hSw; replace v1 := cell_below v1 hSw; replace v2 := cell_below v2 hSw; replace v3 := cell_below v3 hSw; go_simp; try with_reducible rfl)
              try simp only [Act.put, List.setIfInBounds_toArray, List.set_cons_zero, List.set_cons_succ]
              refine takeL 15 (v := ?_) rfl (by kernel_rfl) (by kernel_rfl) (by kernel_rfl) (fun _ _ _ h => h) (by rfl) ?_ (by assumption) ?_
              rotate_left
              · (intro w hSw; (try dsimp only at hSw); replace x0 := cell_below x0 hSw; replace x1 := cell_below x1 hSw; replace x2 := cell_below x2 hSw; replace x3 := cell_below x3 hSw; replace y0 := cell_below y0 hSw; replace y1 := cell_below y1 hSw; replace y2 := cell_below y2 hSw; replace y3 := cell_below y3 hSw; replace u0 := cell_below u0 hSw; replace u1 := cell_below u1 hSw; replace u2 := cell_below u2 hSw; replace u3 := cell_below u3 hSw; replace v0 := cell_below v0 hSw; replace v1 := cell_below v1 hSw; replace v2 := cell_below v2 hSw; replace v3 := cell_below v3 hSw; go_simp; try with_reducible rfl)
              try simp only [Act.put, List.setIfInBounds_toArray, List.set_cons_zero, List.set_cons_succ]
              refine takeL 16 (v := ?_) rfl (by kernel_rfl) (by kernel_rfl) (by kernel_rfl) (fun _ _ _ h => h) (by rfl) ?_ (by assumption) ?_
              rotate_left
              · (intro w hSw; (try dsimp only at hSw); replace x0 := cell_below x0 hSw; replace x1 := cell_below x1 hSw; replace x2 := cell_below x2 hSw; replace x3 := cell_below x3 hSw; replace y0 := cell_below y0 hSw; replace y1 := cell_below y1 hSw; replace y2 := cell_below y2 hSw; replace y3 := cell_below y3 hSw; replace u0 := cell_below u0 hSw; replace u1 := cell_below u1 hSw; replace u2 := cell_below u2 hSw; replace u3 := cell_below u3 hSw; replace v0 := cell_below v0 hSw; replace v1 := cell_below v1 hSw; replace v2 := cell_below v2 hSw; replace v3 := cell_below v3 hSw; go_simp; try with_reducible rfl)
              try simp only [Act.put, List.setIfInBounds_toArray, List.set_cons_zero, List.set_cons_succ]
              refine wpAnyH_done (by kernel_rfl) ?_ _
              go_wp2_with fail
              go_roundw
              case rel => exact ⟨k + 1, a4, n4, c4, by omega, by go_num, rfl, rfl, HCUR, Lib.hid (by rw [HAT.out]), Lib.hid (by rw [HAT.out]; exact HM4.out)⟩
              case measure => simp [intOf]; omega
            | false =>
              have HF : Hid (mt p t M = (false, rM)) := Lib.hid (by rw [HMT.out, HST.out rfl])
              go_wp2
              refine wp_region_held_drew (S := fun w' => Below (wr).heap.size (wr) w') (by kernel_rfl) (below_drew _) (fun hS0 => ?_)
              refine takeL 0 (v := ?_) rfl (by kernel_rfl) (by kernel_rfl) (by kernel_rfl) (fun _ _ _ h => h) (by rfl) ?_ (by assumption) ?_
              rotate_left
              · (intro w hSw; (try dsimp only at hSw); replace x0 := cell_below x0 hSw; replace x1 := cell_below x1 hSw; replace x2 := cell_below x2 hSw; replace x3 := cell_below x3 hSw; replace y0 := cell_below y0 hSw; replace y1 := cell_below y1 hSw; replace y2 := cell_below y2 hSw; replace y3 := cell_below y3 hSw; replace u0 := cell_below u0 hSw; replace u1 := cell_below u1 hSw; replace u2 := cell_below u2 hSw; replace u3 := cell_below u3 hSw; replace v0 := cell_below v0 hSw; replace v1 := cell_below v1 hSw; replace v2 := cell_below v2 hSw; replace v3 := cell_below v3 hSw; go_simp; try with_reducible rfl)
              try simp only [Act.put, List.setIfInBounds_toArray, List.set_cons_zero, List.set_cons_succ]
              refine takeL 1 (v := ?_) rfl (by kernel_rfl) (by kernel_rfl) (by kernel_rfl) (fun _ _ _ h => h) (by rfl) ?_ (by assumption) ?_
              rotate_left
              · (intro w hSw; (try dsimp only at hSw); replace x0 := cell_below x0 hSw; replace x1 := cell_below x1 hSw; replace x2 := cell_below x2 hSw; replace x3 := cell_below x3 hSw; replace y0 := cell_below y0 hSw; replace y1 := cell_below y1 hSw; replace y2 := cell_below y2 hSw; replace y3 := cell_below y3 hSw; replace u0 := cell_below u0 hSw; replace u1 := cell_below u1 hSw; replace u2 := cell_below u2 hSw; replace u3 := cell_below u3 hSw; replace v0 := cell_below v0 hSw; replace v1 := cell_below v1 hSw; replace v2 := cell_below v2 hSw; replace v3 := cell_below v3 hSw; go_simp; try with_reducible rfl)
              try simp only [Act.put, List.setIfInBounds_toArray, List.set_cons_zero, List.set_cons_succ]
              refine takeL 2 (v := ?_) rfl (by kernel_rfl) (by kernel_rfl) (by kernel_rfl) (fun _ _ _ h => h) (by rfl) ?_ (by assumption) ?_
              rotate_left
              · (intro w hSw; (try dsimp only at hSw); replace x0 := cell_below x0 hSw; replace x1 := cell_below x1 hSw; replace x2 := cell_below x2 hSw; replace x3 := cell_below x3 hSw; replace y0 := cell_below y0 hSw; replace y1 := cell_below y1 hSw; replace y2 := cell_below y2 hSw; replace y3 := cell_below y3 hSw; replace u0 := cell_below u0 hSw; replace u1 := cell_below u1 hSw; replace u2 := cell_below u2 hSw; replace u3 := cell_below u3 hSw; replace v0 := cell_below v0 hSw; replace v1 := cell_below v1 hSw; replace v2 := cell_below v2 hSw; replace v3 := cell_below v3 hSw; go_simp; try with_reducible rfl)
              try simp only [Act.put, List.setIfInBounds_toArray, List.set_cons_zero, List.set_cons_succ]
              refine takeL 3 (v := ?_) rfl (by kernel_rfl) (by kernel_rfl) (by kernel_rfl) (fun _ _ _ h => h) (by rfl) ?_ (by assumption) ?_
              rotate_left
              · (intro w hSw; (try dsimp only at hSw); replace x0 := cell_below x0 hSw; replace x1 := cell_below x1 hSw; replace x2 := cell_below x2 hSw; replace x3 := cell_below x3 hSw; replace y0 := cell_below y0 hSw; replace y1 := cell_below y1 hSw; replace y2 := cell_below y2 hSw; replace y3 := cell_below y3 hSw; replace u0 := cell_below u0 hSw; replace u1 := cell_below u1 hSw; replace u2 := cell_below u2 hSw; replace u3 := cell_below u3 hSw; replace v0 := cell_below v0 hSw; replace v1 := cell_below v1 hSw; replace v2 := cell_below v2 hSw; replace v3 := cell_below v3 hSw; go_simp; try with_reducible rfl)
              try simp only [Act.put, List.setIfInBounds_toArray, List.set_cons_zero, List.set_cons_succ]
              refine takeL 4 (v := ?_) rfl (by kernel_rfl) (by kernel_rfl) (by kernel_rfl) (fun _ _ _ h => h) (by rfl) ?_ (by assumption) ?_
              rotate_left
              · (intro w hSw; (try dsimp only at hSw); replace x0 := cell_below x0 hSw; replace x1 := cell_below x1 hSw; replace x2 := cell_below x2 hSw; replace x3 := cell_below x3 hSw; replace y0 := cell_below y0 hSw; replace y1 := cell_below y1 hSw; replace y2 := cell_below y2 hSw; replace y3 := cell_below y3 hSw; replace u0 := cell_below u0 hSw; replace u1 := cell_below u1 hSw; replace u2 := cell_below u2 hSw; replace u3 := cell_below u3 hSw; replace v0 := cell_below v0 hSw; replace v1 := cell_below v1 hSw; replace v2 := cell_below v2 hSw; replace v3 := cell_below v3 hSw; go_simp; try with_reducible rfl)
              try simp only [Act.put, List.setIfInBounds_toArray, List.set_cons_zero, List.set_cons_succ]
              refine takeL 5 (v := ?_) rfl (by kernel_rfl) (by kernel_rfl) (by kernel_rfl) (fun _ _ _ h => h) (by rfl) ?_ (by assumption) ?_
              rotate_left
              · (intro w hSw; (try dsimp only at hSw); replace x0 := cell_below x0 hSw; replace x1 := cell_below x1 hSw; replace x2 := cell_below x2 hSw; replace x3 := cell_below x3 hSw; replace y0 := cell_below y0 hSw; replace y1 := cell_below y1 hSw; replace y2 := cell_below y2 hSw; replace y3 := cell_below y3 hSw; replace u0 := cell_below u0 hSw; replace u1 := cell_below u1 hSw; replace u2 := cell_below u2 hSw; replace u3 := cell_below u3 hSw; replace v0 := cell_below v0 hSw; replace v1 := cell_below v1 hSw; replace v2 := cell_below v2 hSw; replace v3 := cell_below v3 hSw; go_simp; try with_reducible rfl)
              try simp only [Act.put, List.setIfInBounds_toArray, List.set_cons_zero, List.set_cons_succ]
              refine takeL 6 (v := ?_) rfl (by kernel_rfl) (by kernel_rfl) (by kernel_rfl) (fun _ _ _ h => h) (by rfl) ?_ (by assumption) ?_
              rotate_left
              · (intro w hSw; (try dsimp only at hSw); replace x0 := cell_below x0 hSw; replace x1 := cell_below x1 hSw; replace x2 := cell_below x2 hSw; replace x3 := cell_below x3 hSw; replace y0 := cell_below y0 hSw; replace y1 := cell_below y1 hSw; replace y2 := cell_below y2 hSw; replace y3 := cell_below y3 hSw; replace u0 := cell_below u0 hSw; replace u1 := cell_below u1 hSw; replace u2 := cell_below u2 hSw; replace u3 := cell_below u3 hSw; replace v0 := cell_below v0 hSw; replace v1 := cell_below v1 hSw; replace v2 := cell_below v2 hSw; replace v3 := cell_below v3 hSw; go_simp; try with_reducible rfl)
              try simp only [Act.put, List.setIfInBounds_toArray, List.set_cons_zero, List.set_cons_succ]
              refine takeL 7 (v := ?_) rfl (by kernel_rfl) (by kernel_rfl) (by kernel_rfl) (fun _ _ _ h => h) (by rfl) ?_ (by assumption) ?_
              rotate_left
              · (intro w hSw; (try dsimp only at hSw); replace x0 := cell_below x0 hSw; replace x1 := cell_below x1 hSw; replace x2 := cell_below x2 hSw; replace x3 := cell_below x3 hSw; replace y0 := cell_below y0 hSw; replace y1 := cell_below y1 hSw; replace y2 := cell_below y2 hSw; replace y3 := cell_below y3 hSw; replace u0 := cell_below u0 hSw; replace u1 := cell_below u1 hSw; replace u2 := cell_below u2 hSw; replace u3 := cell_below u3 hSw; replace v0 := cell_below v0 hSw; replace v1 := cell_below v1 hSw; replace v2 := cell_below v2 hSw; replace v3 := cell_below v3 hSw; go_simp; try with_reducible rfl)
              try simp only [Act.put, List.setIfInBounds_toArray, List.set_cons_zero, List.set_cons_succ]
              refine takeL 8 (v := ?_) rfl (by kernel_rfl) (by kernel_rfl) (by kernel_rfl) (fun _ _ _ h => h) (by rfl) ?_ (by assumption) ?_
              rotate_left
              · (intro w hSw; (try dsimp only at hSw); replace x0 := cell_below x0 hSw; replace x1 := cell_below x1 hSw; replace x2 := cell_below x2 hSw; replace x3 := cell_below x3 hSw; replace y0 := cell_below y0 hSw; replace y1 := cell_below y1 hSw; replace y2 := cell_below y2 hSw; replace y3 := cell_below y3 hSw; replace u0 := cell_below u0 hSw; replace u1 := cell_below u1 hSw; replace u2 := cell_below u2 hSw; replace u3 := cell_below u3 hSw; replace v0 := cell_below v0 hSw; replace v1 := cell_below v1 hSw; replace v2 := cell_below v2 hSw; replace v3 := cell_below v3 hSw; go_simp; try with_reducible rfl)
              try simp only [Act.put, List.setIfInBounds_toArray, List.set_cons_zero, List.set_cons_succ]
              refine takeL 9 (v := ?_) rfl (by kernel_rfl) (by kernel_rfl) (by kernel_rfl) (fun _ _ _ h => h) (by rfl) ?_ (by assumption) ?_
              rotate_left
              · (intro w hSw; (try dsimp only at hSw); replace x0 := cell_below x0 hSw; replace x1 := cell_below x1 hSw; replace x2 := cell_below x2 hSw; replace x3 := cell_below x3 hSw; replace y0 := cell_below y0 hSw; replace y1 := cell_below y1 hSw; replace y2 := cell_below y2 hSw; replace y3 := cell_below y3 hSw; replace u0 := cell_below u0 hSw; replace u1 := cell_below u1 hSw; replace u2 := cell_below u2 hSw; replace u3 := cell_below u3 hSw; replace v0 := cell_below v0 hSw; replace v1 := cell_below v1 hSw; replace v2 := cell_below v2 hSw; replace v3 := cell_below v3 hSw; go_simp; try with_reducible rfl)
              try simp only [Act.put, List.setIfInBounds_toArray, List.set_cons_zero, List.set_cons_succ]
              refine takeL 10 (v := ?_) rfl (by kernel_rfl) (by kernel_rfl) (by kernel_rfl) (fun _ _ _ h => h) (by rfl) ?_ (by assumption) ?_
              rotate_left
              · (intro w hSw; (try dsimp only at hSw); replace x0 := cell_below x0 hSw; replace x1 := cell_below x1 hSw; replace x2 := cell_below x2 hSw; replace x3 := cell_below x3 hSw; replace y0 := cell_below y0 hSw; replace y1 := cell_below y1 hSw; replace y2 := cell_below y2 hSw; replace y3 := cell_below y3 hSw; replace u0 := cell_below u0 hSw; replace u1 := cell_below u1 hSw; replace u2 := cell_below u2 hSw; replace u3 := cell_below u3 hSw; replace v0 := cell_below v0 hSw; replace v1 := cell_below v1 hSw; replace v2 := cell_below v2 hSw; replace v3 := cell_below v3 hSw; go_simp; try with_reducible rfl)
              try simp only [Act.put, List.setIfInBounds_toArray, List.set_cons_zero, List.set_cons_succ]
              refine callL 11 rfl (by kernel_rfl) (by rfl) (fun K hK => ?_)
              go_simp
              refine (HC.out).mono ?_
              rintro e wx1 ⟨a4, n4, c4, rfl, hb, hm⟩
              have HC1 := Lib.hid hb
              have HCUR := Lib.hid (Below.to HCUR.out hb)
              have HM4 := Lib.hid hm
              clear hm
              clear hb
              go_simp
              refine hK.out _ _ ?_ (fun hS1 => ?_)
              · exact Below.to hS0 HC1.out
              clear hK K
              refine takeL 12 (v := ?_) rfl (by kernel_rfl) (by kernel_rfl) (by kernel_rfl) (fun _ _ _ h => h) (by rfl) ?_ (by assumption) ?_
              rotate_left
              · (intro w hSw; (try dsimp only at hSw); replace x0 := cell_below x0 hSw; replace x1 := cell_below x1 hSw; replace x2 := cell_below x2 hSw; replace x3 := cell_below x3 hSw; replace y0 := cell_below y0 hSw; replace y1 := cell_below y1 hSw; replace y2 := cell_below y2 hSw; replace y3 := cell_below y3 hSw; replace u0 := cell_below u0 hSw; replace u1 := cell_below u1 hSw; replace u2 := cell_below u2 hSw; replace u3 := cell_below u3 hSw; replace v0 := cell_below v0 hSw; replace v1 := cell_below v1 hSw; replace v2 := cell_below v2 hSw; replace v3 := cell_below v3 hSw; go_simp; try with_reducible rfl)
              try simp only [Act.put, List.setIfInBounds_toArray, List.set_cons_zero, List.set_cons_succ]
              refine takeL 13 (v := ?_) rfl (by kernel_rfl) (by kernel_rfl) (by kernel_rfl) (fun _ _ _ h => h) (by rfl) ?_ (by assumption) ?_
              rotate_left
              · (intro w hSw; (try dsimp only at hSw); replace x0 := cell_below x0 hSw; replace x1 := cell_below x1 hSw; replace x2 := cell_below x2 hSw; replace x3 := cell_below x3 hSw; replace y0 := cell_below y0 hSw; replace y1 := cell_below y1 hSw; replace y2 := cell_below y2 hSw; replace y3 := cell_below y3 hSw; replace u0 := cell_below u0 hSw; replace u1 := cell_below u1 hSw; replace u2 := cell_below u2 hSw; replace u3 := cell_below u3 hSw; replace v0 := cell_below v0 hSw; replace v1 := cell_below v1 hSw; replace v2 := cell_below v2 hSw; replace v3 := cell_below v3 hSw; go_simp; try with_reducible rfl)
              try simp only [Act.put, List.setIfInBounds_toArray, List.set_cons_zero, List.set_cons_succ]
              refine takeL 14 (v := ?_) rfl (by kernel_rfl) (by kernel_rfl) (by kernel_rfl) (fun _ _ _ h => h) (by rfl) ?_ (by assumption) ?_
              rotate_left
              · (intro w hSw; (try dsimp only at hSw); replace x0 := cell_below x0 hSw; replace x1 := cell_below x1 hSw; replace x2 := cell_below x2 hSw; replace x3 := cell_below x3 hSw; replace y0 := cell_below y0 hSw; replace y1 := cell_below y1 hSw; replace y2 := cell_below y2 hSw; replace y3 := cell_below y3 hSw; replace u0 := cell_below u0 hSw; replace u1 := cell_below u1 hSw; replace u2 := cell_below u2 hSw; replace u3 := cell_below u3 hSw; replace v0 := cell_below v0 hSw; replace v1 := cell_below v1 hSw; replace v2 := cell_below v2 hSw; replace v3 := cell_below v3 hSw; go_simp; try with_reducible rfl)
              try simp only [Act.put, List.setIfInBounds_toArray, List.set_cons_zero, List.set_cons_succ]
              refine takeL 15 (v := ?_) rfl (by kernel_rfl) (by kernel_rfl) (by kernel_rfl) (fun _ _ _ h => h) (by rfl) ?_ (by assumption) ?_
              rotate_left
              · (intro w hSw; (try dsimp only at hSw); replace x0 := cell_below x0 hSw; replace x1 := cell_below x1 hSw; replace x2 := cell_below x2 hSw; replace x3 := cell_below x3 hSw; replace y0 := cell_below y0 hSw; replace y1 := cell_below y1 hSw; replace y2 := cell_below y2 hSw; replace y3 := cell_below y3 hSw; replace u0 := cell_below u0 hSw; replace u1 := cell_below u1 hSw; replace u2 := cell_below u2 hSw; replace u3 := cell_below u3 hSw; replace v0 := cell_below v0 hSw; replace v1 := cell_below v1 hSw; replace v2 := cell_below v2 hSw; replace v3 := cell_below v3 hSw; go_simp; try with_reducible rfl)
              try simp only [Act.put, List.setIfInBounds_toArray, List.set_cons_zero, List.set_cons_succ]
              refine takeL 16 (v := ?_) rfl (by kernel_rfl) (by kernel_rfl) (by kernel_rfl) (fun _ _ _ h => h) (by rfl) ?_ (by assumption) ?_
              rotate_left
              · (intro w hSw; (try dsimp only at hSw); replace x0 := cell_below x0 hSw; replace x1 := cell_below x1 hSw; replace x2 := cell_below x2 hSw; replace x3 := cell_below x3 hSw; replace y0 := cell_below y0 hSw; replace y1 := cell_below y1 hSw; replace y2 := cell_below y2 hSw; replace y3 := cell_below y3 hSw; replace u0 := cell_below u0 hSw; replace u1 := cell_below u1 hSw; replace u2 := cell_below u2 hSw; replace u3 := cell_below u3 hSw; replace v0 := cell_below v0 hSw; replace v1 := cell_below v1 hSw; replace v2 := cell_below v2 hSw; replace v3 := cell_below v3 hSw; go_simp; try with_reducible rfl)
              try simp only [Act.put, List.setIfInBounds_toArray, List.set_cons_zero, List.set_cons_succ]
              refine wpAnyH_done (by kernel_rfl) ?_ _
              have HB4 := Lib.hid (HB0.out.trans (HCUR.out.mono HB0.out.size))
              go_wp2_with fail
              go_ret2
              exact ⟨a4, n4, c4, by rw [HF.out]; rfl, HB4.out, by rw [HF.out]; exact HM4.out⟩
          · obtain rfl : k = pn := by omega
            have hltz : ¬ (k : Int) < (k : Int) := by omega
            have HF : Hid (mt p t M = (true, (mts (p.args.take k) (t.args.take k) M).2)) := Lib.hid (by
              rw [HMT.out]
              have h1 := HT.out
              rw [List.take_of_length_le (by rw [HPL.out]; exact Nat.le_refl _), List.take_of_length_le (by rw [HTL.out]; exact Nat.le_refl _)] at h1 ⊢
              rw [← h1])
            go_wp2
            go_ret2
            exact ⟨a0, n0, c0, by rw [HF.out]; rfl, HB2.out, by rw [HF.out]; exact HM.out⟩
end Go.Proofs.Ytmadfkofmehfkaa
