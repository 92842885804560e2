/-
  The document's Scan, walked: the tokens of a text, the error's number, and where. No condition but sizes.
-/
import Derived.Test.YtppejoccljfblaaRToken
namespace Go.Proofs.Ytppejoccljfblaa
open Go.RowKit
theorem store_pos {dst : Option Nat} {ty : TypeId} {pos : String} {after : Array Edge} {guard : Option (Nat × Bool)} {x y : Operand} {a : Act} {w : World} {K : Act → World → Prop} {Q : Exit → Act → World → Prop} (h : StOk 36 2 w (a.eval x) (a.eval y)) :
    Oper.wp Try.prog { dst := dst, op := .store 36 x y, type := ty, pos := pos, after := after, guard := guard } a w K Q = K (a.put dst undef) (w.setRow (stB (a.eval x)) (stC (a.eval y))) := wp_store_T rfl (by kernel_rfl) h
theorem stOk_pos {w : World} {g : Nat} {l c : Int} : StOk 36 2 w (.pointer (some ⟨g, 0, none⟩)) (.agg #[.int .i64 l, .int .i64 c]) = Wr w g 36 2 := stOk_eq rfl (by simp [Value.oneCell'])
attribute [local go_sem ↓] store_tok store_pos
attribute [local go_sem] stOk_tok stOk_pos stB_eq stC_eq wr_drew wr_alloc wr_row wr_drewN

theorem wpList_app_ex {P : Program} {ops : Array Oper} {rest : List Oper} {o : Oper} {a : Act} {w : World} {Q : Exit → Act → World → Prop} {v1 v2 : Value} {ts : Array TypeId} {R : Value → World → Prop} (hgd : o.guard = none) (s x : Operand)
    (ho : o.op = .call { callee := .builtin .append, args := #[s, x], argTypes := ts }) (hv : a.eval s = v1) (hx : a.eval x = v2) (hr : ∃ v w', (Builtin.append_ ts o.type #[v1, v2]).run P w = .ok v w' ∧ R v w') (h : ∀ v w', R v w' → wpList P ops Q rest (a.put o.dst v) w') : wpList P ops Q (o :: rest) a w := by
  obtain ⟨v, w', h1, h2⟩ := hr
  exact wpList_plain hgd fun _ hK => wp_app_eq s x ho hv hx h1 (hK _ _ (h v w' h2))

theorem Bo.t2 {w : World} {q : Nat} {t : TypeId} {c0 c1 : Value} (h : Bo w q t #[c0, c1]) : w.cell? ⟨q, 0, none⟩ = some c0 ∧ w.cell? ⟨q, 1, none⟩ = some c1 := ⟨h.cell rfl, h.cell rfl⟩
/-- How the document's Scan stands. -/
structure RxSt (w0 : World) (out : Value) (w : World) (ts : List Tok) : Prop where
  bel : Below w0.heap.size w0 w
  res : Bo w w0.heap.size 36 #[.int .i64 0, .int .i64 0]
  own : OwnT (w0.heap.size + 1) w out ts
theorem RxSt.keep {w0 : World} {out : Value} {w w' : World} {ts : List Tok} (h : RxSt w0 out w ts) (hb : Below w.heap.size w w') : RxSt w0 out w' ts := ⟨h.bel.trans (hb.mono h.bel.size), h.res.keep hb, h.own.keep hb⟩
theorem RxSt.dr {w0 : World} {out : Value} {w : World} {ts : List Tok} (h : RxSt w0 out w ts) : RxSt w0 out w.drew ts := ⟨Below.drew h.bel, h.res, h.own⟩
theorem RxSt.other {w0 : World} {out : Value} {w : World} {ts : List Tok} (h : RxSt w0 out w ts) {tb : Nat} (htb : w0.heap.size + 1 ≤ tb) (hne : out.ownBlock ≠ some tb) (j : Nat) (v : Value) : RxSt w0 out (w.setCell ⟨tb, j, none⟩ v) ts :=
  ⟨h.bel.setCell (p := ⟨tb, j, none⟩) (by show w0.heap.size ≤ tb; omega) v, h.res.far j v (by omega), h.own.grown (grownBy_setCell w tb j v) (fun k hk => by injection hk with hk; subst hk; exact hne)⟩
theorem RxSt.app {w0 : World} {out : Value} {W : World} {ts : List Tok} (h : RxSt w0 out W ts) (t : Tok) {m : Nat} (hm : ts.length = m) (hts : ts.length ≤ 100000) {G : Nat} (hG : W.heap.size = G) :
    ∃ v' w', (Builtin.append_ #[33, 33] 33 #[out, .slice (some ⟨G, 0, none⟩) 1 1]).run Try.prog (W.alloc (.cells (tokR t).toArray 46)) = .ok v' w' ∧ ((∃ a c, v' = .slice a (m + 1) c) ∧ RxSt w0 v' w' (ts ++ [t]) ∧
      ∀ tb ty cs, Bo W tb ty cs → out.ownBlock ≠ some tb → Bo w' tb ty cs ∧ v'.ownBlock ≠ some tb) := by
  subst hG; subst hm
  have hx := h.keep (below_new W (.cells (tokR t).toArray 46))
  have hb0 := h.bel.size
  have hrl := Bo.lt h.res
  obtain ⟨v', w', hr, ho, hg, hy⟩ := app_tok (t := t) (g := W.heap.size) 33 hx.own (fun j u hu => (Bo.new W 46 (tokR t).toArray).cell (by simpa using hu)) hts (by rw [World.size_alloc]; omega)
  have hob := hx.own.lt
  refine ⟨v', w', hr, (by obtain ⟨a, c, e, _⟩ := ho.form; exact ⟨a, c, by rw [e, List.length_append]; rfl⟩), ⟨grown_below hx.bel hg (Nat.le_refl _) (fun k hk => by have := (hob k hk).1; omega), Bo.grown hx.res hg (fun k hk e => by have := (hob k hk).1; omega), ho⟩, fun tb ty cs hb hne => ⟨Bo.grown (hb.alloc _) hg (fun k hk e => hne (by rw [hk, e])), fun e => ?_⟩⟩
  rcases hy with hy | hy
  · exact hne (hy ▸ e)
  · have := hy _ e; have := hb.lt; rw [World.size_alloc] at *; omega

theorem tokZ_tok {r : List UInt8} {k n : Int} {t : ByteArray} (h : tokZ r = (k, t, n)) (hk : k ≠ 0) : tokL r = some (k, t.data.toList, n) := by
  unfold tokZ at h
  split at h
  · rename_i k' t' n' h'
    simp only [Prod.mk.injEq] at h
    obtain ⟨h1, h2, h3⟩ := h
    subst h1; subst h3; rw [h', ← h2, str_data]
  · simp only [Prod.mk.injEq] at h
    exact absurd h.1.symm hk
theorem tokZ_no {r : List UInt8} {k n : Int} {t : ByteArray} (h : tokZ r = (k, t, n)) (hk : k = 0) : tokL r = none := by
  unfold tokZ at h
  split at h
  · rename_i k' t' n' h'
    have := (tokL_pre h').2.2
    simp only [Prod.mk.injEq] at h
    omega
  · assumption
/-- The tokens are read on. -/
theorem rx_next {s : ByteArray} {i l c : Nat} {ts : List Tok} {k n : Int} {t : ByteArray} (hall : addT ts (scanS (s.data.toList.drop i) l c) = scanB false s.data.toList 1 1) (ht : tokL (s.data.toList.drop i) = some (k, t.data.toList, n)) :
    addT (ts ++ ((if c = 1 then [(⟨1, str [], 0, l, c⟩ : Tok)] else []) ++ [⟨k, t, n, l, c⟩])) (scanB false (s.data.toList.drop (i + t.size)) l (c + t.size)) = scanB false s.data.toList 1 1 := by
  rw [← hall, scanS_tok _ _ ht, addT_add, List.drop_drop, length_data, show str t.data.toList = t from str_eta t]

set_option maxRecDepth 100000 in
set_option maxHeartbeats 2000000 in
theorem rscan_any (s : ByteArray) (w : World) (hs : s.size ≤ 1000000) :
    Calls Try.prog 22 #[.string s] w fun e w' => ∃ a n cap, e = .returned (.tuple #[.slice a n cap, .int .i64 (lexes s).1, .agg #[.int .i64 (lexes s).2.1, .int .i64 (lexes s).2.2.1]]) ∧ Below w.heap.size w w' ∧ Rd w'.heap.size w' a n cap 5 (tokVs (lexes s).2.2.2) := by
  by_cases hlong : 4096 < s.size
  · rw [lexes_long s hlong]
    have e1 : decide ((4096 : Int) < (s.size : Int)) = true := by rw [decide_eq_true_eq]; omega
    go_enter Try.func22, Try.ntmps22
    go_wp2
    exact bodyPost_ret (v := .tuple #[.slice none 0 0, .int .i64 11, .agg #[.int .i64 0, .int .i64 0]]) (by simp [results, Try.results22, go_sem]) rfl ⟨none, 0, 0, rfl, below_new _ _, rfl, Nat.le_refl _, by decide, .inl rfl⟩
  · have e1 : decide ((4096 : Int) < (s.size : Int)) = false := by rw [decide_eq_false_iff_not]; omega
    have HS0 : Hid (RxSt w (.slice none 0 0) (w.alloc (.cells #[.int .i64 0, .int .i64 0] 36)) []) := Lib.hid ⟨below_new _ _, Bo.new w 36 _, OwnT.nil _ _⟩
    go_enter Try.func22, Try.ntmps22
    go_wp2
    go_loopw [5, 6, 7, 8, 9, 10] (fun o ln cl ii _ _ wr => ∃ (i l c : Nat) (ts : List Tok), i ≤ s.size ∧ l ≤ i + 1 ∧ c ≤ i + 1 ∧ ts.length ≤ 2 * i ∧ ii = .int .i64 i ∧ ln = .int .i64 l ∧ cl = .int .i64 c ∧ (∃ a cp, o = .slice a ts.length cp) ∧ Hid (RxSt w o wr ts) ∧ Hid (addT ts (scanB false (s.data.toList.drop i) l c) = scanB false s.data.toList 1 1)) (fun _ _ _ ii _ _ _ => s.size - (intOf ii).toNat)
    case atStart => exact ⟨0, 1, 1, [], Nat.zero_le _, Nat.le_refl _, Nat.le_refl _, Nat.zero_le _, rfl, rfl, rfl, ⟨none, 0, rfl⟩, HS0, rfl⟩
    case round =>
      clear HS0
      obtain ⟨i, l, c, ts, hi, hl, hc, hts, rfl, rfl, rfl, ⟨oa, ocp, rfl⟩, HST, HALL⟩ := hrel
      by_cases hlt : i < s.size
      · have hlt' : (i : Int) < (s.size : Int) := by omega
        have hd : s.data.toList.drop i = s[i] :: s.data.toList.drop (i + 1) := by
          rw [List.drop_eq_getElem_cons (by rw [length_data]; exact hlt)]; rfl
        have HD := Lib.hid hd
        clear hd
        by_cases h10 : s[i] = 10
        · have g1 : ((s[i].toNat : Int) == 10) = true := by rw [h10]; rfl
          have HN : Hid (addT ts (scanB false (s.data.toList.drop (i + 1)) (l + 1) 1) = scanB false s.data.toList 1 1) := Lib.hid (by rw [← HALL.out, HD.out, h10, scanB_nl])
          clear h10
          go_wp2
          go_roundw
          case rel => exact ⟨i + 1, l + 1, 1, ts, by omega, by omega, by omega, by omega, by go_num, by go_num, rfl, ⟨_, _, rfl⟩, HST, HN⟩
          case measure => simp [intOf]; omega
        · have g1 : ((s[i].toNat : Int) == 10) = false := by rw [beq_eq_false_iff_ne]; exact fun e => h10 (UInt8.toNat_inj.1 (by show s[i].toNat = 10; omega))
          by_cases h32 : s[i] = 32
          · have g2 : ((s[i].toNat : Int) == 32) = true := by rw [h32]; rfl
            have HN : Hid (addT ts (scanB false (s.data.toList.drop (i + 1)) l (c + 1)) = scanB false s.data.toList 1 1) := Lib.hid (by rw [← HALL.out, HD.out, h32, scanB_sp])
            clear h32 h10
            go_wp2
            go_roundw
            case rel => exact ⟨i + 1, l, c + 1, ts, by omega, by omega, by omega, by omega, by go_num, rfl, by go_num, ⟨_, _, rfl⟩, HST, HN⟩
            case measure => simp [intOf]; omega
          · have g2 : ((s[i].toNat : Int) == 32) = false := by rw [beq_eq_false_iff_ne]; exact fun e => h32 (UInt8.toNat_inj.1 (by show s[i].toNat = 32; omega))
            have HSTARTS := Lib.hid (fun W => starts_any s ⟨#[45, 45]⟩ i W (Nat.le_of_lt hlt) hs (by decide))
            cases hpre : pre? [45, 45] (s.data.toList.drop i) with
            | true =>
              rw [show (⟨#[45, 45]⟩ : ByteArray).data.toList = [45, 45] from rfl, hpre] at HSTARTS
              have HC : Hid (addT ts (scanB true (s.data.toList.drop i) l c) = scanB false s.data.toList 1 1) := Lib.hid (by
                rw [← HALL.out]
                rw [HD.out] at hpre
                obtain ⟨hx, hy⟩ := (pre_two _ _).1 hpre
                rw [HD.out]
                cases hr : s.data.toList.drop (i + 1) with
                | nil => rw [hr] at hy; cases hy
                | cons y r =>
                  rw [hr] at hy
                  have hy' : y = 45 := by simpa using hy
                  rw [hx, hy', scanB_rem])
              clear hpre
              go_wp2_with (go_at_call 77 ; refine (HSTARTS.out _).mono ?_; rintro e w' ⟨rfl, rfl⟩)
              go_loop [7, 8] (fun cl ii => ∃ j cc : Nat, (j = i ∨ i < j) ∧ j ≤ s.size ∧ cc ≤ j + 1 ∧ ii = .int .i64 j ∧ cl = .int .i64 cc ∧ Hid (addT ts (scanB true (s.data.toList.drop j) l cc) = scanB false s.data.toList 1 1)) (fun _ ii => s.size - (intOf ii).toNat)
              case atStart => exact ⟨i, c, .inl rfl, hi, hc, rfl, rfl, HC⟩
              case round =>
                obtain ⟨j, cc, hji, hj, hcc, rfl, rfl, HJ⟩ := hrel
                by_cases hjl : j < s.size
                · have hjl' : (j : Int) < (s.size : Int) := by omega
                  have hdj : s.data.toList.drop j = s[j] :: s.data.toList.drop (j + 1) := by
                    rw [List.drop_eq_getElem_cons (by rw [length_data]; exact hjl)]; rfl
                  by_cases hn : s[j] = 10
                  · have g3 : ((s[j].toNat : Int) == 10) = true := by rw [hn]; rfl
                    have g3' : ((s[j].toNat : Int) != 10) = false := by rw [bne, g3]; rfl
                    have hij : i < j := by
                      rcases hji with h | h
                      · subst h; exact absurd hn h10
                      · exact h
                    have HN : Hid (addT ts (scanB false (s.data.toList.drop j) l cc) = scanB false s.data.toList 1 1) := Lib.hid (by rw [← HJ.out, hdj, hn, scanB_nl, scanB_nl])
                    clear hn hdj h10 h32
                    go_wp2
                    go_roundw
                    case rel => exact ⟨j, l, cc, ts, by omega, by omega, by omega, by omega, rfl, rfl, rfl, ⟨_, _, rfl⟩, HST, HN⟩
                    case measure => simp [intOf]; omega
                  · have g3 : ((s[j].toNat : Int) == 10) = false := by rw [beq_eq_false_iff_ne]; exact fun e => hn (UInt8.toNat_inj.1 (by show s[j].toNat = 10; omega))
                    have g3' : ((s[j].toNat : Int) != 10) = true := by rw [bne, g3]; rfl
                    have HN : Hid (addT ts (scanB true (s.data.toList.drop (j + 1)) l (cc + 1)) = scanB false s.data.toList 1 1) := Lib.hid (by rw [← HJ.out, hdj, scanB_on _ _ _ _ hn])
                    clear hn hdj h10 h32
                    go_wp2
                    go_round
                    case rel => exact ⟨j + 1, cc + 1, by omega, by omega, by omega, by go_num, by go_num, HN⟩
                    case measure => simp [intOf]; omega
                · have hjl' : ¬ (j : Int) < (s.size : Int) := by omega
                  have HN : Hid (addT ts (scanB false (s.data.toList.drop j) l cc) = scanB false s.data.toList 1 1) := Lib.hid (by rw [← HJ.out, List.drop_eq_nil_of_le (by rw [length_data]; omega), scanB_out])
                  have hij : i < j := by omega
                  go_wp2
                  go_roundw
                  case rel => exact ⟨j, l, cc, ts, by omega, by omega, by omega, by omega, rfl, rfl, rfl, ⟨_, _, rfl⟩, HST, HN⟩
                  case measure => simp [intOf]; omega
            | false =>
              rw [show (⟨#[45, 45]⟩ : ByteArray).data.toList = [45, 45] from rfl, hpre] at HSTARTS
              have HAT : Hid (addT ts (scanS (s.data.toList.drop i) l c) = scanB false s.data.toList 1 1) := Lib.hid (by
                rw [← HALL.out, scanB_at]
                rw [HD.out]
                refine skipG_here _ _ h10 h32 (fun hh => ?_)
                rw [HD.out, (pre_two _ _).2 hh] at hpre
                cases hpre)
              obtain ⟨k, t, n, htok⟩ : ∃ k t n, tokZ (s.data.toList.drop i) = (k, t, n) := ⟨_, _, _, rfl⟩
              have HTOK := Lib.hid htok
              clear hpre h10 h32 htok HALL
              by_cases hk0 : k = 0
              · have g3 : (k == 0) = true := by rw [beq_iff_eq]; exact hk0
                have HF : Hid (lexes s = (1, (l : Int), (c : Int), [])) := Lib.hid (lexes_bad s hlong (by rw [← HAT.out, scanS_bad _ _ (List.ne_nil_of_length_pos (by rw [List.length_drop, length_data]; omega)) (tokZ_no HTOK.out hk0)]; rfl))
                clear hk0
                go_wp2_with (first
                  | (go_at_call 77 ; refine (HSTARTS.out _).mono ?_; rintro e w' ⟨rfl, rfl⟩)
                  | (go_at_call 78
                     refine (rtoken_any s i _ hlt hs HTOK.out).mono ?_
                     rintro e w2 ⟨rfl, hb⟩
                     have HS2 := Lib.hid (HST.out.keep hb)
                     have HS2' := Lib.hid ((HS2.out.keep (below_new w2 (.cells #[.int .i64 k, .string t, .int .i64 n, .int .i64 0, .int .i64 0] 46))).keep (below_new _ (.cells #[.int .i64 l, .int .i64 c] 36)))
                     have yr : Wr ((w2.alloc (.cells #[.int .i64 k, .string t, .int .i64 n, .int .i64 0, .int .i64 0] 46)).alloc (.cells #[.int .i64 l, .int .i64 c] 36)) w.heap.size 36 2 := HS2'.out.res.wr
                     clear hb))
                go_region
                all_goals go_wp2
                have HE := Lib.hid ((Bo.drew HS2'.out.res).row #[.int .i64 l, .int .i64 c]).t2
                refine bodyPost_ret (v := .tuple #[.slice none 0 0, .int .i64 1, .agg #[.int .i64 l, .int .i64 c]]) (by simp [results, Try.results22, go_sem, HE.out]) rfl ⟨none, 0, 0, by rw [HF.out], ?_, ?_⟩
                · exact below_setRow (Below.drew HS2'.out.bel) (Nat.le_refl _) _
                · rw [HF.out]; exact ⟨rfl, Nat.le_refl _, by decide, .inl rfl⟩
              · have g3 : (k == 0) = false := by rw [beq_eq_false_iff_ne]; exact hk0
                have HNX := Lib.hid (rx_next HAT.out (tokZ_tok HTOK.out hk0))
                have hpos := (tokL_pre (tokZ_tok HTOK.out hk0)).1
                have hfit := (tokL_pre (tokZ_tok HTOK.out hk0)).2.1.length_le
                rw [length_data] at hpos
                rw [List.length_drop, length_data, length_data] at hfit
                have HTS5 : Hid (ts.length ≤ 100000) := Lib.hid (by omega)
                have HTS6 : Hid ((ts ++ [(⟨1, str [], 0, l, c⟩ : Tok)]).length ≤ 100000) := Lib.hid (by rw [List.length_append]; simp; omega)
                have hsum : (i : Int) + (t.size : Int) ≤ 1000000 := by omega
                have hsum2 : (c : Int) + (t.size : Int) ≤ 2000000 := by omega
                have tok1 : True := trivial
                clear hk0
                by_cases hc1 : c = 1
                · have g4 : ((c : Int) == 1) = true := by rw [beq_iff_eq]; omega
                  have hnx := HNX.out
                  rw [if_pos hc1, ← List.append_assoc] at hnx
                  have HNY := Lib.hid hnx
                  clear hc1 hnx
                  go_wp2_with (first
                    | (go_at_call 77 ; refine (HSTARTS.out _).mono ?_; rintro e w' ⟨rfl, rfl⟩)
                    | (go_at_call 78
                       refine (rtoken_any s i _ hlt hs HTOK.out).mono ?_
                       rintro e w2 ⟨rfl, hb⟩
                       have HS2 := Lib.hid (HST.out.keep hb)
                       have hz2 : w.heap.size + 1 ≤ w2.heap.size := by have := Bo.lt HS2.out.res; omega
                       have HNE : Hid ((Value.slice oa ts.length ocp).ownBlock ≠ some w2.heap.size) := Lib.hid (fun e => by have := (HS2.out.own.lt _ e).2; omega)
                       have HS3 : Hid (RxSt w (.slice oa ts.length ocp) ((w2.alloc (.cells #[.int .i64 k, .string t, .int .i64 n, .int .i64 l, .int .i64 c] 46)).alloc (.cells #[.int .i64 l, .int .i64 c] 36)) ts) := Lib.hid ((HS2.out.keep (below_new w2 _)).keep (below_new _ _))
                       have HT3 : Hid (Bo ((w2.alloc (.cells #[.int .i64 k, .string t, .int .i64 n, .int .i64 l, .int .i64 c] 46)).alloc (.cells #[.int .i64 l, .int .i64 c] 36)) w2.heap.size 46 #[.int .i64 k, .string t, .int .i64 n, .int .i64 l, .int .i64 c]) := Lib.hid ((Bo.new w2 46 _).alloc _)
                       have hz3 : (((w2.alloc (.cells #[.int .i64 k, .string t, .int .i64 n, .int .i64 l, .int .i64 c] 46)).alloc (.cells #[.int .i64 l, .int .i64 c] 36))).heap.size = w2.heap.size + 1 + 1 := by rw [World.size_alloc, World.size_alloc]
                       have HZ3 := Lib.hid hz3
                       clear hb hz3)
                    | (at_builtin
                       have _t := tok1
                       refine wpList_app_ex rfl _ _ rfl rfl rfl (HS3.out.app ⟨1, str [], 0, l, c⟩ rfl HTS5.out HZ3.out) ?_
                       rintro v' w5 ⟨⟨va5, vc5, rfl⟩, h5, hk5⟩
                       have HS5 := Lib.hid h5
                       have hk5' := hk5 _ _ _ HT3.out HNE.out
                       have HT5 := Lib.hid hk5'.1
                       have HN5 := Lib.hid hk5'.2
                       clear h5 hk5 hk5' tok1 _t
                       obtain ⟨d0, d1, d2, d3, d4⟩ := HT5.out.t5)
                    | (at_builtin
                       refine wpList_app_ex rfl _ _ rfl rfl rfl (HS5.out.app ⟨k, t, n, l, c⟩ (m := ts.length + 1) (List.length_append ..) HTS6.out rfl) ?_
                       rintro v' w6 ⟨⟨va6, vc6, rfl⟩, h6, hk6⟩
                       have HS6 := Lib.hid h6
                       have hk6' := hk6 _ _ _ HT5.out HN5.out
                       have HT6 := Lib.hid hk6'.1
                       clear h6 hk6 hk6'
                       obtain ⟨z0, z1, z2, z3, z4⟩ := HT6.out.t5))
                  go_roundw
                  case rel => exact ⟨i + t.size, l, c + t.size, ts ++ [⟨1, str [], 0, l, c⟩] ++ [⟨k, t, n, l, c⟩], by omega, by omega, by omega, by simp; omega, by go_num, rfl, by go_num, ⟨va6, vc6, by simp⟩, HS6, HNY⟩
                  case measure => simp [intOf]; omega
                · have g4 : ((c : Int) == 1) = false := by rw [beq_eq_false_iff_ne]; omega
                  have hnx := HNX.out
                  rw [if_neg hc1, List.nil_append] at hnx
                  have HNY := Lib.hid hnx
                  clear hc1 hnx
                  go_wp2_with (first
                    | (go_at_call 77 ; refine (HSTARTS.out _).mono ?_; rintro e w' ⟨rfl, rfl⟩)
                    | (go_at_call 78
                       refine (rtoken_any s i _ hlt hs HTOK.out).mono ?_
                       rintro e w2 ⟨rfl, hb⟩
                       have HS2 := Lib.hid (HST.out.keep hb)
                       have hz2 : w.heap.size + 1 ≤ w2.heap.size := by have := Bo.lt HS2.out.res; omega
                       have HNE : Hid ((Value.slice oa ts.length ocp).ownBlock ≠ some w2.heap.size) := Lib.hid (fun e => by have := (HS2.out.own.lt _ e).2; omega)
                       have HS3 : Hid (RxSt w (.slice oa ts.length ocp) ((w2.alloc (.cells #[.int .i64 k, .string t, .int .i64 n, .int .i64 l, .int .i64 c] 46)).alloc (.cells #[.int .i64 l, .int .i64 c] 36)) ts) := Lib.hid ((HS2.out.keep (below_new w2 _)).keep (below_new _ _))
                       have HT3 : Hid (Bo ((w2.alloc (.cells #[.int .i64 k, .string t, .int .i64 n, .int .i64 l, .int .i64 c] 46)).alloc (.cells #[.int .i64 l, .int .i64 c] 36)) w2.heap.size 46 #[.int .i64 k, .string t, .int .i64 n, .int .i64 l, .int .i64 c]) := Lib.hid ((Bo.new w2 46 _).alloc _)
                       have hz3 : (((w2.alloc (.cells #[.int .i64 k, .string t, .int .i64 n, .int .i64 l, .int .i64 c] 46)).alloc (.cells #[.int .i64 l, .int .i64 c] 36))).heap.size = w2.heap.size + 1 + 1 := by rw [World.size_alloc, World.size_alloc]
                       have HZ3 := Lib.hid hz3
                       clear hb hz3)
                    | (at_builtin
                       refine wpList_app_ex rfl _ _ rfl rfl rfl (HS3.out.app ⟨k, t, n, l, c⟩ rfl HTS5.out HZ3.out) ?_
                       rintro v' w6 ⟨⟨va6, vc6, rfl⟩, h6, hk6⟩
                       have HS6 := Lib.hid h6
                       have hk6' := hk6 _ _ _ HT3.out HNE.out
                       have HT6 := Lib.hid hk6'.1
                       clear h6 hk6 hk6'
                       obtain ⟨z0, z1, z2, z3, z4⟩ := HT6.out.t5))
                  go_roundw
                  case rel => exact ⟨i + t.size, l, c + t.size, ts ++ [⟨k, t, n, l, c⟩], by omega, by omega, by omega, by simp; omega, by go_num, rfl, by go_num, ⟨va6, vc6, by simp⟩, HS6, HNY⟩
                  case measure => simp [intOf]; omega
      · have hlt' : ¬ (i : Int) < (s.size : Int) := by omega
        have HF : Hid (lexes s = (0, 0, 0, ts ++ [⟨0, str [], 0, l, c⟩])) := Lib.hid (lexes_ok s hlong (by
          rw [← HALL.out, List.drop_eq_nil_of_le (by rw [length_data]; omega)]
          show addT ts (scanS [] l c) = _
          rw [scanS_nil]; rfl))
        have HTS5 : Hid (ts.length ≤ 100000) := Lib.hid (by omega)
        go_wp2_with (first
          | (at_builtin
             refine wpList_app_ex rfl _ _ rfl rfl rfl (HST.out.app ⟨0, str [], 0, l, c⟩ rfl HTS5.out rfl) ?_
             rintro v' w6 ⟨⟨va6, vc6, rfl⟩, h6, hk6⟩
             have HS6 := Lib.hid h6
             have yr : Wr w6 w.heap.size 36 2 := h6.res.wr
             clear h6 hk6))
        have HE := Lib.hid (HS6.out.res.row #[.int .i64 0, .int .i64 0]).t2
        have hrd := (HS6.out.own.row w.heap.size #[.int .i64 0, .int .i64 0] (Nat.lt_succ_self _)).form
        obtain ⟨a', c', hv, _, _, hrd⟩ := hrd
        simp only [List.length_append, List.length_cons, List.length_nil, Value.slice.injEq] at hv hrd
        obtain ⟨rfl, _, rfl⟩ := hv
        exact bodyPost_ret (v := .tuple #[.slice va6 (ts.length + 1) vc6, .int .i64 0, .agg #[.int .i64 0, .int .i64 0]]) (by simp [results, Try.results22, go_sem, HE.out]) rfl ⟨va6, ts.length + 1, vc6, by rw [HF.out], below_setRow HS6.out.bel (Nat.le_refl _) _, by rw [HF.out]; exact hrd⟩
end Go.Proofs.Ytppejoccljfblaa
