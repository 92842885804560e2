/-
  lex.Plain and lex.Same, walked. No condition but sizes.
-/
import Derived.Test.YtppejoccljfblaaLexItems
import Derived.Lib.LazyBuf
import Derived.Deep.AppendLies
namespace Go.Proofs.Ytppejoccljfblaa
open Go.RowKit
attribute [local go_sem ↓] store_tok
attribute [local go_sem] stOk_tok stB_eq stC_eq wr_drew wr_alloc wr_row wr_drewN
attribute [local go_sem] toList_beq

theorem tokVs_one' (ts : List Tok) : ∀ u ∈ tokVs ts, u.oneCell' = true := by
  intro u hu
  simp only [tokVs, List.mem_flatMap] at hu
  obtain ⟨t, _, hu⟩ := hu
  exact tokR_one t u hu
theorem app_all {base : Nat} {W : World} {y : Value} {us ts : List Tok} {b o n c : Nat} (ty : TypeId) (h : OwnT base W y us) (hR : Rd W.heap.size W (some ⟨b, o, none⟩) n c 5 (tokVs ts)) (hts : us.length + n ≤ 100000) (hbase : base ≤ W.heap.size) :
    ∃ v' w', (Builtin.append_ #[33, 33] ty #[y, .slice (some ⟨b, o, none⟩) n c]).run Try.prog W = .ok v' w' ∧ (OwnT base w' v' (us ++ ts) ∧ W.grownBy w' y.ownBlock) := by
  obtain ⟨i, hi, hz0, hz1, hz2⟩ := info_parts info_tok
  have hl := hR.tokLen
  obtain ⟨v', w', hr, ho, hgr, _⟩ := run_append_own (P := Try.prog) W base 33 ty 46 i _ 5 48 Try.underlying33 hi hz0 hz1 hz2 rfl (by decide) y us.length (tokVs us) h ⟨b, o, none⟩ n c (tokVs ts) hR.1 (fun j u hu => by
    have e : (⟨b, o, none⟩ : Addr).add j = ⟨b, o + j, none⟩ := by unfold Addr.add; split <;> simp_all
    rw [e]
    obtain ⟨h1, h2, h3, h4⟩ := hR
    have hj := (List.getElem?_eq_some_iff.1 hu).1
    rcases h4 with h4 | ⟨b', o', e', _, hc⟩
    · rw [h1, h4] at hj; omega
    · cases e'
      rw [hc j hj]; exact (List.getElem?_eq_some_iff.1 hu).2 ▸ rfl) (tokVs_one' ts) (by unfold maxLen; omega) (by omega) hbase
  refine ⟨v', w', hr, ?_, hgr⟩
  unfold OwnT
  rw [tokVs_app, List.length_append, hl]
  exact ho
set_option maxRecDepth 100000 in
set_option maxHeartbeats 2000000 in
theorem clone_any {B b o n cap : Nat} {ts : List Tok} (w : World) (h : Rd B w (some ⟨b, o, none⟩) n cap 5 (tokVs ts)) (hB : B ≤ w.heap.size) (hn : n ≤ 100000) :
    Calls Try.prog 158 #[.slice (some ⟨b, o, none⟩) n cap] w fun e w' => ∃ y, e = .returned y ∧ OwnT w.heap.size w' y ts ∧ Below w.heap.size w w' := by
  have H := Lib.hid (h.le hB)
  have HW0 := Lib.hid (World.ownsRow_lit (base := w.heap.size) (e := 46) (size := 5) w #[] 0 (Nat.le_refl _) (by decide) rfl)
  have HA := Lib.hid (app_all 33 (us := []) HW0.out ((H.out.mono (below_new w (.cells #[] 46))).le (by rw [World.size_alloc]; omega)) (by simpa using hn) (by rw [World.size_alloc]; omega))
  have hq := fun W : World => run_eql_slice_nil (P := Try.prog) W 33 46 (some ⟨b, o, none⟩) n cap Try.underlying33
  simp only [Option.isNone_some] at hq
  clear h hB
  go_enter Try.func158, Try.ntmps158
  go_wp2_with (first
    | (at_builtin
       refine wpList_app_ex rfl _ _ rfl rfl rfl HA.out ?_
       rintro v' w6 ⟨ho, hg⟩
       have HO := Lib.hid ho
       have HG := Lib.hid hg
       clear ho hg))
  go_ret
  exact ⟨_, rfl, HO.out, grown_below (below_new w _) HG.out (Nat.le_refl _) (fun k hk => by simp only [Value.ownBlock, Option.some.injEq] at hk; omega)⟩

/-- A token without its place. -/
def plT (t : Tok) : Tok := ⟨t.k, t.s, t.n, 0, 0⟩
theorem tokVs_cons (t : Tok) (ts : List Tok) : tokVs (t :: ts) = tokR t ++ tokVs ts := by simp [tokVs]
theorem tokVs_pl (us : List Tok) (k : Nat) (hk : k < us.length) : ((tokVs us).set (k * 5 + 3) (.int .i64 0)).set (k * 5 + 4) (.int .i64 0) = tokVs (us.set k (plT us[k])) := by
  induction us generalizing k with
  | nil => exact absurd hk (Nat.not_lt_zero _)
  | cons t us ih =>
    cases k with
    | zero =>
      rw [tokVs_cons, List.set_cons_zero, tokVs_cons]
      rfl
    | succ k =>
      rw [tokVs_cons, List.set_cons_succ, tokVs_cons]
      have e3 : (k + 1) * 5 + 3 = (tokR t).length + (k * 5 + 3) := by show _ = 5 + _; omega
      have e4 : (k + 1) * 5 + 4 = (tokR t).length + (k * 5 + 4) := by show _ = 5 + _; omega
      rw [e3, e4, List.set_append_right _ _ (by omega), List.set_append_right _ _ (by omega)]
      simp only [Nat.add_sub_cancel_left]
      have := ih k (by simpa using hk)
      rw [this]; rfl
theorem OwnT.pl {base g cap : Nat} {w : World} {us : List Tok} {n : Nat} (hn : us.length = n) (h : OwnT base w (.slice (some ⟨g, 0, none⟩) n cap) us) (k : Nat) (hk : k < us.length) :
    OwnT base ((w.setCell ⟨g, k * 5 + 3, none⟩ (.int .i64 0)).setCell ⟨g, k * 5 + 4, none⟩ (.int .i64 0)) (.slice (some ⟨g, 0, none⟩) n cap) (us.set k (plT us[k])) := by
  subst hn
  have h1 := (World.ownsRow.stored h (k * 5 + 3) (.int .i64 0)).1
  have h2 := (World.ownsRow.stored h1 (k * 5 + 4) (.int .i64 0)).1
  unfold OwnT
  rw [← tokVs_pl us k hk, List.length_set]
  exact h2
theorem set_pl (ts : List Tok) (k : Nat) (hk : k < ts.length) (hl : k < ((ts.take k).map plT ++ ts.drop k).length) : ((ts.take k).map plT ++ ts.drop k).set k (plT (((ts.take k).map plT ++ ts.drop k)[k])) = (ts.take (k + 1)).map plT ++ ts.drop (k + 1) := by
  have e : ((ts.take k).map plT).length = k := by simp; omega
  have e2 : ((ts.take k).map plT ++ ts.drop k)[k] = ts[k] := by
    rw [List.getElem_append_right (by omega)]
    simp only [e, Nat.sub_self, List.getElem_drop, Nat.add_zero]
  rw [e2, List.set_append_right _ _ (by omega), e, Nat.sub_self, List.drop_eq_getElem_cons hk, List.set_cons_zero, List.take_succ_eq_append_getElem hk, List.map_append, List.append_assoc]
  rfl
set_option maxRecDepth 100000 in
set_option maxHeartbeats 2000000 in
theorem plain_any {B b o n cap : Nat} {ts : List Tok} (w : World) (h : Rd B w (some ⟨b, o, none⟩) n cap 5 (tokVs ts)) (hB : B ≤ w.heap.size) (hn : n ≤ 100000) (hn0 : 0 < n) :
    Calls Try.prog 106 #[.slice (some ⟨b, o, none⟩) n cap] w fun e w' => ∃ y, e = .returned y ∧ OwnT w.heap.size w' y (ts.map plT) ∧ Below w.heap.size w w' := by
  have HL := Lib.hid h.tokLen
  have HC := Lib.hid (clone_any w h hB hn)
  clear h hB
  go_enter Try.func106, Try.ntmps106
  go_wp2_with (first
    | (go_at_call 158
       refine HC.out.mono ?_
       rintro e w1 ⟨y, rfl, ho, hb⟩
       obtain ⟨g, yc, hy, hg1, hg2⟩ := World.ownsRow.form ho (by rw [HL.out]; exact hn0)
       rw [HL.out] at hy
       subst hy
       have hyc : n ≤ yc ∧ yc ≤ 9223372036854775807 := by
         obtain ⟨a', c', e', h1, h2, _⟩ := OwnT.form ho
         injection e' with _ _ e3
         subst e3
         rw [HL.out] at h1
         exact ⟨h1, h2⟩
       obtain ⟨hy1, hy2⟩ := hyc
       have HO : Hid (OwnT w.heap.size w1 (.slice (some ⟨g, 0, none⟩) n yc) ts) := Lib.hid ho
       have HB1 := Lib.hid hb
       clear ho hb hg2))
  go_loopw [4, 9] (fun _ j wr => ∃ k : Nat, k ≤ n ∧ j = .int .i64 k ∧ Hid (OwnT w.heap.size wr (.slice (some ⟨g, 0, none⟩) n yc) ((ts.take k).map plT ++ ts.drop k)) ∧ Hid (Below w.heap.size w wr)) (fun _ j _ => n - (intOf j).toNat)
  case atStart => exact ⟨0, Nat.zero_le _, rfl, Lib.hid (by simpa using HO.out), HB1⟩
  case round =>
    clear HO HB1
    obtain ⟨k, hk, rfl, HO, HW⟩ := hrel
    have hlen : ((ts.take k).map plT ++ ts.drop k).length = n := by
      rw [List.length_append, List.length_map, List.length_take, List.length_drop, HL.out]; omega
    by_cases hlt : k < n
    · have hlt' : (k : Int) < (n : Int) := by omega
      have hrow : wr.ownsRow w.heap.size 46 5 (.slice (some ⟨g, 0, none⟩) n yc) n (tokVs ((ts.take k).map plT ++ ts.drop k)) := by
        have := HO.out; unfold OwnT at this; rw [hlen] at this; exact this
      have c3 : ∃ v, wr.cell? ⟨g, k * 5 + 3, none⟩ = some v := by
        rw [World.ownsRow.cellAt hrow (k * 5 + 3) (by omega)]
        exact ⟨_, List.getElem?_eq_getElem (by rw [tokVs_len, hlen]; omega)⟩
      have c4 : ∃ v, wr.cell? ⟨g, k * 5 + 4, none⟩ = some v := by
        rw [World.ownsRow.cellAt hrow (k * 5 + 4) (by omega)]
        exact ⟨_, List.getElem?_eq_getElem (by rw [tokVs_len, hlen]; omega)⟩
      obtain ⟨v3, c3⟩ := c3
      obtain ⟨v4, c4⟩ := c4
      have f3 := World.ownsRow.frozenAt hrow (k * 5 + 3)
      have f4 := World.ownsRow.frozenAt hrow (k * 5 + 4)
      have HO2 : Hid (OwnT w.heap.size ((wr.setCell ⟨g, k * 5 + 3, none⟩ (.int .i64 0)).setCell ⟨g, k * 5 + 4, none⟩ (.int .i64 0)) (.slice (some ⟨g, 0, none⟩) n yc) ((ts.take (k + 1)).map plT ++ ts.drop (k + 1))) := Lib.hid (by
        have := OwnT.pl hlen HO.out k (by rw [hlen]; exact hlt)
        rw [set_pl ts k (by rw [HL.out]; exact hlt)] at this
        exact this)
      have HW2 : Hid (Below w.heap.size w ((wr.setCell ⟨g, k * 5 + 3, none⟩ (.int .i64 0)).setCell ⟨g, k * 5 + 4, none⟩ (.int .i64 0))) := Lib.hid ((HW.out.setCell (p := ⟨g, k * 5 + 3, none⟩) hg1 _).setCell (p := ⟨g, k * 5 + 4, none⟩) hg1 _)
      clear hrow hlen
      go_wp2
      go_roundw
      case rel => exact ⟨k + 1, by omega, by go_num, HO2, HW2⟩
      case measure => simp [intOf]; omega
    · have hlt' : ¬ (k : Int) < (n : Int) := by omega
      have HO2 : Hid (OwnT w.heap.size wr (.slice (some ⟨g, 0, none⟩) n yc) (ts.map plT)) := Lib.hid (by
        have := HO.out
        rw [List.take_of_length_le (by rw [HL.out]; omega), List.drop_eq_nil_of_le (by rw [HL.out]; omega), List.append_nil] at this
        exact this)
      clear hlen
      go_wp2
      go_ret
      exact ⟨_, rfl, HO2.out, HW.out⟩

set_option maxRecDepth 100000 in
set_option maxHeartbeats 2000000 in
theorem equal_any {B B' n n' cap cap' : Nat} {a a' : Option Addr} {ts : List Tok} (w : World) (h : Rd B w a n cap 5 (tokVs ts)) (h' : Rd B' w a' n' cap' 5 (tokVs ts)) (hB : B ≤ w.heap.size) (hB' : B' ≤ w.heap.size) :
    Calls Try.prog 105 #[.slice a n cap, .slice a' n' cap'] w fun e w' => e = .returned (.bool true) ∧ Below w.heap.size w w' := by
  obtain rfl : n' = n := h'.tokLen.symm.trans h.tokLen
  have hcap := h.2.1
  have hm := h.2.2.1
  have hcap' := h'.2.1
  have hm' := h'.2.2.1
  have H := Lib.hid (h.le hB)
  have H' := Lib.hid (h'.le hB')
  clear h h' hB hB'
  go_enter Try.func105, Try.ntmps105
  go_wp2
  go_loopw [5, 13] (fun _ i wr => ∃ k : Nat, k ≤ n' ∧ i = .int .i64 k ∧ Hid (∃ m, wr = w.drewN m)) (fun _ i _ => n' - (intOf i).toNat)
  case atStart => exact ⟨0, Nat.zero_le _, rfl, Lib.hid ⟨0, rfl⟩⟩
  case round =>
    obtain ⟨k, hk, rfl, ⟨m, rfl⟩⟩ := hrel
    by_cases hlt : k < n'
    · obtain ⟨b, o, rfl, hb, hl, c0, c1, c2, c3, c4⟩ := H.out.tokAt k hlt
      obtain ⟨b', o', rfl, hb', hl', c0', c1', c2', c3', c4'⟩ := H'.out.tokAt k hlt
      have hlt' : (k : Int) < (n' : Int) := by omega
      generalize ts[k] = t at *
      obtain ⟨tk, tS, tn, tl, tc⟩ := t
      simp only at c0 c1 c2 c3 c4 c0' c1' c2' c3' c4'
      go_wp2
      go_quiet (fail)
      go_wp2
      go_roundw
      case rel => exact ⟨k + 1, by omega, by go_num, Lib.hid ⟨_, rfl⟩⟩
      case measure => simp [intOf]; omega
    · have hlt' : ¬ (k : Int) < (n' : Int) := by omega
      go_wp2
      go_ret
      exact ⟨rfl, below_drewN (Below.refl _ _) m⟩
set_option maxRecDepth 100000 in
set_option maxHeartbeats 2000000 in
theorem same_any {B B' b o n cap b' o' n' cap' : Nat} {ts us : List Tok} (w : World) (h : Rd B w (some ⟨b, o, none⟩) n cap 5 (tokVs ts)) (h' : Rd B' w (some ⟨b', o', none⟩) n' cap' 5 (tokVs us)) (hB : B ≤ w.heap.size) (hB' : B' ≤ w.heap.size) (hn : n ≤ 100000) (hn0 : 0 < n) (he : ts.map plT = us.map plT) :
    Calls Try.prog 53 #[.slice (some ⟨b, o, none⟩) n cap, .slice (some ⟨b', o', none⟩) n' cap'] w fun e w' => e = .returned (.bool true) ∧ Below w.heap.size w w' := by
  have hnn : n' = n := by
    have h1 := h.tokLen
    have h2 := h'.tokLen
    have h3 := congrArg List.length he
    simp only [List.length_map] at h3
    omega
  subst hnn
  have HP := Lib.hid (plain_any w h hB hn hn0)
  have H' := Lib.hid (h'.le hB')
  have HE := Lib.hid he
  clear h h' hB hB' he
  have tok1 : True := trivial
  go_enter Try.func53, Try.ntmps53
  go_wp2_with (first
    | (go_at_call 106
       have _t := tok1
       refine HP.out.mono ?_
       rintro e w1 ⟨y, rfl, ho, hb⟩
       obtain ⟨a1, c1, hy, _, _, hr1⟩ := ho.form
       rw [List.length_map] at hy hr1
       subst hy
       have HB1 := Lib.hid hb
       have HR1 := Lib.hid hr1
       have HP2 := Lib.hid (plain_any w1 (H'.out.mono hb) hb.size hn hn0)
       rw [← HE.out] at HP2
       clear ho hb hr1 tok1 _t)
    | (go_at_call 106
       refine HP2.out.mono ?_
       rintro e w2 ⟨y, rfl, ho, hb⟩
       obtain ⟨a2, c2, hy, _, _, hr2⟩ := ho.form
       rw [List.length_map] at hy hr2
       subst hy
       have HB2 : Hid (Below w.heap.size w w2) := Lib.hid (HB1.out.trans (hb.mono HB1.out.size))
       have HR1' := Lib.hid ((HR1.out.mono hb).le hb.size)
       have HR2 := Lib.hid hr2
       have HEQ := Lib.hid (equal_any w2 HR1'.out hr2 (Nat.le_refl _) (Nat.le_refl _))
       clear ho hb hr2)
    | (go_at_call 105
       refine HEQ.out.mono ?_
       rintro e w3 ⟨rfl, hb⟩
       have HB3 : Hid (Below w.heap.size w w3) := Lib.hid (HB2.out.trans (hb.mono HB2.out.size))
       clear hb))
  go_ret
  exact ⟨rfl, HB3.out⟩
end Go.Proofs.Ytppejoccljfblaa
