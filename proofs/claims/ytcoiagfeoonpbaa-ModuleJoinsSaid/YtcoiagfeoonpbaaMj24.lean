/-
  The module of a text, in plain words; two texts, one on lines behind the other, have the items of both. Plain law. No condition but sizes.
-/
import Derived.Test.YtcoiagfeoonpbaaMj4
import Derived.Test.YtcoiagfeoonpbaaMj23
namespace Go.Proofs.Ytcoiagfeoonpbaa
def toksA (s : ByteArray) : List Tk := (lexes s).2.2.2.map tkOf
inductive Md1 where
  | ok (ds : List Da) (rs : List Ru)
  | bad (k l c : Int)
def fuF (ts : List Tk) : Nat := 8 * ts.length + 8
def fuG (ts : List Tk) : Nat := 4 * ts.length + 8
def itemsA (ts : List Tk) : Option (List Da × List Ru × MS) := itemsM ts (fuF ts) (fuG ts) (ts.length + 2) [] [] ⟨0, none⟩
def endM (r : List Da × List Ru × MS) : Md1 :=
  match r.2.2.b with
  | none => .ok r.1 r.2.1
  | some p => .bad 1 p.1 p.2
def modE (s : ByteArray) : Md1 :=
  if (lexes s).1 = 0 then
    match itemsA (toksA s) with
    | none => .bad 0 0 0
    | some r => endM r
  else .bad (lexes s).1 (lexes s).2.1 (lexes s).2.2.1
theorem itemsA_some (ts : List Tk) : ∃ r, itemsA ts = some r :=
  Option.isSome_iff_exists.1 (itemsM_total (Nat.le_refl _) (Nat.le_refl _) _ _ _ _ (by show needM ts ⟨0, none⟩ ≤ _; unfold needM MS.ok; simp))
theorem toksA_end {s : ByteArray} (h : (lexes s).1 = 0) : ∃ us e, toksA s = us ++ [e] ∧ e.k = 0 ∧ ∀ t ∈ us, t.k ≠ 0 := by
  by_cases hl : 4096 < s.size
  · rw [lexes_long s hl] at h; cases h
  · cases hs : scanB false s.data.toList 1 1 with
    | mk o ts =>
      cases o with
      | some p => rw [lexes_bad s hl hs] at h; cases h
      | none =>
        obtain ⟨t, e, _, _, g1, _, g3, g4, _, _⟩ := lexF _ false s.data.toList 1 1 1 (Nat.le_refl _) (by rw [hs])
        rw [hs] at g1
        simp only at g1
        refine ⟨t.map tkOf, tkOf e, by unfold toksA; rw [lexes_ok s hl hs, g1]; simp, g3, fun u hu => ?_⟩
        obtain ⟨v, hv, rfl⟩ := List.mem_map.1 hu
        exact g4 v hv
theorem mod_ok {s : ByteArray} {ds : List Da} {rs : List Ru} (h : modE s = .ok ds rs) : (lexes s).1 = 0 ∧ ∃ st, itemsA (toksA s) = some (ds, rs, st) ∧ st.ok = true := by
  unfold modE at h
  split at h
  · rename_i h0
    refine ⟨h0, ?_⟩
    split at h
    · cases h
    · rename_i r hr
      obtain ⟨d, q, st⟩ := r
      unfold endM at h
      split at h
      · rename_i hb
        cases h
        exact ⟨st, hr, by unfold MS.ok; simp only at hb; rw [hb]; rfl⟩
      · cases h
  · cases h
theorem nowM {us : List Tk} {e : Tk} {ts : List Tk} (h : ts = us ++ [e]) : (∀ i (hi : i < us.length), nowT ts i = us[i]) ∧ nowT ts us.length = e := by
  subst h
  refine ⟨fun i hi => now_at (by rw [List.getElem?_append_left hi, List.getElem?_eq_getElem hi]), now_at (by simp)⟩
theorem mod_join (a b s : ByteArray) (ha : a.size ≤ 1500) (hb : b.size ≤ 1500) (hs : s.data.toList = a.data.toList ++ 10 :: b.data.toList) {da db : List Da} {ra rb : List Ru} (h1 : modE a = .ok da ra) (h2 : modE b = .ok db rb) :
    ∃ ds rs, modE s = .ok ds rs ∧ All2 DaS (da ++ db) ds ∧ All2 RuS (ra ++ rb) rs := by
  obtain ⟨la, sa, ia, oka⟩ := mod_ok h1
  obtain ⟨lb, sb, ib, okb⟩ := mod_ok h2
  rcases lex_join a b s ha hb hs with ⟨l, c, e1, _⟩ | ⟨ts0, e, e1, ⟨l, c, e2, _⟩ | ⟨m, e2, _, e3⟩⟩
  · rw [e1] at la; cases la
  · rw [e2] at lb; cases lb
  · obtain ⟨ua, ea, ta, ka, na⟩ := toksA_end la
    obtain ⟨ub, eb, tb, kb, nb⟩ := toksA_end lb
    have q1 : ts0.map tkOf = ua := by
      have : toksA a = ts0.map tkOf ++ [tkOf e] := by unfold toksA; rw [e1]; simp
      rw [ta] at this
      exact (List.append_inj' this rfl).1.symm
    have q2 : m.map tkOf = ub ++ [eb] := by rw [← tb]; unfold toksA; rw [e2]
    obtain ⟨vs, hvs⟩ : ∃ vs, (m.map (shT (1 + nls a.data.toList))).map tkOf = vs := ⟨_, rfl⟩
    have q3 : toksA s = ua ++ vs := by unfold toksA; rw [e3]; simp only [List.map_append, q1, hvs]
    have hal : All2 TkS (ub ++ [eb]) vs := by
      rw [← q2, ← hvs]
      refine All2.of (by simp) fun i h1 h2 => ?_
      simp only [List.getElem_map]
      exact ⟨rfl, rfl, rfl⟩
    have hlv : vs.length = ub.length + 1 := by rw [← hal.len]; simp
    have hv : ∀ i (hi : i < vs.length), nowT (toksA s) (ua.length + i) = vs[i] := fun i hi => now_at (by rw [q3, List.getElem?_append_right (by omega), Nat.add_sub_cancel_left, List.getElem?_eq_getElem hi])
    have hb' : ∀ i, i ≤ ub.length → TkS (nowT (toksA b) i) (nowT (toksA s) (ua.length + i)) := fun i hi => by
      have e1 : nowT (toksA b) i = (ub ++ [eb])[i]'(by simp; omega) := now_at (by rw [tb, List.getElem?_eq_getElem])
      rw [e1, hv i (by omega)]
      exact hal.at i (by simp; omega) (by omega)
    have sb0 : Sh (toksA b) (toksA s) ua.length ub.length :=
      ⟨fun i hi => hb' i (by omega), by rw [(nowM tb).2]; exact kb, .inl (by rw [← (hb' ub.length (Nat.le_refl _)).1, (nowM tb).2]; exact kb)⟩
    -- what the second text begins with
    have first : (nowT (toksA b) 0).k = 0 ∨ (nowT (toksA b) 0).k = 1 := by
      by_cases h0 : (nowT (toksA b) 0).k = 0
      · exact .inl h0
      · right
        unfold itemsA at ib
        rw [itemsM, if_pos (by unfold MS.ok; simp [h0])] at ib
        have key : (takeS (toksA b) ⟨0, none⟩ 1 ⟨#[]⟩).ok = true := by
          split at ib
          · obtain ⟨q, i1, i2⟩ := Option.bind_eq_some_iff.1 ib
            exact ((dataM_step i1).fwd ((itemsM_step _ _ _ _ _ i2).fwd okb).1).1
          · obtain ⟨q, i1, i2⟩ := Option.bind_eq_some_iff.1 ib
            exact ((ruleM_step i1).fwd ((itemsM_step _ _ _ _ _ i2).fwd okb).1).1
        unfold takeS at key
        split at key
        · rename_i hi
          exact (isT_parts (isS_parts hi).2).1
        · rw [fail_notok] at key; cases key
    have hfirst := (hb' 0 (Nat.zero_le _)).1
    have sa0 : Sh (toksA a) (toksA s) 0 ua.length := by
      refine ⟨fun i hi => ?_, by rw [(nowM ta).2]; exact ka, ?_⟩
      · have e2 : nowT (toksA s) (0 + i) = ua[i] := now_at (by rw [Nat.zero_add, q3, List.getElem?_append_left hi, List.getElem?_eq_getElem hi])
        rw [(nowM ta).1 i hi, e2]
        exact ⟨rfl, rfl, rfl⟩
      · rw [Nat.zero_add, show ua.length = ua.length + 0 from rfl, ← hfirst]
        exact first
    have hlen : (toksA s).length = ua.length + ub.length + 1 := by rw [q3, List.length_append, hlv]; omega
    have lena : (toksA a).length = ua.length + 1 := by rw [ta]; simp
    have lenb : (toksA b).length = ub.length + 1 := by rw [tb]; simp
    obtain ⟨dn, rn, en, qn, a1, a2, a3, a4, a5, a6⟩ := itemsM_sh sa0 (fun i hi => by rw [(nowM ta).1 i hi]; exact na _ (List.getElem_mem hi)) (F' := fuF (toksA s)) (g' := fuG (toksA s)) (by unfold fuF; omega) (by unfold fuG; omega) _ _ _ _ _ (Nat.zero_le _) ia oka
    obtain ⟨dm, rm, em, qm, b1, b2, b3, b4, b5, b6⟩ := itemsM_sh sb0 (fun i hi => by rw [(nowM tb).1 i hi]; exact nb _ (List.getElem_mem hi)) (F' := fuF (toksA s)) (g' := fuG (toksA s)) (by unfold fuF; omega) (by unfold fuG; omega) _ _ _ _ _ (Nat.zero_le _) ib okb
    simp only [List.nil_append] at a1 a2 b1 b2
    subst a1; subst a2; subst b1; subst b2
    have kend : (nowT (toksA s) (ua.length + ub.length)).k = 0 := by rw [← (hb' ub.length (Nat.le_refl _)).1, (nowM tb).2]; exact kb
    have fin : itemsM (toksA s) (fuF (toksA s)) (fuG (toksA s)) 1 (en ++ em) (qn ++ qm) ⟨ua.length + ub.length, none⟩ = some (en ++ em, qn ++ qm, ⟨ua.length + ub.length, none⟩) := by
      rw [itemsM, if_neg (by simp [kend])]
    have hall := a6 [] [] _ _ (by
      have := b6 ([] ++ en) ([] ++ qn) 1 _ (by rw [List.nil_append, List.nil_append]; exact fin)
      rw [show shM ua.length ⟨0, none⟩ = (⟨0 + ua.length, none⟩ : MS) by unfold shM; simp] at this
      exact this)
    obtain ⟨r, hr⟩ := itemsA_some (toksA s)
    have h0 : shM 0 (⟨0, none⟩ : MS) = ⟨0, none⟩ := rfl
    rw [h0] at hall
    have hx1 := itemsM_more _ (max ((toksA s).length + 2) ((toksA a).length + 2 + ((toksA b).length + 2 + 1))) _ _ _ _ (Nat.le_max_left _ _) hr
    have hx2 := itemsM_more _ (max ((toksA s).length + 2) ((toksA a).length + 2 + ((toksA b).length + 2 + 1))) _ _ _ _ (Nat.le_max_right _ _) hall
    rw [hx1] at hx2
    obtain rfl : r = _ := Option.some.inj hx2
    refine ⟨en ++ em, qn ++ qm, ?_, a4.app b4, a5.app b5⟩
    unfold modE
    rw [if_pos (by rw [e3]), hr]
    rfl
end Go.Proofs.Ytcoiagfeoonpbaa

/-
  whimbrellaw07.awake's text: its tokens, its module. No condition.
-/
namespace Go.Proofs.Ytcoiagfeoonpbaa
open Go.RowKit
def aw7 : ByteArray := ⟨#[100, 97, 116, 97, 32, 78, 32, 61, 32, 90, 32, 124, 32, 83, 32, 78]⟩
theorem a7_t0 : tokL [100, 97, 116, 97, 32, 78, 32, 61, 32, 90, 32, 124, 32, 83, 32, 78] = some (5, [100, 97, 116, 97], 0) := by decide
theorem a7_t1 : tokL [78, 32, 61, 32, 90, 32, 124, 32, 83, 32, 78] = some (3, [78], 0) := by decide
theorem a7_t2 : tokL [61, 32, 90, 32, 124, 32, 83, 32, 78] = some (6, [61], 0) := by decide
theorem a7_t3 : tokL [90, 32, 124, 32, 83, 32, 78] = some (3, [90], 0) := by decide
theorem a7_t4 : tokL [124, 32, 83, 32, 78] = some (6, [124], 0) := by decide
theorem a7_t5 : tokL [83, 32, 78] = some (3, [83], 0) := by decide
theorem a7_t6 : tokL [78] = some (3, [78], 0) := by decide
theorem a7_lex : lexes aw7 = (0, 0, 0, [⟨1, str [], 0, 1, 1⟩, ⟨5, str [100, 97, 116, 97], 0, 1, 1⟩, ⟨3, str [78], 0, 1, 6⟩, ⟨6, str [61], 0, 1, 8⟩, ⟨3, str [90], 0, 1, 10⟩, ⟨6, str [124], 0, 1, 12⟩, ⟨3, str [83], 0, 1, 14⟩, ⟨3, str [78], 0, 1, 16⟩, ⟨0, str [], 0, 1, 17⟩]) := by
  refine lexes_ok aw7 (by decide) ?_
  have e0 : skipG false aw7.data.toList 1 1 = ([100, 97, 116, 97, 32, 78, 32, 61, 32, 90, 32, 124, 32, 83, 32, 78], 1, 1) := by decide
  have e1 : skipG false ([100, 97, 116, 97, 32, 78, 32, 61, 32, 90, 32, 124, 32, 83, 32, 78].drop 4) 1 5 = ([78, 32, 61, 32, 90, 32, 124, 32, 83, 32, 78], 1, 6) := by decide
  have e2 : skipG false ([78, 32, 61, 32, 90, 32, 124, 32, 83, 32, 78].drop 1) 1 7 = ([61, 32, 90, 32, 124, 32, 83, 32, 78], 1, 8) := by decide
  have e3 : skipG false ([61, 32, 90, 32, 124, 32, 83, 32, 78].drop 1) 1 9 = ([90, 32, 124, 32, 83, 32, 78], 1, 10) := by decide
  have e4 : skipG false ([90, 32, 124, 32, 83, 32, 78].drop 1) 1 11 = ([124, 32, 83, 32, 78], 1, 12) := by decide
  have e5 : skipG false ([124, 32, 83, 32, 78].drop 1) 1 13 = ([83, 32, 78], 1, 14) := by decide
  have e6 : skipG false ([83, 32, 78].drop 1) 1 15 = ([78], 1, 16) := by decide
  have e7 : skipG false ([78].drop 1) 1 17 = ([], 1, 17) := by decide
  rw [scanB, e0, scanS_tok 1 1 a7_t0]
  simp only [List.length_cons, List.length_nil, Nat.zero_add, Nat.reduceAdd]
  rw [scanB, e1, scanS_tok 1 6 a7_t1]
  simp only [List.length_cons, List.length_nil, Nat.zero_add, Nat.reduceAdd]
  rw [scanB, e2, scanS_tok 1 8 a7_t2]
  simp only [List.length_cons, List.length_nil, Nat.zero_add, Nat.reduceAdd]
  rw [scanB, e3, scanS_tok 1 10 a7_t3]
  simp only [List.length_cons, List.length_nil, Nat.zero_add, Nat.reduceAdd]
  rw [scanB, e4, scanS_tok 1 12 a7_t4]
  simp only [List.length_cons, List.length_nil, Nat.zero_add, Nat.reduceAdd]
  rw [scanB, e5, scanS_tok 1 14 a7_t5]
  simp only [List.length_cons, List.length_nil, Nat.zero_add, Nat.reduceAdd]
  rw [scanB, e6, scanS_tok 1 16 a7_t6]
  simp only [List.length_cons, List.length_nil, Nat.zero_add, Nat.reduceAdd]
  rw [scanB, e7, scanS_nil]
  rfl
def a7T : List Tk := [⟨1, ⟨#[]⟩, 0, 1, 1⟩, ⟨5, ⟨#[100, 97, 116, 97]⟩, 0, 1, 1⟩, ⟨3, ⟨#[78]⟩, 0, 1, 6⟩, ⟨6, ⟨#[61]⟩, 0, 1, 8⟩, ⟨3, ⟨#[90]⟩, 0, 1, 10⟩, ⟨6, ⟨#[124]⟩, 0, 1, 12⟩, ⟨3, ⟨#[83]⟩, 0, 1, 14⟩, ⟨3, ⟨#[78]⟩, 0, 1, 16⟩, ⟨0, ⟨#[]⟩, 0, 1, 17⟩]
theorem a7_toks : toksA aw7 = a7T := by unfold toksA; rw [a7_lex]; rfl
theorem a7_read : (itemsA a7T).map (fun r => (r.1.map (fun d => d.cons.length), r.2.1.length, r.2.2.b)) = some ([2], 0, none) := by kernel_rfl
theorem a7_mod : ∃ d, modE aw7 = .ok [d] [] ∧ d.cons.length = 2 := by
  obtain ⟨r, h1, h2⟩ := Option.map_eq_some_iff.1 a7_read
  obtain ⟨ds, rs, s⟩ := r
  simp only [Prod.mk.injEq] at h2
  obtain ⟨h3, h4, h5⟩ := h2
  have h6 : rs = [] := List.eq_nil_of_length_eq_zero h4
  subst h6
  have hm : modE aw7 = endM (ds, [], s) := by
    unfold modE
    rw [a7_toks, a7_lex, if_pos rfl, h1]
  cases ds with
  | nil => cases h3
  | cons d ds =>
    cases ds with
    | nil =>
      refine ⟨d, ?_, ?_⟩
      · rw [hm]
        unfold endM
        show (match s.b with | none => _ | some p => _) = _
        rw [h5]
      · simpa using h3
    | cons d' ds => simp at h3
end Go.Proofs.Ytcoiagfeoonpbaa
