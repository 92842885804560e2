/-
  An expression that was parsed, told as a text, is parsed as the same. Plain laws. No condition but sizes.
-/
import Derived.Test.YtcoiagfeoonpbaaSe30
import Derived.Test.YtcoiagfeoonpbaaSe23
import Derived.Test.YtcoiagfeoonpbaaSe36
namespace Go.Proofs.Ytcoiagfeoonpbaa
theorem lex_tokok {s : ByteArray} (h : (lexes s).1 = 0) : ∀ t ∈ (lexes s).2.2.2, 1 < t.k → TokOk t.k t.s.data.toList t.n := by
  by_cases hl : 4096 < s.size
  · rw [lexes_long s hl] at h; cases h
  · cases hs : scanB false s.data.toList 1 1 with
    | mk o ts =>
      cases o with
      | some p => rw [lexes_bad s hl hs] at h; cases h
      | none =>
        have hg := scan_good _ false s.data.toList 1 1 ts (Nat.le_refl _) hs
        rw [lexes_ok s hl hs]
        have one : ∀ {t : Tok}, Vt t → TokOk t.k t.s.data.toList t.n := fun {t} hv => ⟨_, hv.read [] (.inl rfl)⟩
        show ∀ t ∈ ts, 1 < t.k → TokOk t.k t.s.data.toList t.n
        clear hs
        induction hg with
        | stop l c =>
          intro t ht hk
          rw [List.mem_singleton.1 ht] at hk
          have hk : (1 : Int) < 0 := hk
          omega
        | tok u us hv hk hg ih =>
          intro t ht hk
          rcases List.mem_cons.1 ht with rfl | ht
          · exact one hv
          · exact ih t ht hk
        | item i u us hi hv hk hg ih =>
          intro t ht hk
          rcases List.mem_cons.1 ht with rfl | ht
          · omega
          · rcases List.mem_cons.1 ht with rfl | ht
            · exact one hv
            · exact ih t ht hk
theorem toksE_ok {s : ByteArray} (h : (lexes s).1 = 0) (i : Nat) : TkOk (nowT (toksE s) i) := by
  intro hk
  have hk1 : (nowT (toksE s) i).k ≠ -1 := by omega
  have hi := now_lt hk1
  have hg : (toksE s)[i]? = some ((toksE s)[i]) := List.getElem?_eq_getElem hi
  have he := now_at hg
  rw [he] at hk ⊢
  have hm : (toksE s)[i] ∈ toksE s := List.getElem_mem hi
  unfold toksE at hm
  obtain ⟨u, hu, e⟩ := List.mem_map.1 hm
  have hu := (List.mem_filter.1 hu).1
  unfold toksE at hk ⊢
  rw [← e] at hk ⊢
  have hk : u.k = 2 ∨ u.k = 3 ∨ u.k = 4 := hk
  exact lex_tokok h u hu (by omega)
theorem parse_fit {s : ByteArray} {e : Ex} (h : parseE s = .ok e) : WfX e ∧ depX e ≤ 40 ∧ lenX e ≤ 8193 := by
  unfold parseE at h
  split at h
  · rename_i h0
    obtain ⟨r, h1, h2⟩ := parse_parts h0
    rw [h1] at h
    cases r with
    | bad l c => cases h
    | ok x j =>
      simp only at h
      split at h
      · injection h with h
        subst h
        have hf := readE_fit (toksE_ok h0) _ .expr 0 0 _ _ (by decide) h1
        have hz := Fit.zero hf
        obtain ⟨_, _, _, _, h3⟩ := toksE_end h0
        have := h2 _ _ rfl
        exact ⟨hf.1, by omega, by omega⟩
      · cases h
  · cases h
theorem parse_short {s : ByteArray} {e : Ex} (h : parseE s = .ok e) : NumX e ∧ (showX e).size ≤ 1000000 := by
  obtain ⟨h1, h2, h3⟩ := parse_fit h
  have := size_ex h1
  unfold lenX at h3
  exact ⟨num_ex h1, by omega⟩
theorem toksE_at {s : ByteArray} {L : List (Int × ByteArray × Int)} (h : ((lexes s).2.2.2.map stripT).filter (fun v => !decide (v.1 = 1)) = L) {j : Nat} {v : Int × ByteArray × Int} (hj : L[j]? = some v) : (nowT (toksE s) j).k = v.1 ∧ (nowT (toksE s) j).s = v.2.1 ∧ (nowT (toksE s) j).n = v.2.2 := by
  subst h
  rw [List.filter_map] at hj
  rw [List.getElem?_map, Option.map_eq_some_iff] at hj
  obtain ⟨t, ht, rfl⟩ := hj
  have ht : ((lexes s).2.2.2.filter keepT)[j]? = some t := ht
  have : nowT (toksE s) j = tkOf t := now_at (by unfold toksE; rw [List.getElem?_map, ht]; rfl)
  rw [this]
  exact ⟨rfl, rfl, rfl⟩
theorem okP_kinds {l : List Pc} (h : OkP l) : ∀ p ∈ l, 1 < p.k := by
  induction l with
  | nil => intro p hp; cases hp
  | cons q l ih =>
    intro p hp
    rcases List.mem_cons.1 hp with rfl | hp
    · exact h.kind.1
    · exact ih h.tail p hp
theorem parse_back {e : Ex} (hw : WfX e) (hd : depX e ≤ 40) (hl : (showX e).size ≤ 4096) : ∃ e', parseE (showX e) = .ok e' ∧ SamE false e e' := by
  obtain ⟨t, ht⟩ : ∃ t, showX e = t := ⟨_, rfl⟩
  have ho : OkP (pcX e 0) := by
    have := okP_ex hw 0 [] .nil (fun q l e => by cases e)
    rwa [List.append_nil] at this
  have htx : t.data.toList = txtP (pcX e 0) ++ [] := by rw [List.append_nil, txt_ex hw 0, ← ht]; rfl
  obtain ⟨l1, l2⟩ := lexes_txt ho (.inl rfl) htx (by rw [← ht]; exact hl)
  have hk := okP_kinds ho
  have hb := short_ex hw 0 (by decide)
  rw [ht]
  obtain ⟨p, r, hpr, hpb⟩ := ex_head hw 0
  have hfil : ((lexes t).2.2.2.map stripT).filter (fun v => !decide (v.1 = 1)) = (pcX e 0).map (fun p => (p.k, str p.s, p.n)) ++ [(0, str [], 0)] := by
    rw [l2]
    have hkeep : ∀ (l : List Pc), (∀ p ∈ l, 1 < p.k) → (∀ p ∈ l, p.b < 2) → (tokP false l).filter (fun v => !decide (v.1 = 1)) = l.map (fun p => (p.k, str p.s, p.n)) ++ [(0, str [], 0)] := by
      intro l hk hb
      rw [tokP_flat l hb, List.filter_append, List.filter_eq_self.2]
      · rfl
      · intro v hv
        obtain ⟨q, hq, rfl⟩ := List.mem_map.1 hv
        have := hk q hq
        simp only [Bool.not_eq_true', decide_eq_false_iff_not]
        omega
    rw [hpr] at hk hb ⊢
    have hp1 := hk p (by simp)
    have := hkeep (p :: r) hk (fun q hq => (hb q hq).1)
    rw [tokP, if_neg (by simp; omega)] at this
    rw [tokP, if_pos (.inr ⟨hpb, rfl⟩)]
    exact this
  have ha : AtX (toksE t) 0 (pcX e 0) := fun j hj => by
    rw [Nat.zero_add]
    exact toksE_at hfil (v := ((pcX e 0)[j].k, str (pcX e 0)[j].s, (pcX e 0)[j].n)) (by rw [List.getElem?_append_left (by rw [List.length_map]; exact hj), List.getElem?_map, List.getElem?_eq_getElem hj]; rfl)
  have he : (nowT (toksE t) (0 + (pcX e 0).length)).k = 0 := by
    rw [Nat.zero_add]
    exact (toksE_at hfil (v := (0, str [], 0)) (by rw [List.getElem?_append_right (by rw [List.length_map]; exact Nat.le_refl _), List.length_map, Nat.sub_self]; rfl)).1
  obtain ⟨e', g, hs, hg⟩ := rd_ex (deep := 0) hw (rd_all hw) ha (by omega) (by unfold startsE; rw [he]; rfl) (fun h => by have := h.1; rw [he] at this; exact absurd this (by decide))
  refine ⟨e', ?_, hs⟩
  obtain ⟨r', h1, _⟩ := parse_parts l1
  have u1 := readE_up _ _ _ _ _ (Nat.le_max_left (fuelE t) g) _ h1
  have u2 := readE_up _ _ _ _ _ (Nat.le_max_right (fuelE t) g) _ hg
  rw [u1] at u2
  have hr := Option.some.inj u2
  subst hr
  unfold parseE
  rw [if_pos l1, h1]
  show (if (nowT (toksE t) (0 + (pcX e 0).length)).k = 0 then _ else _) = _
  rw [if_pos he]
def AlX (x y : Ex) : Prop := x.kind = y.kind ∧ x.name = y.name ∧ showX x = showX y
theorem op_alike {s : ByteArray} {a b a' b' : Ex} (ha : AlX a a') (hb : AlX b b') : opX s a b (showX a) (showX b) = opX s a' b' (showX a') (showX b') := by
  unfold opX opndX lessX
  rw [ha.1, ha.2.1, ha.2.2, hb.1, hb.2.1, hb.2.2]
theorem atom_alike {x y : Ex} (h : AlX x y) : atomX x (showX x) = atomX y (showX y) := by
  unfold atomX
  rw [h.1, h.2.2]
theorem shows_alike {xs ys : List Ex} (h : All2 AlX xs ys) : showXs xs = showXs ys ∧ List.zipWith atomX xs (showXs xs) = List.zipWith atomX ys (showXs ys) ∧ xs.length = ys.length := by
  induction h with
  | nil => exact ⟨rfl, rfl, rfl⟩
  | cons hx _ ih =>
    rw [showXs, showXs, List.zipWith_cons_cons, List.zipWith_cons_cons, ih.2.1, atom_alike hx]
    exact ⟨by rw [ih.1, hx.2.2], rfl, by simp [ih.2.2]⟩
theorem form_alike {k : Int} {s : ByteArray} {n : Int} {xs ys : List Ex} (h : All2 AlX xs ys) : formX k s n xs (showXs xs) = formX k s n ys (showXs ys) := by
  obtain ⟨h1, h2, h3⟩ := shows_alike h
  have I : ∀ {c : Prop} [Decidable c] {a b a' b' : ByteArray}, a = a' → b = b' → (if c then a else b) = if c then a' else b' := by
    intro c _ a b a' b' e1 e2
    rw [e1, e2]
  have h5 : (xs ≠ []) = (ys ≠ []) := by
    cases h with
    | nil => rfl
    | cons ha h => simp
  unfold formX
  simp only [h2, h3, h5]
  refine I rfl (I rfl (I rfl (I rfl (I ?_ (by rw [h1])))))
  clear h1 h2 h3 h5
  cases h with
  | nil => rfl
  | cons ha h =>
    cases h with
    | nil => simp only
    | cons hb h =>
      cases h with
      | nil => simp only [showXs]; exact op_alike ha hb
      | cons hc h => simp only
theorem same_show {e e' : Ex} (h : SamE false e e') : AlX e e' := by
  induction h with
  | mk k s n xs ys l c l' c' hl ha hp ih =>
    refine ⟨rfl, rfl, ?_⟩
    rw [showX, showX]
    exact form_alike (all2_of xs ys hl ih)
end Go.Proofs.Ytcoiagfeoonpbaa
