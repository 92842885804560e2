/-
  The tokens of two texts, one on lines behind the other, in plain words. No program, no condition but sizes.
-/
import Derived.Test.YtppejoccljfblaaLex
namespace Go.Proofs.Ytppejoccljfblaa

def nls (r : List UInt8) : Nat := r.count 10
theorem nls_cons (x : UInt8) (r : List UInt8) : nls (x :: r) = nls r + if x = 10 then 1 else 0 := by
  simp only [nls, List.count_cons, beq_iff_eq]
theorem head_app (A B : List UInt8) : (A ++ 10 :: B).head? = some 45 ↔ A.head? = some 45 := by
  cases A with
  | nil => simp
  | cons x A => simp
theorem skipG_app (com : Bool) (A B : List UInt8) (l c : Nat) :
    skipG com (A ++ 10 :: B) l c = if (skipG com A l c).1 = [] then skipG false B ((skipG com A l c).2.1 + 1) 1 else ((skipG com A l c).1 ++ 10 :: B, (skipG com A l c).2.1, (skipG com A l c).2.2) := by
  induction A generalizing com l c with
  | nil => cases com <;> simp [skipG]
  | cons x A ih =>
    rw [List.cons_append]
    cases com with
    | true =>
      simp only [skipG]
      split
      · exact ih ..
      · exact ih ..
    | false =>
      simp only [skipG, head_app]
      split
      · exact ih ..
      · split
        · exact ih ..
        · split
          · exact ih ..
          · simp
theorem skipG_nls (com : Bool) (r : List UInt8) (l c : Nat) : (skipG com r l c).2.1 + nls (skipG com r l c).1 = l + nls r := by
  induction r generalizing com l c with
  | nil => cases com <;> simp [skipG]
  | cons x r ih =>
    have h := nls_cons x r
    cases com with
    | true =>
      simp only [skipG]
      split
      · rename_i hx; rw [if_pos hx] at h; rw [ih]; omega
      · rename_i hx; rw [if_neg hx] at h; rw [ih]; omega
    | false =>
      simp only [skipG]
      split
      · rename_i hx; rw [if_pos hx] at h; rw [ih]; omega
      · rename_i hx
        rw [if_neg hx] at h
        split
        · rw [ih]; omega
        · split
          · rw [ih]; omega
          · rfl
theorem takeWhile_app (p : UInt8 → Bool) (hp : p 10 = false) (r B : List UInt8) : (r ++ 10 :: B).takeWhile p = r.takeWhile p := by
  induction r with
  | nil => rw [List.nil_append, List.takeWhile_cons_of_neg (by rw [hp]; decide)]; rfl
  | cons x r ih =>
    rw [List.cons_append]
    by_cases h : p x = true
    · rw [List.takeWhile_cons_of_pos h, List.takeWhile_cons_of_pos h, ih]
    · rw [List.takeWhile_cons_of_neg h, List.takeWhile_cons_of_neg h]
theorem pre_app (y r B : List UInt8) (hy : 10 ∉ y) : pre? y (r ++ 10 :: B) = pre? y r := by
  induction y generalizing r with
  | nil => simp [pre?, List.isPrefixOf]
  | cons z y ih =>
    have hz : z ≠ 10 := fun e => hy (by rw [e]; exact List.mem_cons_self ..)
    cases r with
    | nil => simp [pre?, List.isPrefixOf, hz]
    | cons x r =>
      have := ih r (fun h => hy (List.mem_cons_of_mem _ h))
      simp only [pre?] at this
      simp only [pre?, List.cons_append, List.isPrefixOf, this]
theorem find_congr {α : Type} {l : List α} {p q : α → Bool} (h : ∀ y ∈ l, p y = q y) : l.find? p = l.find? q := by
  induction l with
  | nil => rfl
  | cons x l ih =>
    simp only [List.find?]
    rw [h x (List.mem_cons_self ..), ih fun y hy => h y (List.mem_cons_of_mem _ hy)]
theorem sym_no10 : ∀ y ∈ symbols, (10 : UInt8) ∉ y.data.toList := by
  intro y hm
  simp only [symbols, List.mem_cons, List.not_mem_nil, or_false] at hm
  rcases hm with rfl | rfl | rfl | rfl | rfl | rfl | rfl | rfl | rfl | rfl | rfl <;> decide
theorem tokL_app (r B : List UInt8) (hr : r ≠ []) : tokL (r ++ 10 :: B) = tokL r := by
  cases r with
  | nil => exact absurd rfl hr
  | cons x r =>
    have h1 := takeWhile_app partB (by decide) (x :: r) B
    have h2 := takeWhile_app isDig (by decide) (x :: r) B
    have h3 := find_congr (l := symbols) (p := fun y => pre? y.data.toList ((x :: r) ++ 10 :: B)) (q := fun y => pre? y.data.toList (x :: r)) (fun y hy => pre_app _ _ _ (sym_no10 y hy))
    rw [List.cons_append] at h1 h2 h3 ⊢
    unfold tokL
    simp only [h1, h2, h3]
theorem mem_takeWhile {p : UInt8 → Bool} {r : List UInt8} {x : UInt8} (h : x ∈ r.takeWhile p) : p x = true := by
  induction r with
  | nil => cases h
  | cons y r ih =>
    by_cases hy : p y = true
    · rw [List.takeWhile_cons_of_pos hy] at h
      rcases List.mem_cons.1 h with rfl | h
      · exact hy
      · exact ih h
    · rw [List.takeWhile_cons_of_neg hy] at h; cases h
theorem tokL_no10 {r : List UInt8} {k n : Int} {t : List UInt8} (h : tokL r = some (k, t, n)) : 10 ∉ t := by
  unfold tokL at h
  split at h
  · cases h
  · rename_i x r
    split at h
    · have hp : 10 ∉ (x :: r).takeWhile partB := fun hm => absurd (mem_takeWhile hm) (by decide)
      simp only at h
      repeat' split at h
      all_goals first | (cases h; done) | (injection h with h; injection h with h1 h2; injection h2 with h2 h3; subst h2; exact hp)
    · split at h
      · have hp : 10 ∉ (x :: r).takeWhile isDig := fun hm => absurd (mem_takeWhile hm) (by decide)
        simp only at h
        split at h
        · injection h with h; injection h with h1 h2; injection h2 with h2 h3; subst h2; exact hp
        · cases h
      · rw [Option.map_eq_some_iff] at h
        obtain ⟨y, hy, he⟩ := h
        injection he with h1 h2; injection h2 with h2 h3; subst h2
        exact sym_no10 y (List.mem_of_find?_eq_some hy)
theorem nls_tok {r : List UInt8} {k n : Int} {t : List UInt8} (h : tokL r = some (k, t, n)) : nls (r.drop t.length) = nls r := by
  obtain ⟨u, hu⟩ := (tokL_pre h).2.1
  have h10 := tokL_no10 h
  have : nls t = 0 := List.count_eq_zero.2 h10
  rw [← hu, List.drop_left]
  show nls u = (t ++ u).count 10
  rw [List.count_append]
  show nls u = nls t + nls u
  omega

/-- The end's token. -/
def endT (l c : Nat) : Tok := ⟨0, str [], 0, l, c⟩
theorem scanB_app (B : List UInt8) : ∀ (n : Nat) (com : Bool) (A : List UInt8) (l c : Nat), A.length ≤ n →
    (∀ p ts, scanB com A l c = (some p, ts) → ∃ ts', scanB com (A ++ 10 :: B) l c = (some p, ts')) ∧
    (∀ ts, scanB com A l c = (none, ts) → ∃ ts0 l' c', ts = ts0 ++ [endT l' c'] ∧ l' = l + nls A ∧ scanB com (A ++ 10 :: B) l c = addT ts0 (scanB false B (l' + 1) 1)) := by
  intro n
  induction n with
  | zero =>
    intro com A l c hA
    have : A = [] := List.eq_nil_of_length_eq_zero (by omega)
    subst this
    have e : scanB com [] l c = (none, [endT l c]) := by cases com <;> (show scanS [] l c = _; exact scanS_nil l c)
    rw [e]
    refine ⟨fun p ts h => (by cases h), fun ts h => ?_⟩
    injection h with _ h
    exact ⟨[], l, c, h.symm, by simp [nls], by rw [addT_nil, List.nil_append, scanB_nl]⟩
  | succ n ih =>
    intro com A l c hA
    have hs := skipG_app com A B l c
    have hn := skipG_nls com A l c
    have hle := skipG_le com A l c
    generalize hR : skipG com A l c = R at hs hn hle
    obtain ⟨r, l1, c1⟩ := R
    simp only at hs hn hle
    have e1 : scanB com A l c = scanS r l1 c1 := by rw [scanB, hR]
    cases r with
    | nil =>
      rw [if_pos rfl] at hs
      rw [e1, scanS_nil]
      refine ⟨fun p ts h => (by cases h), fun ts h => ?_⟩
      injection h with _ h
      refine ⟨[], l1, c1, h.symm, by simpa [nls] using hn, ?_⟩
      rw [addT_nil, scanB, hs]; rfl
    | cons x r =>
      rw [if_neg (by simp)] at hs
      have e2 : scanB com (A ++ 10 :: B) l c = scanS (x :: r ++ 10 :: B) l1 c1 := by rw [scanB, hs]
      rw [e1, e2]
      have ht := tokL_app (x :: r) B (by simp)
      cases hk : tokL (x :: r) with
      | none =>
        rw [hk] at ht
        rw [scanS_bad _ _ (by simp) hk, scanS_bad _ _ (by simp) ht]
        exact ⟨fun p ts h => ⟨[], by injection h with h1 _; rw [h1]⟩, fun ts h => by injection h with h _; cases h⟩
      | some v =>
        obtain ⟨k, t, m⟩ := v
        rw [hk] at ht
        have hp := tokL_pre hk
        have hpl := hp.2.1.length_le
        rw [scanS_tok _ _ hk, scanS_tok _ _ ht, List.drop_append_of_le_length hpl]
        obtain ⟨h1, h2⟩ := ih false ((x :: r).drop t.length) l1 (c1 + t.length) (by rw [List.length_drop]; omega)
        rcases hX : scanB false ((x :: r).drop t.length) l1 (c1 + t.length) with ⟨f, us⟩
        rw [hX] at h1 h2
        constructor
        · intro p ts h
          simp only [addT, Prod.mk.injEq] at h
          obtain ⟨rfl, _⟩ := h
          obtain ⟨ts', h3⟩ := h1 p us rfl
          exact ⟨_, by rw [h3]; rfl⟩
        · intro ts h
          simp only [addT, Prod.mk.injEq] at h
          obtain ⟨rfl, rfl⟩ := h
          obtain ⟨ts0, l', c', h3, h4, h5⟩ := h2 us rfl
          refine ⟨((if c1 = 1 then [⟨1, str [], 0, l1, c1⟩] else []) ++ [⟨k, str t, m, l1, c1⟩]) ++ ts0, l', c', ?_, ?_, ?_⟩
          · rw [h3, List.append_assoc _ ts0]
          · rw [h4, nls_tok hk]; omega
          · rw [h5, addT_add]

/-- So many lines further down. -/
def shT (d : Nat) (t : Tok) : Tok := ⟨t.k, t.s, t.n, t.l + d, t.c⟩
def shR (d : Nat) (x : Option (Nat × Nat) × List Tok) : Option (Nat × Nat) × List Tok := (x.1.map fun p => (p.1 + d, p.2), x.2.map (shT d))
theorem shR_add (d : Nat) (ts : List Tok) (x : Option (Nat × Nat) × List Tok) : shR d (addT ts x) = addT (ts.map (shT d)) (shR d x) := by simp [shR, addT]
theorem skipG_sh (com : Bool) (r : List UInt8) (l c d : Nat) : skipG com r (l + d) c = ((skipG com r l c).1, (skipG com r l c).2.1 + d, (skipG com r l c).2.2) := by
  induction r generalizing com l c with
  | nil => cases com <;> rfl
  | cons x r ih =>
    cases com with
    | true =>
      simp only [skipG]
      split
      · rw [Nat.add_right_comm]; exact ih ..
      · exact ih ..
    | false =>
      simp only [skipG]
      split
      · rw [Nat.add_right_comm]; exact ih ..
      · split
        · exact ih ..
        · split
          · exact ih ..
          · rfl
theorem scanB_sh (d : Nat) : ∀ (n : Nat) (com : Bool) (A : List UInt8) (l c : Nat), A.length ≤ n → scanB com A (l + d) c = shR d (scanB com A l c) := by
  intro n
  induction n with
  | zero =>
    intro com A l c hA
    have : A = [] := List.eq_nil_of_length_eq_zero (by omega)
    subst this
    have e : ∀ l, scanB com [] l c = (none, [endT l c]) := fun l => by cases com <;> (show scanS [] l c = _; exact scanS_nil l c)
    rw [e, e]
    simp [shR, shT, endT]
  | succ n ih =>
    intro com A l c hA
    have hle := skipG_le com A l c
    rw [scanB, skipG_sh, scanB]
    generalize skipG com A l c = R at hle ⊢
    obtain ⟨r, l1, c1⟩ := R
    simp only at hle ⊢
    cases r with
    | nil => rw [scanS_nil, scanS_nil]; simp [shR, shT]
    | cons x r =>
      cases hk : tokL (x :: r) with
      | none => rw [scanS_bad _ _ (by simp) hk, scanS_bad _ _ (by simp) hk]; rfl
      | some v =>
        obtain ⟨k, t, m⟩ := v
        have hp := tokL_pre hk
        rw [scanS_tok _ _ hk, scanS_tok _ _ hk, ih false _ l1 _ (by rw [List.length_drop]; omega), shR_add]
        congr 1
        by_cases hc : c1 = 1
        · simp [hc, shT]
        · simp [hc, shT]

theorem skipG_line (com : Bool) (r : List UInt8) (l c : Nat) : (skipG com r l c).2.1 + (skipG com r l c).1.length ≤ l + r.length := by
  induction r generalizing com l c with
  | nil => cases com <;> exact Nat.le_refl _
  | cons x r ih =>
    cases com with
    | true =>
      simp only [skipG, List.length_cons]
      split
      · have := ih false (l + 1) 1; omega
      · have := ih true l (c + 1); omega
    | false =>
      simp only [skipG, List.length_cons]
      split
      · have := ih false (l + 1) 1; omega
      · split
        · have := ih false l (c + 1); omega
        · split
          · have := ih true l (c + 1); omega
          · exact Nat.le_refl _
theorem scanB_line : ∀ (n : Nat) (com : Bool) (A : List UInt8) (l c : Nat), A.length ≤ n →
    (∀ p, (scanB com A l c).1 = some p → p.1 ≤ l + A.length) ∧ ∀ t ∈ (scanB com A l c).2, 0 ≤ t.l ∧ t.l ≤ ((l + A.length : Nat) : Int) := by
  intro n
  induction n with
  | zero =>
    intro com A l c hA
    have : A = [] := List.eq_nil_of_length_eq_zero (by omega)
    subst this
    have e : scanB com [] l c = (none, [endT l c]) := by cases com <;> (show scanS [] l c = _; exact scanS_nil l c)
    rw [e]
    refine ⟨fun p h => (by cases h), fun t ht => ?_⟩
    simp only [List.mem_cons, List.not_mem_nil, or_false] at ht
    subst ht
    simp [endT]
  | succ n ih =>
    intro com A l c hA
    have hle := skipG_le com A l c
    have hln := skipG_line com A l c
    rw [scanB]
    generalize skipG com A l c = R at hle hln ⊢
    obtain ⟨r, l1, c1⟩ := R
    simp only at hle hln ⊢
    cases r with
    | nil =>
      rw [scanS_nil]
      refine ⟨fun p h => (by cases h), fun t ht => ?_⟩
      simp only [List.mem_cons, List.not_mem_nil, or_false] at ht
      subst ht
      simp only [List.length_nil] at hln
      exact ⟨by simp, by simp only; omega⟩
    | cons x r =>
      cases hk : tokL (x :: r) with
      | none =>
        rw [scanS_bad _ _ (by simp) hk]
        refine ⟨fun p h => ?_, fun t ht => by cases ht⟩
        injection h with h; subst h; show l1 ≤ _; omega
      | some v =>
        obtain ⟨k, t, m⟩ := v
        have hp := tokL_pre hk
        rw [scanS_tok _ _ hk]
        obtain ⟨h1, h2⟩ := ih false ((x :: r).drop t.length) l1 (c1 + t.length) (by rw [List.length_drop]; omega)
        rw [List.length_drop] at h1 h2
        refine ⟨fun p h => ?_, fun u hu => ?_⟩
        · have := h1 p h; omega
        · simp only [addT, List.mem_append, List.mem_cons, List.not_mem_nil, or_false] at hu
          rcases hu with (hu | rfl) | hu
          · split at hu
            · simp only [List.mem_cons, List.not_mem_nil, or_false] at hu
              subst hu
              exact ⟨by simp, by simp only; omega⟩
            · cases hu
          · exact ⟨by simp, by simp only; omega⟩
          · have := h2 u hu; omega

theorem scanB_len : ∀ (n : Nat) (com : Bool) (A : List UInt8) (l c : Nat), A.length ≤ n → (scanB com A l c).2.length ≤ 2 * A.length + 1 := by
  intro n
  induction n with
  | zero =>
    intro com A l c hA
    have : A = [] := List.eq_nil_of_length_eq_zero (by omega)
    subst this
    have e : scanB com [] l c = (none, [endT l c]) := by cases com <;> (show scanS [] l c = _; exact scanS_nil l c)
    rw [e]; simp
  | succ n ih =>
    intro com A l c hA
    have hle := skipG_le com A l c
    rw [scanB]
    generalize skipG com A l c = R at hle ⊢
    obtain ⟨r, l1, c1⟩ := R
    simp only at hle ⊢
    cases r with
    | nil => rw [scanS_nil]; simp
    | cons x r =>
      cases hk : tokL (x :: r) with
      | none => rw [scanS_bad _ _ (by simp) hk]; simp
      | some v =>
        obtain ⟨k, t, m⟩ := v
        have hp := tokL_pre hk
        rw [scanS_tok _ _ hk]
        have h1 := ih false ((x :: r).drop t.length) l1 (c1 + t.length) (by rw [List.length_drop]; omega)
        rw [List.length_drop] at h1
        simp only [addT, List.length_append, List.length_cons, List.length_nil]
        have h2 : (if c1 = 1 then [(⟨1, str [], 0, l1, c1⟩ : Tok)] else []).length ≤ 1 := by split <;> simp
        have h3 := hp.2.1.length_le
        simp only [List.length_cons] at h1 hle h3
        have := hp.1
        omega
theorem lexes_len (s : ByteArray) : (lexes s).2.2.2.length ≤ 2 * s.size + 1 := by
  have h := scanB_len s.data.toList.length false s.data.toList 1 1 (Nat.le_refl _)
  rw [length_data] at h
  unfold lexes
  split
  · simp
  · rcases hX : scanB false s.data.toList 1 1 with ⟨_ | ⟨l, c⟩, ts⟩
    · rw [hX] at h; exact h
    · simp

/-- Two texts, one behind the other. -/
theorem lex_join (a b s : ByteArray) (ha : a.size ≤ 1500) (hb : b.size ≤ 1500) (hs : s.data.toList = a.data.toList ++ 10 :: b.data.toList) :
    (∃ l c : Int, lexes a = (1, l, c, []) ∧ lexes s = (1, l, c, [])) ∨
    (∃ ts0 e, lexes a = (0, 0, 0, ts0 ++ [e]) ∧ ((∃ l c : Int, lexes b = (1, l, c, []) ∧ 0 ≤ l ∧ l ≤ 2000 ∧ lexes s = (1, l + ((1 + nls a.data.toList : Nat) : Int), c, [])) ∨
      (∃ m, lexes b = (0, 0, 0, m) ∧ (∀ t ∈ m, 0 ≤ t.l ∧ t.l ≤ 2000) ∧ lexes s = (0, 0, 0, ts0 ++ m.map (shT (1 + nls a.data.toList)))))) := by
  have h1 : ¬ 4096 < a.size := by omega
  have h2 : ¬ 4096 < b.size := by omega
  have h3 : ¬ 4096 < s.size := by
    have := length_data s
    rw [hs, List.length_append, List.length_cons, length_data, length_data] at this
    omega
  obtain ⟨k1, k2⟩ := scanB_app b.data.toList a.data.toList.length false a.data.toList 1 1 (Nat.le_refl _)
  rw [← hs] at k1 k2
  obtain ⟨hl1, hl2⟩ := scanB_line b.data.toList.length false b.data.toList 1 1 (Nat.le_refl _)
  rw [length_data] at hl1 hl2
  have hsh := scanB_sh (1 + nls a.data.toList) b.data.toList.length false b.data.toList 1 1 (Nat.le_refl _)
  rcases hA : scanB false a.data.toList 1 1 with ⟨_ | ⟨l, c⟩, ts⟩
  · obtain ⟨ts0, l', c', e1, e2, e3⟩ := k2 ts hA
    refine .inr ⟨ts0, endT l' c', by rw [lexes_ok a h1 hA, e1], ?_⟩
    rw [e2, Nat.add_assoc 1, Nat.add_comm (nls a.data.toList) 1, hsh] at e3
    rcases hB : scanB false b.data.toList 1 1 with ⟨_ | ⟨l2, c2⟩, m⟩
    · rw [hB] at e3
      rw [hB] at hl2
      exact .inr ⟨m, lexes_ok b h2 hB, fun t ht => by have := hl2 t ht; omega, lexes_ok s h3 (by rw [e3]; rfl)⟩
    · rw [hB] at e3
      rw [hB] at hl1
      refine .inl ⟨l2, c2, lexes_bad b h2 hB, by omega, by have := hl1 _ rfl; simp only at this; omega, ?_⟩
      rw [lexes_bad s h3 (ts := ts0 ++ m.map (shT (1 + nls a.data.toList))) (l := l2 + (1 + nls a.data.toList)) (c := c2) (by rw [e3]; rfl)]
      rw [Int.natCast_add]
  · obtain ⟨ts', e⟩ := k1 (l, c) ts hA
    exact .inl ⟨l, c, lexes_bad a h1 hA, lexes_bad s h3 e⟩
end Go.Proofs.Ytppejoccljfblaa
