/-
  Tokens told as a text, and read back, in plain words. No program, no condition.
-/
import Derived.Test.YtppejoccljfblaaLexJoin
namespace Go.Proofs.Ytppejoccljfblaa

/-- Tokens as a text: fresh: a line has just begun; first: nothing stands ahead. -/
def showL : Bool → Bool → List Tok → List UInt8
  | _, _, [] => []
  | fresh, first, t :: ts =>
    if t.k = 0 then showL fresh false ts
    else if t.k = 1 then (if first then [] else [10]) ++ showL true false ts
    else (if fresh then [] else [32]) ++ (t.s.data.toList ++ showL false false ts)

/-- What stands behind a token. -/
def Gap (r : List UInt8) : Prop := r = [] ∨ ∃ x u, r = x :: u ∧ (x = 32 ∨ x = 10)
/-- A token that reads back wherever it ends. -/
structure Vt (t : Tok) : Prop where
  read : ∀ r, Gap r → tokL (t.s.data.toList ++ r) = some (t.k, t.s.data.toList, t.n)
  here : ∀ r, Gap r → ∀ l c, skipG false (t.s.data.toList ++ r) l c = (t.s.data.toList ++ r, l, c)
inductive Good : List Tok → Prop
  | stop (l c : Int) : Good [⟨0, str [], 0, l, c⟩]
  | tok (t : Tok) (ts : List Tok) (h : Vt t) (hk : 1 < t.k) (hg : Good ts) : Good (t :: ts)
  | item (i t : Tok) (ts : List Tok) (hi : i.k = 1 ∧ i.s = str [] ∧ i.n = 0) (h : Vt t) (hk : 1 < t.k) (hg : Good ts) : Good (i :: t :: ts)
theorem Good.gap {ts : List Tok} (h : Good ts) : Gap (showL false false ts) := by
  cases h with
  | stop l c => exact .inl (by simp [showL])
  | tok t ts h hk hg =>
    have h0 : ¬ t.k = 0 := by omega
    have h1 : ¬ t.k = 1 := by omega
    simp only [showL, if_neg h0, if_neg h1]
    exact .inr ⟨32, _, rfl, .inl rfl⟩
  | item i t ts hi h hk hg =>
    have h0 : ¬ i.k = 0 := by rw [hi.1]; decide
    simp only [showL, if_neg h0, if_pos hi.1]
    exact .inr ⟨10, _, rfl, .inr rfl⟩
def stripT (t : Tok) : Int × ByteArray × Int := (t.k, t.s, t.n)
theorem scan_show {ts : List Tok} (h : Good ts) : ∀ (first : Bool) (l c : Nat), (first = true → c = 1) → 1 ≤ c → ∃ us, scanB false (showL false first ts) l c = (none, us) ∧ us.map stripT = ts.map stripT := by
  induction h with
  | stop l0 c0 =>
    intro first l c _ _
    refine ⟨[⟨0, str [], 0, l, c⟩], ?_, rfl⟩
    have : showL false first [⟨0, str [], 0, l0, c0⟩] = [] := by cases first <;> simp [showL]
    rw [this]
    show scanS [] l c = _
    exact scanS_nil l c
  | tok t ts h hk hg ih =>
    intro first l c hf hc
    have h0 : ¬ t.k = 0 := by omega
    have h1 : ¬ t.k = 1 := by omega
    have e : showL false first (t :: ts) = 32 :: (t.s.data.toList ++ showL false false ts) := by simp only [showL, if_neg h0, if_neg h1]; rfl
    obtain ⟨us, e2, e3⟩ := ih false l (c + 1 + t.s.data.toList.length) (fun h => by cases h) (by omega)
    refine ⟨(⟨t.k, t.s, t.n, l, ((c + 1 : Nat) : Int)⟩ : Tok) :: us, ?_, ?_⟩
    · rw [e, scanB_sp, scanB_at (h.here _ hg.gap _ _), scanS_tok _ _ (h.read _ hg.gap), List.drop_left, e2, if_neg (by omega), show str t.s.data.toList = t.s from str_eta t.s]
      rfl
    · simp [stripT, ← e3]
  | item i t ts hi h hk hg ih =>
    intro first l c hf hc
    have h0 : ¬ i.k = 0 := by rw [hi.1]; decide
    have h2 : ¬ t.k = 0 := by omega
    have h3 : ¬ t.k = 1 := by omega
    have e : showL false first (i :: t :: ts) = (if first then [] else [10]) ++ (t.s.data.toList ++ showL false false ts) := by
      simp only [showL, if_neg h0, if_pos hi.1, if_neg h2, if_neg h3]; rfl
    cases first with
    | true =>
      obtain rfl := hf rfl
      obtain ⟨us, e2, e3⟩ := ih false l (1 + t.s.data.toList.length) (fun h => by cases h) (by omega)
      refine ⟨(⟨1, str [], 0, l, ((1 : Nat) : Int)⟩ : Tok) :: ⟨t.k, t.s, t.n, l, ((1 : Nat) : Int)⟩ :: us, ?_, ?_⟩
      · rw [e]
        simp only [if_true, List.nil_append]
        rw [scanB_at (h.here _ hg.gap _ _), scanS_tok _ _ (h.read _ hg.gap), List.drop_left, e2, if_pos rfl, show str t.s.data.toList = t.s from str_eta t.s]
        rfl
      · simp [stripT, ← e3, hi.1, hi.2.1, hi.2.2]
    | false =>
      obtain ⟨us, e2, e3⟩ := ih false (l + 1) (1 + t.s.data.toList.length) (fun h => by cases h) (by omega)
      refine ⟨(⟨1, str [], 0, ((l + 1 : Nat) : Int), ((1 : Nat) : Int)⟩ : Tok) :: ⟨t.k, t.s, t.n, ((l + 1 : Nat) : Int), ((1 : Nat) : Int)⟩ :: us, ?_, ?_⟩
      · rw [e]
        simp only [Bool.false_eq_true, if_false, List.cons_append, List.nil_append]
        rw [scanB_nl, scanB_at (h.here _ hg.gap _ _), scanS_tok _ _ (h.read _ hg.gap), List.drop_left, e2, if_pos rfl, show str t.s.data.toList = t.s from str_eta t.s]
        rfl
      · simp [stripT, ← e3, hi.1, hi.2.1, hi.2.2]

theorem takeWhile_gap (p : UInt8 → Bool) (h32 : p 32 = false) (h10 : p 10 = false) (t r : List UInt8) (ht : ∀ x ∈ t, p x = true) (hr : Gap r) : (t ++ r).takeWhile p = t := by
  rw [List.takeWhile_append_of_pos ht]
  rcases hr with rfl | ⟨x, u, rfl, hx⟩
  · simp
  · rw [List.takeWhile_cons_of_neg (by rcases hx with rfl | rfl <;> simp [h32, h10])]; simp
theorem pre_gap (y t r : List UInt8) (hr : Gap r) (h10 : 10 ∉ y) (h32 : 32 ∉ y) : pre? y (t ++ r) = pre? y t := by
  rcases hr with rfl | ⟨x, u, rfl, hx⟩
  · simp
  · induction y generalizing t with
    | nil => simp [pre?, List.isPrefixOf]
    | cons z y ih =>
      have hz : z ≠ x := fun e => by
        rcases hx with rfl | rfl
        · exact h32 (by rw [e]; exact List.mem_cons_self ..)
        · exact h10 (by rw [e]; exact List.mem_cons_self ..)
      cases t with
      | nil => simp [pre?, List.isPrefixOf, hz]
      | cons w t =>
        have := ih t (fun h => h10 (List.mem_cons_of_mem _ h)) (fun h => h32 (List.mem_cons_of_mem _ h))
        simp only [pre?] at this
        simp only [pre?, List.cons_append, List.isPrefixOf, this]
theorem sym_no32 : ∀ y ∈ symbols, (32 : UInt8) ∉ y.data.toList := by
  intro y hm
  simp only [symbols, List.mem_cons, List.not_mem_nil, or_false] at hm
  rcases hm with rfl | rfl | rfl | rfl | rfl | rfl | rfl | rfl | rfl | rfl | rfl <;> decide
theorem sym_ne : ∀ y ∈ symbols, y.data.toList ≠ [] := by
  intro y hm
  simp only [symbols, List.mem_cons, List.not_mem_nil, or_false] at hm
  rcases hm with rfl | rfl | rfl | rfl | rfl | rfl | rfl | rfl | rfl | rfl | rfl <;> decide
theorem sym_dash : ∀ y ∈ symbols, y.data.toList.head? = some 45 → y.data.toList = [45] := by
  intro y hm
  simp only [symbols, List.mem_cons, List.not_mem_nil, or_false] at hm
  rcases hm with rfl | rfl | rfl | rfl | rfl | rfl | rfl | rfl | rfl | rfl | rfl <;> decide
/-- A token that was read reads back. -/
theorem tok_back {r : List UInt8} {k n : Int} {t : List UInt8} (h : tokL r = some (k, t, n)) (g : List UInt8) (hg : Gap g) : tokL (t ++ g) = some (k, t, n) := by
  have hp := tokL_pre h
  cases r with
  | nil => cases h
  | cons x r =>
    have hx : ∃ t', t = x :: t' := by
      obtain ⟨u, hu⟩ := hp.2.1
      cases t with
      | nil => exact absurd hp.1 (by decide)
      | cons y t' => injection hu with h1 _; exact ⟨t', by rw [h1]⟩
    obtain ⟨t', ht'⟩ := hx
    unfold tokL at h
    simp only at h
    unfold tokL
    by_cases hc : cls x.toNat = 1 ∨ cls x.toNat = 2
    · simp only [if_pos hc] at h
      have ht : t = (x :: r).takeWhile partB := by
        repeat' split at h
        all_goals first | (cases h; done) | (injection h with h; injection h with h1 h2; injection h2 with h2 h3; exact h2.symm)
      have e : (t ++ g).takeWhile partB = t := takeWhile_gap partB (by decide) (by decide) t g (fun y hy => by rw [ht] at hy; exact mem_takeWhile hy) hg
      rw [← ht] at h
      rw [ht'] at e h ⊢
      simp only [List.cons_append, if_pos hc] at e ⊢
      rw [e]; exact h
    · simp only [if_neg hc] at h
      by_cases h3 : cls x.toNat = 3
      · simp only [if_pos h3] at h
        have ht : t = (x :: r).takeWhile isDig := by
          split at h
          · injection h with h; injection h with h1 h2; injection h2 with h2 h3; exact h2.symm
          · cases h
        have e : (t ++ g).takeWhile isDig = t := takeWhile_gap isDig (by decide) (by decide) t g (fun y hy => by rw [ht] at hy; exact mem_takeWhile hy) hg
        rw [← ht] at h
        rw [ht'] at e h ⊢
        simp only [List.cons_append, if_neg hc, if_pos h3] at e ⊢
        rw [e]; exact h
      · simp only [if_neg h3] at h
        rw [Option.map_eq_some_iff] at h
        obtain ⟨y, hy, he⟩ := h
        injection he with h1 h2; injection h2 with h2 h4
        have hm := List.mem_of_find?_eq_some hy
        have e : symbols.find? (fun z => pre? z.data.toList (t ++ g)) = some y := by
          rw [find_congr (q := fun z => pre? z.data.toList t) (fun z hz => pre_gap _ _ _ hg (sym_no10 z hz) (sym_no32 z hz))]
          rw [List.find?_eq_some_iff_append] at hy ⊢
          obtain ⟨hy1, l1, l2, e1, e2⟩ := hy
          refine ⟨by rw [h2, pre?]; exact List.isPrefixOf_iff_prefix.2 (List.prefix_refl _), l1, l2, e1, fun z hz => ?_⟩
          have := e2 z hz
          simp only [Bool.not_eq_true', pre?] at this ⊢
          rw [Bool.eq_false_iff] at this ⊢
          intro hh
          exact this (List.isPrefixOf_iff_prefix.2 ((List.isPrefixOf_iff_prefix.1 hh).trans hp.2.1))
        rw [ht'] at e ⊢
        simp only [List.cons_append, if_neg hc, if_neg h3] at e ⊢
        rw [e]
        simp only [Option.map_some, Option.some.injEq, Prod.mk.injEq]
        exact ⟨h1, by rw [h2, ht'], h4⟩
theorem here_of {x : UInt8} {r : List UInt8} {l c : Nat} (h : skipG false (x :: r) l c = (x :: r, l, c)) : x ≠ 10 ∧ x ≠ 32 ∧ ¬ (x = 45 ∧ r.head? = some 45) := by
  have key : ∀ com l' c', skipG com r l' c' ≠ (x :: r, l, c) := fun com l' c' e => by
    have h5 := skipG_le com r l' c'
    rw [e] at h5
    simp only [List.length_cons] at h5
    omega
  simp only [skipG] at h
  refine ⟨fun e => ?_, fun e => ?_, fun e => ?_⟩
  · rw [if_pos e] at h; exact key _ _ _ h
  · rw [if_neg (by rw [e]; decide), if_pos e] at h; exact key _ _ _ h
  · rw [if_neg (by rw [e.1]; decide), if_neg (by rw [e.1]; decide), if_pos e] at h; exact key _ _ _ h
theorem vt_of {x : UInt8} {r : List UInt8} {k n : Int} {t : List UInt8} (h : tokL (x :: r) = some (k, t, n)) (hs : x ≠ 10 ∧ x ≠ 32) (l c : Int) : Vt ⟨k, str t, n, l, c⟩ := by
  have hp := tokL_pre h
  refine ⟨fun g hg => tok_back h g hg, fun g hg l c => ?_⟩
  show skipG false (t ++ g) l c = (t ++ g, l, c)
  obtain ⟨u, hu⟩ := hp.2.1
  cases t with
  | nil => exact absurd hp.1 (by decide)
  | cons y t' =>
    injection hu with h1 h2
    subst h1
    have hx10 := hs.1
    have hx32 := hs.2
    refine skipG_here _ _ hx10 hx32 (fun hh => ?_)
    obtain ⟨rfl, hh2⟩ := hh
    have h45 : tokL (45 :: r) = some (k, 45 :: t', n) := h
    have : t' = [] := by
      unfold tokL at h45
      have hc : ¬ (cls (45 : UInt8).toNat = 1 ∨ cls (45 : UInt8).toNat = 2) := by decide
      have h3 : ¬ cls (45 : UInt8).toNat = 3 := by decide
      simp only [if_neg hc, if_neg h3] at h45
      rw [Option.map_eq_some_iff] at h45
      obtain ⟨z, hz, he⟩ := h45
      injection he with _ h2; injection h2 with h2 _
      have := sym_dash z (List.mem_of_find?_eq_some hz) (by rw [h2]; rfl)
      rw [h2] at this
      injection this
    subst this
    rcases hg with rfl | ⟨w, u', rfl, hw⟩
    · simp at hh2
    · have hw45 : w = 45 := by simpa using hh2
      subst hw45
      rcases hw with h | h <;> exact absurd h (by decide)
/-- Whatever is read reads back. -/
theorem scan_good : ∀ (n : Nat) (com : Bool) (A : List UInt8) (l c : Nat) (ts : List Tok), A.length ≤ n → scanB com A l c = (none, ts) → Good ts := by
  intro n
  induction n with
  | zero =>
    intro com A l c ts hA h
    have : A = [] := List.eq_nil_of_length_eq_zero (by omega)
    subst this
    have e : scanB com [] l c = (none, [endT l c]) := by cases com <;> (show scanS [] l c = _; exact scanS_nil l c)
    rw [e] at h
    injection h with _ h
    subst h
    exact .stop _ _
  | succ n ih =>
    intro com A l c ts hA h
    have hle := skipG_le com A l c
    have hid := skipG_idem com A l c
    rw [scanB] at h
    generalize skipG com A l c = R at hle hid h
    obtain ⟨r, l1, c1⟩ := R
    replace hle : r.length ≤ A.length := hle
    replace h : scanS r l1 c1 = (none, ts) := h
    replace hid : skipG false r l1 c1 = (r, l1, c1) := hid
    cases r with
    | nil =>
      rw [scanS_nil] at h
      injection h with _ h
      subst h
      exact .stop _ _
    | cons x r =>
      cases hk : tokL (x :: r) with
      | none => rw [scanS_bad _ _ (by simp) hk] at h; cases h
      | some v =>
        obtain ⟨k, t, m⟩ := v
        have hp := tokL_pre hk
        rw [scanS_tok _ _ hk] at h
        rcases hX : scanB false ((x :: r).drop t.length) l1 (c1 + t.length) with ⟨f, us⟩
        rw [hX] at h
        simp only [addT, Prod.mk.injEq] at h
        obtain ⟨rfl, rfl⟩ := h
        have hg := ih false _ _ _ us (by rw [List.length_drop]; omega) hX
        have hs := here_of hid
        have hv := vt_of hk ⟨hs.1, hs.2.1⟩ l1 c1
        by_cases hc : c1 = 1
        · rw [if_pos hc]
          exact .item _ _ _ ⟨rfl, rfl, rfl⟩ hv hp.2.2 hg
        · rw [if_neg hc]
          exact .tok _ _ hv hp.2.2 hg
end Go.Proofs.Ytppejoccljfblaa
