/-
  Expressions that are alike, places aside or not. Plain. No condition.
-/
import Derived.Test.YtcoiagfeoonpbaaMj2
import Derived.Test.YtcoiagfeoonpbaaMj3
namespace Go.Proofs.Ytcoiagfeoonpbaa
inductive SamE (p : Bool) : Ex → Ex → Prop
  | mk (k : Int) (s : ByteArray) (n : Int) (xs ys : List Ex) (l c l' c' : Int) (hl : xs.length = ys.length) (ha : ∀ i (h1 : i < xs.length) (h2 : i < ys.length), SamE p xs[i] ys[i]) (hp : p = true → l = l' ∧ c = c') : SamE p (.mk k s n xs l c) (.mk k s n ys l' c')
theorem SamE.refl (p : Bool) : ∀ (m : Nat) (x : Ex), SizeOf.sizeOf x ≤ m → SamE p x x
  | 0, .mk k s n xs l c, h => by simp at h
  | m + 1, .mk k s n xs l c, h => .mk k s n xs xs l c l c rfl (fun i h1 _ => SamE.refl p m xs[i] (by
      have h3 := List.sizeOf_lt_of_mem (List.getElem_mem h1)
      simp at h
      omega)) fun _ => ⟨rfl, rfl⟩
end Go.Proofs.Ytcoiagfeoonpbaa

/-
  Brackets around tokens: what is read inside is the same, one place further on and one level deeper, or there are forty that open. Plain law. No condition.
-/
namespace Go.Proofs.Ytcoiagfeoonpbaa
def TkS (t u : Tk) : Prop := t.k = u.k ∧ t.s = u.s ∧ t.n = u.n
def openT (t : Tk) : Bool := (decide (t.k = 5) && (decide (t.s = wLet) || decide (t.s = wIf))) || (decide (t.k = 6) && decide (t.s = wOpen))
theorem isT_parts {ts : List Tk} {i : Nat} {k : Int} {s : ByteArray} (h : isT ts i k s = true) : (nowT ts i).k = k ∧ (nowT ts i).s = s := by
  unfold isT at h
  rw [Bool.and_eq_true, decide_eq_true_eq, decide_eq_true_eq] at h
  exact h
structure Brk (ts us : List Tk) (p : Nat) : Prop where
  tk : ∀ i, i < p → TkS (nowT ts i) (nowT us (i + 1))
  en : (nowT ts p).k = 0
  ck : (nowT us (p + 1)).k = 6
  cs : (nowT us (p + 1)).s = wClose
section
variable {ts us : List Tk} {p : Nat}
theorem Brk.is (H : Brk ts us p) {i : Nat} {k : Int} {s : ByteArray} (h : isT ts i k s = true) (hk : k ≠ 0) (hi : i ≤ p) : i < p ∧ isT us (i + 1) k s = true := by
  have h1 := isT_ne H.en h hk
  have h2 : i < p := by omega
  obtain ⟨e1, e2, _⟩ := H.tk i h2
  unfold isT at h ⊢
  rw [← e1, ← e2]
  exact ⟨h2, h⟩
theorem Brk.no (H : Brk ts us p) {i : Nat} {k : Int} {s : ByteArray} (h : isT ts i k s = false) (hi : i ≤ p) (hk : ¬ (k = 6 ∧ s = wClose)) : isT us (i + 1) k s = false := by
  by_cases h2 : i < p
  · obtain ⟨e1, e2, _⟩ := H.tk i h2
    unfold isT at h ⊢
    rw [← e1, ← e2]
    exact h
  · obtain rfl : i = p := by omega
    unfold isT
    rw [H.ck, H.cs, Bool.and_eq_false_iff]
    by_cases e : k = 6
    · right
      rw [decide_eq_false_iff_not]
      exact fun e2 => hk ⟨e, e2.symm⟩
    · left
      rw [decide_eq_false_iff_not]
      exact fun e2 => e e2.symm
theorem mkS {k n l c l' c' : Int} {s : ByteArray} {xs ys : List Ex} (h : All2 (SamE false) xs ys) : SamE false (.mk k s n xs l c) (.mk k s n ys l' c') :=
  .mk k s n xs ys l c l' c' h.len (fun i h1 h2 => h.at i h1 h2) fun h => by cases h
theorem plainS {t u : Tk} (h : TkS t u) {x : Ex} (hx : plainE t = some x) : ∃ y, plainE u = some y ∧ SamE false x y := by
  obtain ⟨e1, e2, e3⟩ := h
  unfold plainE at hx ⊢
  rw [← e1, ← e2, ← e3]
  split at hx
  · rename_i h; cases hx; exact ⟨_, by rw [if_pos h], mkS .nil⟩
  · split at hx
    · rename_i h1 h; cases hx; exact ⟨_, by rw [if_neg h1, if_pos h], mkS .nil⟩
    · split at hx
      · rename_i h1 h2 h; cases hx; exact ⟨_, by rw [if_neg h1, if_neg h2, if_pos h], mkS .nil⟩
      · cases hx
theorem plainN {t u : Tk} (h : TkS t u) (hx : plainE t = none) : plainE u = none := by
  obtain ⟨e1, e2, e3⟩ := h
  unfold plainE at hx ⊢
  rw [← e1]
  repeat' split at hx
  all_goals first | (cases hx; done) | (rename_i h1 h2 h3; rw [if_neg h1, if_neg h2, if_neg h3])
theorem Brk.starts (H : Brk ts us p) {i : Nat} (hi : i ≤ p) : startsE (nowT us (i + 1)) = startsE (nowT ts i) := by
  by_cases h2 : i < p
  · obtain ⟨e1, e2, _⟩ := H.tk i h2
    unfold startsE
    rw [← e1, ← e2]
  · obtain rfl : i = p := by omega
    unfold startsE
    rw [H.ck, H.cs, H.en, show decide (wClose = wOpen) = false from by decide]
    simp
theorem Brk.binds (H : Brk ts us p) {i rank : Nat} (hi : i ≤ p) (hr : 1 ≤ rank) : ((nowT us (i + 1)).k = 6 ∧ bindsE (nowT us (i + 1)).s = rank) ↔ ((nowT ts i).k = 6 ∧ bindsE (nowT ts i).s = rank) := by
  by_cases h2 : i < p
  · obtain ⟨e1, e2, _⟩ := H.tk i h2
    rw [← e1, ← e2]
  · obtain rfl : i = p := by omega
    rw [H.ck, H.cs, H.en]
    constructor
    · intro ⟨_, h⟩
      have : bindsE wClose = 0 := by decide
      omega
    · intro ⟨h, _⟩
      omega
end
inductive NtS : Nt → Nt → Prop
  | expr : NtS .expr .expr
  | or : NtS .or .or
  | left (r : Nat) (h : 1 ≤ r) : NtS (.left r) (.left r)
  | more (r : Nat) (h : 1 ≤ r) {x y : Ex} (hx : SamE false x y) : NtS (.more r x) (.more r y)
  | apps {l m : List Ex} (h : All2 (SamE false) l m) : NtS (.apps l) (.apps m)
  | atom : NtS .atom .atom
def SimE (Z : Prop) (x : Ex) (j : Nat) (r : Option Rd1) : Prop := (∃ y, r = some (.ok y (j + 1)) ∧ SamE false x y) ∨ ((∃ l c, r = some (.bad l c)) ∧ Z)
theorem SimE.and {Z : Prop} {x z : Ex} {k j : Nat} {Y : Option Rd1} {G : Ex → Nat → Option Rd1} (h : SimE Z x k Y) (hg : ∀ y, SamE false x y → SimE Z z j (G y (k + 1))) : SimE Z z j (andT Y G) := by
  rcases h with ⟨y, hy, hs⟩ | ⟨⟨l, c, hb⟩, hz⟩
  · rw [hy]; exact hg y hs
  · rw [hb]; exact .inr ⟨⟨l, c, rfl⟩, hz⟩
theorem appS {l m : List Ex} (h : All2 (SamE false) l m) : SamE false (appE l) (appE m) := by
  cases h with
  | nil => exact mkS .nil
  | cons h t =>
    cases t with
    | nil => exact h
    | cons h2 t => exact mkS (.cons h (.cons h2 t))
end Go.Proofs.Ytcoiagfeoonpbaa

/-
  Tokens that stand behind others: what is read is the same but for places: the plain models of the parser and of the module reader. Plain law. No condition.
-/
namespace Go.Proofs.Ytcoiagfeoonpbaa
structure Sh (ts us : List Tk) (o p : Nat) : Prop where
  tk : ∀ i, i < p → TkS (nowT ts i) (nowT us (o + i))
  en : (nowT ts p).k = 0
  eu : (nowT us (o + p)).k = 0 ∨ (nowT us (o + p)).k = 1
section
variable {ts us : List Tk} {o p : Nat}
theorem Sh.is (H : Sh ts us o p) {i : Nat} {k : Int} {s : ByteArray} (h : isT ts i k s = true) (hk : k ≠ 0) (hi : i ≤ p) : i < p ∧ isT us (o + i) k s = true := by
  have h1 := isT_ne H.en h hk
  have h2 : i < p := by omega
  obtain ⟨e1, e2, _⟩ := H.tk i h2
  unfold isT at h ⊢
  rw [← e1, ← e2]
  exact ⟨h2, h⟩
theorem Sh.no (H : Sh ts us o p) {i : Nat} {k : Int} {s : ByteArray} (h : isT ts i k s = false) (hi : i ≤ p) (hk : 1 < k) : isT us (o + i) k s = false := by
  by_cases h2 : i < p
  · obtain ⟨e1, e2, _⟩ := H.tk i h2
    unfold isT at h ⊢
    rw [← e1, ← e2]
    exact h
  · obtain rfl : i = p := by omega
    unfold isT
    rw [Bool.and_eq_false_iff, decide_eq_false_iff_not]
    left
    rcases H.eu with h | h <;> omega
theorem Sh.starts (H : Sh ts us o p) {i : Nat} (hi : i ≤ p) : startsE (nowT us (o + i)) = startsE (nowT ts i) := by
  by_cases h2 : i < p
  · obtain ⟨e1, e2, _⟩ := H.tk i h2
    unfold startsE
    rw [← e1, ← e2]
  · obtain rfl : i = p := by omega
    unfold startsE
    rw [H.en]
    rcases H.eu with h | h <;> (rw [h]; simp)
theorem Sh.kind (H : Sh ts us o p) {i : Nat} (hi : i ≤ p) {k : Int} (hk : 1 < k) : (nowT us (o + i)).k = k ↔ (nowT ts i).k = k := by
  by_cases h2 : i < p
  · rw [← (H.tk i h2).1]
  · obtain rfl : i = p := by omega
    rw [H.en]
    rcases H.eu with h | h <;> (rw [h]; try omega)
theorem Sh.binds (H : Sh ts us o p) {i rank : Nat} (hi : i ≤ p) : ((nowT us (o + i)).k = 6 ∧ bindsE (nowT us (o + i)).s = rank) ↔ ((nowT ts i).k = 6 ∧ bindsE (nowT ts i).s = rank) := by
  by_cases h2 : i < p
  · obtain ⟨e1, e2, _⟩ := H.tk i h2
    rw [← e1, ← e2]
  · obtain rfl : i = p := by omega
    rw [H.en]
    constructor
    · intro ⟨h, _⟩; rcases H.eu with h' | h' <;> omega
    · intro ⟨h, _⟩; omega
theorem Sh.plainN (H : Sh ts us o p) {i : Nat} (hi : i ≤ p) (h : plainE (nowT ts i) = none) : plainE (nowT us (o + i)) = none := by
  by_cases h2 : i < p
  · exact _root_.Go.Proofs.Ytcoiagfeoonpbaa.plainN (H.tk i h2) h
  · obtain rfl : i = p := by omega
    unfold plainE
    rcases H.eu with h' | h' <;> (rw [h']; simp)
end
inductive NtT : Nt → Nt → Prop
  | expr : NtT .expr .expr
  | or : NtT .or .or
  | left (r : Nat) : NtT (.left r) (.left r)
  | more (r : Nat) {x y : Ex} (hx : SamE false x y) : NtT (.more r x) (.more r y)
  | apps {l m : List Ex} (h : All2 (SamE false) l m) : NtT (.apps l) (.apps m)
  | atom : NtT .atom .atom
  | pat : NtT .pat .pat
  | pats {l m : List Ex} (h : All2 (SamE false) l m) : NtT (.pats l) (.pats m)
def SimS (o : Nat) (x : Ex) (j : Nat) (r : Option Rd1) : Prop := ∃ y, r = some (.ok y (o + j)) ∧ SamE false x y
theorem SimS.and {o : Nat} {x z : Ex} {k j : Nat} {Y : Option Rd1} {G : Ex → Nat → Option Rd1} (h : SimS o x k Y) (hg : ∀ y, SamE false x y → SimS o z j (G y (o + k))) : SimS o z j (andT Y G) := by
  obtain ⟨y, hy, hs⟩ := h
  rw [hy]; exact hg y hs
theorem simS {ts us : List Tk} {o p : Nat} (H : Sh ts us o p) : ∀ (f g : Nat) (nt nt' : Nt) (i deep : Nat) (x : Ex) (j : Nat), f ≤ g → NtT nt nt' → i ≤ p → readE ts f nt i deep = some (.ok x j) → SimS o x j (readE us g nt' (o + i) deep) := by
  intro f
  induction f with
  | zero => intro g nt nt' i deep x j _ _ _ h; rw [readE] at h; cases h
  | succ f ih =>
    intro g nt nt' i deep x j hfg hn hi h
    obtain ⟨g, rfl⟩ : ∃ k, g = k + 1 := ⟨g - 1, by omega⟩
    have hfg' : f ≤ g := by omega
    have stop := fun nt i deep e j => readE_stop (ts := ts) H.en f nt i deep e j
    have fwd := fun nt i deep e j => readE_fwd (ts := ts) f nt i deep e j
    cases hn with
    | expr =>
      rw [readE] at h ⊢
      try simp only [Nat.add_assoc]
      split at h
      · rename_i hlet
        obtain ⟨g0, u0⟩ := H.is hlet (by decide) hi
        rw [if_pos u0]
        split at h
        · unfold badT at h; cases h
        · rename_i h40
          split at h
          · unfold badT at h; cases h
          · rename_i hnm
            have hk2 := Decidable.not_not.1 hnm
            have g1 : i + 1 ≠ p := now_ne H.en (by rw [hk2]; decide)
            obtain ⟨e1, e2, e3⟩ := H.tk (i + 1) (by omega)
            rw [if_neg h40, if_neg (by rw [← e1, hk2]; decide)]
            split at h
            · rename_i hfree
              obtain ⟨g2, u2⟩ := H.is hfree (by decide) (by omega)
              rw [if_pos u2]
              obtain ⟨h0, h⟩ := takeT_ok h
              obtain ⟨g3, u3⟩ := H.is h0 (by decide) (by omega)
              rw [takeT, if_pos u3]
              obtain ⟨x, k, h1, h2⟩ := andT_ok h
              cases h2
              refine (ih g .expr .expr _ _ _ _ hfg' .expr (by omega) h1).and fun y hy => ⟨_, rfl, ?_⟩
              · rw [e2]; exact mkS (.cons hy .nil)
            · rename_i hfree
              rw [if_neg (by rw [H.no (Bool.eq_false_iff.2 hfree) (by omega) (by decide)]; decide)]
              obtain ⟨h0, h⟩ := takeT_ok h
              obtain ⟨g3, u3⟩ := H.is h0 (by decide) (by omega)
              rw [takeT, if_pos u3]
              obtain ⟨x, k, h1, h2⟩ := andT_ok h
              have s1 := stop _ _ _ _ _ (by omega) h1
              have f1 := fwd _ _ _ _ _ h1
              simp only [Fwd] at f1
              obtain ⟨h3, h2⟩ := takeT_ok h2
              obtain ⟨g4, u4⟩ := H.is h3 (by decide) s1
              obtain ⟨y, m, h5, h6⟩ := andT_ok h2
              cases h6
              refine (ih g .expr .expr _ _ _ _ hfg' .expr (by omega) h1).and fun x' hx => ?_
              try simp only [Nat.add_assoc]
              rw [takeT, if_pos u4]
              refine (ih g .expr .expr _ _ _ _ hfg' .expr (by omega) h5).and fun y' hy => ⟨_, rfl, ?_⟩
              · rw [e2]; exact mkS (.cons hx (.cons hy .nil))
      · rename_i hlet
        rw [if_neg (by rw [H.no (Bool.eq_false_iff.2 hlet) hi (by decide)]; decide)]
        split at h
        · rename_i hif
          obtain ⟨g0, u0⟩ := H.is hif (by decide) hi
          rw [if_pos u0]
          split at h
          · unfold badT at h; cases h
          · rename_i h40
            rw [if_neg h40]
            obtain ⟨x, k, h1, h2⟩ := andT_ok h
            have s1 := stop _ _ _ _ _ (by omega) h1
            have f1 := fwd _ _ _ _ _ h1
            simp only [Fwd] at f1
            obtain ⟨h3, h2⟩ := takeT_ok h2
            obtain ⟨g4, u4⟩ := H.is h3 (by decide) s1
            obtain ⟨y, m, h5, h6⟩ := andT_ok h2
            have s2 := stop _ _ _ _ _ (by omega) h5
            have f2 := fwd _ _ _ _ _ h5
            simp only [Fwd] at f2
            obtain ⟨h7, h6⟩ := takeT_ok h6
            obtain ⟨g8, u8⟩ := H.is h7 (by decide) s2
            obtain ⟨z, v, h9, h10⟩ := andT_ok h6
            cases h10
            refine (ih g .expr .expr _ _ _ _ hfg' .expr (by omega) h1).and fun x' hx => ?_
            try simp only [Nat.add_assoc]
            rw [takeT, if_pos u4]
            refine (ih g .expr .expr _ _ _ _ hfg' .expr (by omega) h5).and fun y' hy => ?_
            try simp only [Nat.add_assoc]
            rw [takeT, if_pos u8]
            refine (ih g .expr .expr _ _ _ _ hfg' .expr (by omega) h9).and fun z' hz => ⟨_, rfl, mkS (.cons hx (.cons hy (.cons hz .nil)))⟩
        · rename_i hif
          rw [if_neg (by rw [H.no (Bool.eq_false_iff.2 hif) hi (by decide)]; decide)]
          exact ih g .or .or _ _ _ _ hfg' .or hi h
    | or =>
      rw [readE] at h ⊢
      try simp only [Nat.add_assoc]
      obtain ⟨x, k, h1, h2⟩ := andT_ok h
      have s1 := stop _ _ _ _ _ hi h1
      have f1 := fwd _ _ _ _ _ h1
      simp only [Fwd] at f1
      refine (ih g _ _ _ _ _ _ hfg' (.left 2) hi h1).and fun x' hx => ?_
      try simp only [Nat.add_assoc]
      split at h2
      · rename_i hq
        obtain ⟨g2, u2⟩ := H.is hq (by decide) s1
        rw [if_pos u2]
        obtain ⟨y, m, h3, h4⟩ := andT_ok h2
        cases h4
        refine (ih g _ _ _ _ _ _ hfg' .or (by omega) h3).and fun y' hy => ⟨_, rfl, mkS (.cons hx (.cons hy .nil))⟩
      · rename_i hq
        rw [if_neg (by rw [H.no (Bool.eq_false_iff.2 hq) s1 (by decide)]; decide)]
        cases h2
        exact ⟨_, rfl, hx⟩
    | left rank =>
      rw [readE] at h ⊢
      try simp only [Nat.add_assoc]
      split at h
      · rename_i h4
        rw [if_pos h4]
        obtain ⟨x, k, h1, h2⟩ := andT_ok h
        have s1 := stop _ _ _ _ _ hi h1
        have f1 := fwd _ _ _ _ _ h1
        simp only [Fwd] at f1
        refine (ih g _ _ _ _ _ _ hfg' .atom hi h1).and fun x' hx => ?_
        try simp only [Nat.add_assoc]
        refine ih g _ _ _ _ _ _ hfg' (.apps (.cons hx .nil)) s1 h2
      · rename_i h4
        rw [if_neg h4]
        obtain ⟨x, k, h1, h2⟩ := andT_ok h
        have s1 := stop _ _ _ _ _ hi h1
        have f1 := fwd _ _ _ _ _ h1
        simp only [Fwd] at f1
        refine (ih g _ _ _ _ _ _ hfg' (.left (rank + 1)) hi h1).and fun x' hx => ?_
        try simp only [Nat.add_assoc]
        refine ih g _ _ _ _ _ _ hfg' (.more rank hx) s1 h2
    | @more rank e e' he =>
      rw [readE] at h ⊢
      try simp only [Nat.add_assoc]
      split at h
      · rename_i hc
        have hc' := (H.binds (rank := rank) hi).2 hc
        have g0 : i ≠ p := now_ne H.en (by rw [hc.1]; decide)
        obtain ⟨e1, e2, e3⟩ := H.tk i (by omega)
        rw [if_pos hc']
        obtain ⟨y, k, h1, h2⟩ := andT_ok h
        have s1 := stop _ _ _ _ _ (by omega) h1
        have f1 := fwd _ _ _ _ _ h1
        simp only [Fwd] at f1
        refine (ih g _ _ _ _ _ _ hfg' (.left (rank + 1)) (by omega) h1).and fun y' hy => ?_
        try simp only [Nat.add_assoc]
        split at h2
        · rename_i h2r
          cases h2
          rw [if_pos h2r]
          exact ⟨_, rfl, by rw [e2]; exact mkS (.cons he (.cons hy .nil))⟩
        · rename_i h2r
          rw [if_neg h2r]
          refine ih g _ _ _ _ _ _ hfg' (.more rank (by rw [e2]; exact mkS (.cons he (.cons hy .nil)))) s1 h2
      · rename_i hc
        rw [if_neg fun hc' => hc ((H.binds (rank := rank) hi).1 hc')]
        cases h
        exact ⟨_, rfl, he⟩
    | @apps l m hl =>
      rw [readE] at h ⊢
      try simp only [Nat.add_assoc]
      rw [H.starts hi]
      split at h
      · rename_i hst
        rw [if_pos hst]
        obtain ⟨y, k, h1, h2⟩ := andT_ok h
        have s1 := stop _ _ _ _ _ hi h1
        have f1 := fwd _ _ _ _ _ h1
        simp only [Fwd] at f1
        refine (ih g _ _ _ _ _ _ hfg' .atom hi h1).and fun y' hy => ?_
        try simp only [Nat.add_assoc]
        refine ih g _ _ _ _ _ _ hfg' (.apps (hl.app (.cons hy .nil))) s1 h2
      · rename_i hst
        rw [if_neg hst]
        cases h
        exact ⟨_, rfl, appS hl⟩
    | atom =>
      rw [readE] at h ⊢
      try simp only [Nat.add_assoc]
      split at h
      · rename_i e he
        have g0 := plain_ne H.en he
        obtain ⟨y, hy, hs⟩ := plainS (H.tk i (by omega)) he
        cases h
        rw [hy]
        exact ⟨_, rfl, hs⟩
      · rename_i he
        split at h
        · rename_i hw
          obtain ⟨g0, u0⟩ := H.is hw (by decide) hi
          rw [H.plainN hi he]
          simp only
          rw [if_pos u0]
          split at h
          · unfold badT at h; cases h
          · rename_i h40
            rw [if_neg h40]
            obtain ⟨y, k, h1, h2⟩ := andT_ok h
            have s1 := stop _ _ _ _ _ (by omega) h1
            obtain ⟨h3, h2⟩ := takeT_ok h2
            obtain ⟨g4, u4⟩ := H.is h3 (by decide) s1
            cases h2
            refine (ih g .expr .expr _ _ _ _ hfg' .expr (by omega) h1).and fun y' hy => ?_
            try simp only [Nat.add_assoc]
            rw [takeT, if_pos u4]
            exact ⟨_, rfl, hy⟩
        · unfold badT at h; cases h
    | pat =>
      rw [readE] at h ⊢
      try simp only [Nat.add_assoc]
      split at h
      · rename_i hw
        obtain ⟨g0, u0⟩ := H.is hw (by decide) hi
        rw [if_pos u0]
        cases h
        exact ⟨_, rfl, mkS .nil⟩
      · rename_i hw
        rw [if_neg (by rw [H.no (Bool.eq_false_iff.2 hw) hi (by decide)]; decide)]
        split at h
        · rename_i e he
          have g0 := plain_ne H.en he
          obtain ⟨y, hy, hs⟩ := plainS (H.tk i (by omega)) he
          cases h
          rw [hy]
          exact ⟨_, rfl, hs⟩
        · rename_i he
          split at h
          · rename_i hw
            obtain ⟨g0, u0⟩ := H.is hw (by decide) hi
            rw [H.plainN hi he]
            simp only
            rw [if_pos u0]
            split at h
            · unfold badT at h; cases h
            · rename_i h40
              rw [if_neg h40]
              split at h
              · rename_i h3
                rw [if_pos ((H.kind (i := i + 1) (by omega) (by decide)).2 h3)]
                obtain ⟨y, k, h1, h2⟩ := andT_ok h
                have s1 := stop _ _ _ _ _ (by omega) h1
                refine (ih g .pat .pat _ _ _ _ hfg' .pat (by omega) h1).and fun y' hy => ?_
                exact ih g _ _ _ _ _ _ hfg' (.pats (.cons hy .nil)) s1 h2
              · rename_i h3
                rw [if_neg fun h3' => h3 ((H.kind (i := i + 1) (by omega) (by decide)).1 h3')]
                obtain ⟨y, k, h1, h2⟩ := andT_ok h
                have s1 := stop _ _ _ _ _ (by omega) h1
                obtain ⟨h3, h2⟩ := takeT_ok h2
                obtain ⟨g4, u4⟩ := H.is h3 (by decide) s1
                cases h2
                refine (ih g .pat .pat _ _ _ _ hfg' .pat (by omega) h1).and fun y' hy => ?_
                try simp only [Nat.add_assoc]
                rw [takeT, if_pos u4]
                exact ⟨_, rfl, hy⟩
          · unfold badT at h; cases h
    | @pats l m hl =>
      rw [readE] at h ⊢
      try simp only [Nat.add_assoc]
      split at h
      · rename_i hw
        obtain ⟨g0, u0⟩ := H.is hw (by decide) hi
        rw [if_pos u0]
        cases h
        exact ⟨_, rfl, appS hl⟩
      · rename_i hw
        by_cases hip : i = p
        · exfalso
          subst hip
          obtain ⟨y, k, h1, h2⟩ := andT_ok h
          have s1 := stop _ _ _ _ _ (Nat.le_refl _) h1
          have f1 := fwd _ _ _ _ _ h1
          simp only [Fwd] at f1
          omega
        rw [if_neg (by rw [H.no (Bool.eq_false_iff.2 hw) hi (by decide)]; decide)]
        obtain ⟨y, k, h1, h2⟩ := andT_ok h
        have s1 := stop _ _ _ _ _ hi h1
        refine (ih g _ _ _ _ _ _ hfg' .pat hi h1).and fun y' hy => ?_
        exact ih g _ _ _ _ _ _ hfg' (.pats (hl.app (.cons hy .nil))) s1 h2
end Go.Proofs.Ytcoiagfeoonpbaa

/-
  Tokens that stand behind others: the plain model of the module reader reads them alike. Plain law. No condition.
-/
namespace Go.Proofs.Ytcoiagfeoonpbaa
def shM (o : Nat) (s : MS) : MS := ⟨o + s.i, s.b⟩
def CnS (c d : Cn) : Prop := c.name = d.name ∧ c.types = d.types
def DaS (x y : Da) : Prop := x.name = y.name ∧ x.vars = y.vars ∧ All2 CnS x.cons y.cons
def RuS (x y : Ru) : Prop := x.name = y.name ∧ All2 (SamE false) x.pats y.pats ∧ All2 (SamE false) x.guard y.guard ∧ SamE false x.body y.body
section
variable {ts us : List Tk} {o p : Nat}
theorem Sh.eqT (H : Sh ts us o p) {i : Nat} {k : Int} {x : ByteArray} (hi : i ≤ p) (hk : 1 < k) : isT us (o + i) k x = isT ts i k x := by
  cases h : isT ts i k x with
  | true => exact (H.is h (by omega) hi).2
  | false => exact H.no h hi hk
theorem Sh.eqS (H : Sh ts us o p) {s : MS} {k : Int} {x : ByteArray} (hi : s.i ≤ p) (hk : 1 < k) : isS us (shM o s) k x = isS ts s k x := by
  unfold isS
  rw [show (shM o s).i = o + s.i from rfl, H.eqT hi hk]
  rfl
theorem Sh.take (H : Sh ts us o p) {s : MS} {k : Int} {x : ByteArray} (h : (takeS ts s k x).ok = true) (hk : k ≠ 0) (hi : s.i ≤ p) : takeS us (shM o s) k x = shM o (takeS ts s k x) ∧ (takeS ts s k x).i ≤ p ∧ s.ok = true := by
  unfold takeS at h ⊢
  by_cases hs : isS ts s k x = true
  · obtain ⟨h1, h2⟩ := isS_parts hs
    obtain ⟨h3, h4⟩ := H.is h2 hk hi
    have h5 : isS us (shM o s) k x = true := by unfold isS; rw [show (shM o s).i = o + s.i from rfl, h4, show (shM o s).ok = s.ok from rfl, h1]; rfl
    rw [if_pos hs, if_pos h5]
    exact ⟨rfl, h3, h1⟩
  · rw [if_neg hs, fail_notok] at h
    cases h
theorem Sh.name (H : Sh ts us o p) {s : MS} {k : Int} (h : (nameS ts s k).2.ok = true) (hk : 1 < k) (hi : s.i ≤ p) : nameS us (shM o s) k = ((nameS ts s k).1, shM o (nameS ts s k).2) ∧ (nameS ts s k).2.i ≤ p ∧ s.ok = true := by
  unfold nameS at h ⊢
  by_cases hs : (nowT ts s.i).k = k
  · have hu : (nowT us (shM o s).i).k = k := (H.kind hi hk).2 hs
    have hne : s.i ≠ p := now_ne H.en (by omega)
    obtain ⟨_, e2, _⟩ := H.tk s.i (by omega)
    rw [if_pos hs] at h
    rw [if_pos hs, if_pos hu]
    refine ⟨by rw [show (shM o s).i = o + s.i from rfl, ← e2]; rfl, by show s.i + 1 ≤ p; omega, h⟩
  · rw [if_neg hs, fail_notok] at h
    cases h
theorem Sh.kd (H : Sh ts us o p) {s : MS} {k : Int} (hi : s.i ≤ p) (hk : 1 < k) : decide ((nowT us (shM o s).i).k = k) = decide ((nowT ts s.i).k = k) := decide_eq_decide.2 (H.kind hi hk)
theorem Sh.startsS (H : Sh ts us o p) {s : MS} (hi : s.i ≤ p) : startsS us (shM o s) = startsS ts s := by
  unfold Go.Proofs.Ytcoiagfeoonpbaa.startsS
  rw [H.eqS hi (by decide), show (shM o s).ok = s.ok from rfl, H.kd hi (by decide), H.kd hi (by decide)]
theorem typeM_sh (H : Sh ts us o p) : ∀ (f g : Nat) (nt : Mt) (deep : Nat) (s : MS) (x : Tm) (s' : MS), f ≤ g → s.i ≤ p → typeM ts f nt deep s = some (x, s') → s'.ok = true → typeM us g nt deep (shM o s) = some (x, shM o s') ∧ s'.i ≤ p := by
  intro f
  induction f with
  | zero => intro g nt deep s x s' _ _ h; rw [typeM] at h; cases h
  | succ f ih =>
    intro g nt deep s x s' hfg hi h hok
    obtain ⟨g, rfl⟩ : ∃ k, g = k + 1 := ⟨g - 1, by omega⟩
    have hfg' : f ≤ g := by omega
    have hnow : ∀ k : Int, 1 < k → ((nowT us (shM o s).i).k = k ↔ (nowT ts s.i).k = k) := fun k hk => H.kind hi hk
    have htk : (nowT ts s.i).k ≠ 0 → s.i < p ∧ (nowT us (shM o s).i).s = (nowT ts s.i).s := fun h0 => by
      have : s.i ≠ p := now_ne H.en h0
      exact ⟨by omega, (H.tk s.i (by omega)).2.1.symm⟩
    cases nt with
    | atom =>
      rw [typeM] at h ⊢
      by_cases h2 : (nowT ts s.i).k = 2
      · obtain ⟨hl, hs⟩ := htk (by omega)
        rw [if_pos h2] at h
        rw [if_pos ((hnow 2 (by decide)).2 h2), hs]
        cases h
        exact ⟨rfl, by show s.i + 1 ≤ p; omega⟩
      · rw [if_neg h2] at h
        rw [if_neg fun h' => h2 ((hnow 2 (by decide)).1 h')]
        by_cases h3 : (nowT ts s.i).k = 3
        · obtain ⟨hl, hs⟩ := htk (by omega)
          rw [if_pos h3] at h
          rw [if_pos ((hnow 3 (by decide)).2 h3), hs]
          cases h
          exact ⟨rfl, by show s.i + 1 ≤ p; omega⟩
        · rw [if_neg h3] at h
          rw [if_neg fun h' => h3 ((hnow 3 (by decide)).1 h')]
          obtain ⟨q, h4, h5⟩ := Option.map_eq_some_iff.1 h
          cases h5
          have hq := ((step_take (ts := ts) q.2).fwd hok).1
          have ha := ((typeM_step _ _ _ _ _ _ h4).fwd hq).1
          by_cases hd : deep = 40
          · rw [if_pos hd] at ha
            have := ((step_take (ts := ts) _).fwd ha).1
            rw [fail_notok] at this
            cases this
          · rw [if_neg hd] at h4 ha
            rw [if_neg hd]
            obtain ⟨e1, e2, _⟩ := H.take ha (by decide) hi
            rw [e1]
            obtain ⟨e3, e4⟩ := ih g .typ _ _ _ _ hfg' e2 h4 hq
            rw [e3]
            obtain ⟨e5, e6, _⟩ := H.take hok (by decide) e4
            exact ⟨by rw [Option.map_some, e5], e6⟩
    | typ =>
      rw [typeM] at h ⊢
      split at h
      · rename_i hb
        cases h
        rw [hb] at hok
        cases hok
      · rename_i hb
        rw [if_neg (show ¬ (shM o s).ok = false from hb)]
        by_cases h3 : (nowT ts s.i).k = 3
        · obtain ⟨hl, hs⟩ := htk (by omega)
          rw [if_pos h3] at h
          rw [if_pos ((hnow 3 (by decide)).2 h3), hs]
          obtain ⟨q, h4, h5⟩ := Option.map_eq_some_iff.1 h
          cases h5
          obtain ⟨e3, e4⟩ := ih g (.atoms []) _ s.next _ _ hfg' (by show s.i + 1 ≤ p; omega) h4 hok
          have e3 : typeM us g (.atoms []) deep (shM o s).next = _ := e3
          rw [e3]
          exact ⟨rfl, e4⟩
        · rw [if_neg h3] at h
          rw [if_neg fun h' => h3 ((hnow 3 (by decide)).1 h')]
          exact ih g .atom _ _ _ _ hfg' hi h hok
    | atoms l =>
      rw [typeM] at h ⊢
      rw [H.startsS hi]
      split at h
      · rename_i hst
        rw [if_pos hst]
        obtain ⟨q, h4, h5⟩ := Option.bind_eq_some_iff.1 h
        have hq := ((typeM_step _ _ _ _ _ _ h5).fwd hok).1
        obtain ⟨e3, e4⟩ := ih g .atom _ _ _ _ hfg' hi h4 hq
        rw [e3]
        exact ih g _ _ _ _ _ hfg' e4 h5 hok
      · rename_i hst
        rw [if_neg hst]
        cases h
        exact ⟨rfl, hi⟩
theorem conM_sh (H : Sh ts us o p) {f g : Nat} (hfg : f ≤ g) {s : MS} {r : Cn × MS} (hi : s.i ≤ p) (h : conM ts f s = some r) (hok : r.2.ok = true) : ∃ c, conM us g (shM o s) = some (c, shM o r.2) ∧ CnS r.1 c ∧ r.2.i ≤ p := by
  unfold conM at h
  obtain ⟨q, h1, h2⟩ := Option.map_eq_some_iff.1 h
  cases h2
  have hq := ((typeM_step _ _ _ _ _ _ h1).fwd hok).1
  obtain ⟨e1, e2, _⟩ := H.name hq (by decide) hi
  obtain ⟨e3, e4⟩ := typeM_sh H f g _ _ _ _ _ hfg e2 h1 hok
  refine ⟨⟨(nameS ts s 3).1, q.1.args, (nowT us (shM o s).i).l, (nowT us (shM o s).i).c⟩, by unfold conM; rw [e1, e3]; rfl, ⟨rfl, rfl⟩, e4⟩
theorem varsM_sh (H : Sh ts us o p) : ∀ (f g : Nat) (vs : List ByteArray) (s : MS) (r : List ByteArray × MS), f ≤ g → s.i ≤ p → varsM ts f vs s = some r → r.2.ok = true → varsM us g vs (shM o s) = some (r.1, shM o r.2) ∧ r.2.i ≤ p
  | 0, g, vs, s, r, _, _, h, _ => by rw [varsM] at h; cases h
  | f + 1, g, vs, s, r, hfg, hi, h, hok => by
    obtain ⟨g, rfl⟩ : ∃ k, g = k + 1 := ⟨g - 1, by omega⟩
    rw [varsM] at h ⊢
    rw [show (shM o s).ok = s.ok from rfl, H.kd hi (by decide)]
    split at h
    · rename_i hc
      rw [if_pos hc]
      rw [Bool.and_eq_true, decide_eq_true_eq] at hc
      have hne : s.i ≠ p := now_ne H.en (by omega)
      have e := (H.tk s.i (by omega)).2.1
      have e' : (nowT us (shM o s).i).s = (nowT ts s.i).s := e.symm
      rw [e']
      exact varsM_sh H f g _ s.next r (by omega) (by show s.i + 1 ≤ p; omega) h hok
    · rename_i hc
      rw [if_neg hc]
      cases h
      exact ⟨rfl, hi⟩
theorem consM_sh (H : Sh ts us o p) {g g' : Nat} (hg : g ≤ g') : ∀ (f f' : Nat) (cs ds : List Cn) (s : MS) (r : List Cn × MS), f ≤ f' → All2 CnS cs ds → s.i ≤ p → consM ts g f cs s = some r → r.2.ok = true → ∃ ds', consM us g' f' ds (shM o s) = some (ds', shM o r.2) ∧ All2 CnS r.1 ds' ∧ r.2.i ≤ p
  | 0, f', cs, ds, s, r, _, _, _, h, _ => by rw [consM] at h; cases h
  | f + 1, f', cs, ds, s, r, hf, hcd, hi, h, hok => by
    obtain ⟨f', rfl⟩ : ∃ k, f' = k + 1 := ⟨f' - 1, by omega⟩
    rw [consM] at h ⊢
    rw [H.eqS hi (by decide)]
    split at h
    · rename_i hc
      rw [if_pos hc]
      obtain ⟨h1, h2⟩ := isS_parts hc
      have hl := (H.is h2 (by decide) hi).1
      obtain ⟨q, h3, h4⟩ := Option.bind_eq_some_iff.1 h
      have hq := ((consM_step _ _ _ _ _ h4).fwd hok).1
      obtain ⟨c, e1, e2, e3⟩ := conM_sh H hg (s := s.next) (by show s.i + 1 ≤ p; omega) h3 hq
      have e1 : conM us g' (shM o s).next = _ := e1
      rw [e1]
      exact consM_sh H hg f f' _ _ _ r (by omega) (hcd.app (.cons e2 .nil)) e3 h4 hok
    · rename_i hc
      rw [if_neg hc]
      cases h
      exact ⟨_, rfl, hcd, hi⟩
theorem partM_sh (H : Sh ts us o p) {F F' : Nat} (hF : F ≤ F') {nt : Nt} (hn : nt = .pat ∨ nt = .expr) {s s' : MS} {x : Ex} (hi : s.i ≤ p) (h : partM ts F nt s = some (x, s')) (hok : s'.ok = true) : ∃ y, partM us F' nt (shM o s) = some (y, shM o s') ∧ SamE false x y ∧ s'.i ≤ p := by
  have hs := ((partM_step hn h).fwd hok).1
  unfold partM at h ⊢
  rw [if_neg (by rw [hs]; decide)] at h
  rw [if_neg (by rw [show (shM o s).ok = s.ok from rfl, hs]; decide)]
  split at h
  · cases h
  · rename_i x' j hr
    cases h
    have hst := readE_stop H.en _ _ _ _ _ _ hi hr
    obtain ⟨y, hy, hxy⟩ := simS H F F' nt nt s.i 0 x j hF (by rcases hn with rfl | rfl; exact .pat; exact .expr) hi hr
    rw [show (shM o s).i = o + s.i from rfl, hy]
    exact ⟨y, rfl, hxy, hst⟩
  · cases h
    cases hok
theorem patsM_sh (H : Sh ts us o p) {F F' : Nat} (hF : F ≤ F') : ∀ (f f' : Nat) (ps qs : List Ex) (s : MS) (r : List Ex × MS), f ≤ f' → All2 (SamE false) ps qs → s.i ≤ p → patsM ts F f ps s = some r → r.2.ok = true → ∃ qs', patsM us F' f' qs (shM o s) = some (qs', shM o r.2) ∧ All2 (SamE false) r.1 qs' ∧ r.2.i ≤ p
  | 0, f', ps, qs, s, r, _, _, _, h, _ => by rw [patsM] at h; cases h
  | f + 1, f', ps, qs, s, r, hf, hpq, hi, h, hok => by
    obtain ⟨f', rfl⟩ : ∃ k, f' = k + 1 := ⟨f' - 1, by omega⟩
    rw [patsM] at h ⊢
    rw [show (shM o s).ok = s.ok from rfl, H.eqS hi (by decide), H.eqS hi (by decide)]
    split at h
    · rename_i hc
      rw [if_pos hc]
      obtain ⟨q, h3, h4⟩ := Option.bind_eq_some_iff.1 h
      have hq := ((patsM_step _ _ _ _ _ h4).fwd hok).1
      obtain ⟨c, e1, e2, e3⟩ := partM_sh H hF (.inl rfl) hi h3 hq
      rw [e1]
      exact patsM_sh H hF f f' _ _ _ r (by omega) (hpq.app (.cons e2 .nil)) e3 h4 hok
    · rename_i hc
      rw [if_neg hc]
      cases h
      exact ⟨_, rfl, hpq, hi⟩
theorem dataM_sh (H : Sh ts us o p) {f g : Nat} (hfg : f ≤ g) {s : MS} {r : Da × MS} (hi : s.i ≤ p) (h : dataM ts f s = some r) (hok : r.2.ok = true) : ∃ d, dataM us g (shM o s) = some (d, shM o r.2) ∧ DaS r.1 d ∧ r.2.i ≤ p := by
  unfold dataM at h
  obtain ⟨v, h1, h⟩ := Option.bind_eq_some_iff.1 h
  obtain ⟨c, h2, h⟩ := Option.bind_eq_some_iff.1 h
  obtain ⟨cs, h3, h4⟩ := Option.map_eq_some_iff.1 h
  cases h4
  have k3 := ((consM_step _ _ _ _ _ h3).fwd hok).1
  have k2 := ((conM_step h2).fwd k3).1
  have k1 := ((step_take (ts := ts) _).fwd k2).1
  have k0 := ((varsM_step _ _ _ _ h1).fwd k1).1
  have kn := ((step_name (ts := ts) _).fwd k0).1
  obtain ⟨a1, a2, _⟩ := H.take kn (by decide) hi
  obtain ⟨b1, b2, _⟩ := H.name k0 (by decide) a2
  obtain ⟨c1, c2⟩ := varsM_sh H f g _ _ _ hfg b2 h1 k1
  obtain ⟨d1, d2, _⟩ := H.take k2 (by decide) c2
  obtain ⟨cn, e1, e2, e3⟩ := conM_sh H hfg d2 h2 k3
  obtain ⟨ds, f1, f2, f3⟩ := consM_sh H hfg f g _ _ _ _ hfg (.cons e2 .nil) e3 h3 hok
  refine ⟨⟨(nameS ts (takeS ts s 5 wData) 3).1, v.1, ds, (nowT us (shM o s).i).l, (nowT us (shM o s).i).c⟩, by unfold dataM; rw [a1, b1]; simp only; rw [c1, Option.bind_some, d1, e1, Option.bind_some, f1]; rfl, ⟨rfl, rfl, f2⟩, f3⟩
theorem guardM_sh (H : Sh ts us o p) {F F' : Nat} (hF : F ≤ F') {s : MS} {r : List Ex × MS} (hi : s.i ≤ p) (h : guardM ts F s = some r) (hok : r.2.ok = true) : ∃ g, guardM us F' (shM o s) = some (g, shM o r.2) ∧ All2 (SamE false) r.1 g ∧ r.2.i ≤ p := by
  unfold guardM at h ⊢
  rw [H.eqS hi (by decide)]
  split at h
  · rename_i hc
    rw [if_pos hc]
    have hl := (H.is (isS_parts hc).2 (by decide) hi).1
    obtain ⟨q, h1, h2⟩ := Option.map_eq_some_iff.1 h
    cases h2
    obtain ⟨y, e1, e2, e3⟩ := partM_sh H hF (.inr rfl) (s := s.next) (by show s.i + 1 ≤ p; omega) h1 hok
    have e1 : partM us F' .expr (shM o s).next = _ := e1
    rw [e1]
    exact ⟨_, rfl, .cons e2 .nil, e3⟩
  · rename_i hc
    rw [if_neg hc]
    cases h
    exact ⟨_, rfl, .nil, hi⟩
theorem ruleM_sh (H : Sh ts us o p) {F F' f g : Nat} (hF : F ≤ F') (hfg : f ≤ g) {s : MS} {r : Ru × MS} (hi : s.i ≤ p) (h : ruleM ts F f s = some r) (hok : r.2.ok = true) : ∃ d, ruleM us F' g (shM o s) = some (d, shM o r.2) ∧ RuS r.1 d ∧ r.2.i ≤ p := by
  unfold ruleM at h
  obtain ⟨v, h1, h⟩ := Option.bind_eq_some_iff.1 h
  obtain ⟨c, h2, h⟩ := Option.bind_eq_some_iff.1 h
  obtain ⟨b, h3, h4⟩ := Option.map_eq_some_iff.1 h
  cases h4
  have k3 := ((partM_step (.inr rfl) h3).fwd hok).1
  have k2 := ((step_take (ts := ts) _).fwd k3).1
  have k1 := ((guardM_step h2).fwd k2).1
  have k0 := ((patsM_step _ _ _ _ _ h1).fwd k1).1
  obtain ⟨b1, b2, _⟩ := H.name k0 (by decide) hi
  obtain ⟨ps, c1, c2, c3⟩ := patsM_sh H hF f g _ _ _ _ hfg .nil b2 h1 k1
  obtain ⟨gd, d1, d2, d3⟩ := guardM_sh H hF c3 h2 k2
  obtain ⟨e1, e2, _⟩ := H.take k3 (by decide) d3
  obtain ⟨y, f1, f2, f3⟩ := partM_sh H hF (.inr rfl) e2 h3 hok
  refine ⟨⟨(nameS ts s 2).1, ps, gd, y, (nowT us (shM o s).i).l, (nowT us (shM o s).i).c⟩, by unfold ruleM; rw [b1]; simp only; rw [c1, Option.bind_some, d1, Option.bind_some, e1, f1]; rfl, ⟨rfl, c2, d2, f2⟩, f3⟩
theorem itemsM_more {F g : Nat} : ∀ (f f' : Nat) (ds : List Da) (rs : List Ru) (s : MS) (r : List Da × List Ru × MS), f ≤ f' → itemsM ts F g f ds rs s = some r → itemsM ts F g f' ds rs s = some r
  | 0, f', ds, rs, s, r, _, h => by rw [itemsM] at h; cases h
  | f + 1, f', ds, rs, s, r, hf, h => by
    obtain ⟨f', rfl⟩ : ∃ k, f' = k + 1 := ⟨f' - 1, by omega⟩
    rw [itemsM] at h ⊢
    split at h
    · rename_i hc
      rw [if_pos hc]
      split at h
      · rename_i hd
        rw [if_pos hd]
        obtain ⟨q, h1, h2⟩ := Option.bind_eq_some_iff.1 h
        rw [h1]
        exact itemsM_more f f' _ _ _ r (by omega) h2
      · rename_i hd
        rw [if_neg hd]
        obtain ⟨q, h1, h2⟩ := Option.bind_eq_some_iff.1 h
        rw [h1]
        exact itemsM_more f f' _ _ _ r (by omega) h2
    · rename_i hc
      rw [if_neg hc]
      exact h
theorem itemsM_step {F g : Nat} : ∀ (f : Nat) (ds : List Da) (rs : List Ru) (s : MS) (r : List Da × List Ru × MS), itemsM ts F g f ds rs s = some r → Step 0 s r.2.2
  | 0, ds, rs, s, r, h => by rw [itemsM] at h; cases h
  | f + 1, ds, rs, s, r, h => by
    rw [itemsM] at h
    split at h
    · split at h
      · obtain ⟨q, h1, h2⟩ := Option.bind_eq_some_iff.1 h
        exact ((step_take (ts := ts) s).trans ((dataM_step h1).trans (itemsM_step f _ _ _ r h2))).le (Nat.zero_le _)
      · obtain ⟨q, h1, h2⟩ := Option.bind_eq_some_iff.1 h
        exact ((step_take (ts := ts) s).trans ((ruleM_step h1).trans (itemsM_step f _ _ _ r h2))).le (Nat.zero_le _)
    · cases h; exact Step.refl s
theorem itemsM_sh (H : Sh ts us o p) (hz : ∀ i, i < p → (nowT ts i).k ≠ 0) {F F' g g' : Nat} (hF : F ≤ F') (hg : g ≤ g') : ∀ (f : Nat) (ds : List Da) (rs : List Ru) (s : MS) (r : List Da × List Ru × MS), s.i ≤ p → itemsM ts F g f ds rs s = some r → r.2.2.ok = true →
    ∃ dn rn en qn, r.1 = ds ++ dn ∧ r.2.1 = rs ++ rn ∧ r.2.2.i = p ∧ All2 DaS dn en ∧ All2 RuS rn qn ∧ ∀ es qs f2 R, itemsM us F' g' f2 (es ++ en) (qs ++ qn) ⟨o + p, none⟩ = some R → itemsM us F' g' (f + f2) es qs (shM o s) = some R
  | 0, ds, rs, s, r, _, h, _ => by rw [itemsM] at h; cases h
  | f + 1, ds, rs, s, r, hi, h, hok => by
    have hst := itemsM_step _ _ _ _ _ h
    have hsok := (hst.fwd hok).1
    rw [itemsM] at h
    split at h
    · rename_i hc
      have hne : s.i < p := by
        rw [Bool.and_eq_true] at hc
        have h0 : (nowT ts s.i).k ≠ 0 := by simpa using hc.2
        have : s.i ≠ p := now_ne H.en h0
        omega
      have hcu : ((shM o s).ok && !decide ((nowT us (shM o s).i).k = 0)) = true := by
        rw [show (shM o s).ok = s.ok from rfl, show (shM o s).i = o + s.i from rfl, ← (H.tk s.i hne).1]
        exact hc
      split at h
      · rename_i hd
        obtain ⟨q, h1, h2⟩ := Option.bind_eq_some_iff.1 h
        have k2 := ((itemsM_step _ _ _ _ _ h2).fwd hok).1
        have k1 := ((dataM_step h1).fwd k2).1
        obtain ⟨a1, a2, _⟩ := H.take k1 (by decide) hi
        obtain ⟨d, e1, e2, e3⟩ := dataM_sh H hg a2 h1 k2
        obtain ⟨dn, rn, en, qn, b1, b2, b3, b4, b5, b6⟩ := itemsM_sh H hz hF hg f _ _ _ r e3 h2 hok
        refine ⟨q.1 :: dn, rn, d :: en, qn, by rw [b1]; simp, b2, b3, .cons e2 b4, b5, fun es qs f2 R hR => ?_⟩
        rw [show f + 1 + f2 = (f + f2) + 1 by omega, itemsM, if_pos hcu, a1, H.eqS a2 (by decide), if_pos hd, e1]
        exact b6 (es ++ [d]) qs f2 R (by rw [List.append_assoc]; exact hR)
      · rename_i hd
        obtain ⟨q, h1, h2⟩ := Option.bind_eq_some_iff.1 h
        have k2 := ((itemsM_step _ _ _ _ _ h2).fwd hok).1
        have k1 := ((ruleM_step h1).fwd k2).1
        obtain ⟨a1, a2, _⟩ := H.take k1 (by decide) hi
        obtain ⟨d, e1, e2, e3⟩ := ruleM_sh H hF hg a2 h1 k2
        obtain ⟨dn, rn, en, qn, b1, b2, b3, b4, b5, b6⟩ := itemsM_sh H hz hF hg f _ _ _ r e3 h2 hok
        refine ⟨dn, q.1 :: rn, en, d :: qn, b1, by rw [b2]; simp, b3, b4, .cons e2 b5, fun es qs f2 R hR => ?_⟩
        rw [show f + 1 + f2 = (f + f2) + 1 by omega, itemsM, if_pos hcu, a1, H.eqS a2 (by decide), if_neg hd, e1]
        exact b6 es (qs ++ [d]) f2 R (by rw [List.append_assoc]; exact hR)
    · rename_i hc
      cases h
      have hp : s.i = p := by
        by_cases hl : s.i < p
        · have := hz _ hl
          rw [hsok] at hc
          simp [this] at hc
        · omega
      refine ⟨[], [], [], [], by simp, by simp, hp, .nil, .nil, fun es qs f2 R hR => ?_⟩
      rw [List.append_nil, List.append_nil] at hR
      have hb : s.b = none := by unfold MS.ok at hsok; simpa using hsok
      refine itemsM_more f2 _ _ _ _ _ (by omega) ?_
      unfold shM
      rw [hb, hp]
      exact hR
end
end Go.Proofs.Ytcoiagfeoonpbaa
