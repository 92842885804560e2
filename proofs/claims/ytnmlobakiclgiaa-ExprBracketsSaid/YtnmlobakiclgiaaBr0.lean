/-
  Brackets around tokens: what is read inside is the same, one place further on and one level deeper, or there are forty that open. Plain law. No condition.
-/
import Derived.Test.YtnmlobakiclgiaaEx4
import Derived.Test.YtnmlobakiclgiaaEx29
import Derived.Test.YtnmlobakiclgiaaEx24
namespace Go.Proofs.Ytnmlobakiclgiaa

def TkS (t u : Tk) : Prop := t.k = u.k ∧ t.s = u.s ∧ t.n = u.n
def openT (t : Tk) : Bool := (decide (t.k = 5) && (decide (t.s = wLet) || decide (t.s = wIf))) || (decide (t.k = 6) && decide (t.s = wOpen))
def opsT (ts : List Tk) (i : Nat) : Nat := (ts.take i).countP openT
theorem opsT_mono (ts : List Tk) {i j : Nat} (h : i ≤ j) : opsT ts i ≤ opsT ts j := by
  unfold opsT
  refine List.Sublist.countP_le ?_
  have e : ts.take i = (ts.take j).take i := by rw [List.take_take, Nat.min_eq_left h]
  rw [e]
  exact List.take_sublist _ _
theorem opsT_succ {ts : List Tk} {i : Nat} (hi : i < ts.length) (h : openT (nowT ts i) = true) : opsT ts (i + 1) = opsT ts i + 1 := by
  unfold opsT
  have e : nowT ts i = ts[i] := now_at (List.getElem?_eq_getElem hi)
  rw [e] at h
  rw [List.take_succ_eq_append_getElem hi, List.countP_append]
  simp [h]
theorem isT_parts {ts : List Tk} {i : Nat} {k : Int} {s : ByteArray} (h : isT ts i k s = true) : (nowT ts i).k = k ∧ (nowT ts i).s = s := by
  unfold isT at h
  rw [Bool.and_eq_true, decide_eq_true_eq, decide_eq_true_eq] at h
  exact h
theorem open_of {ts : List Tk} {i : Nat} (h : isT ts i 5 wLet = true ∨ isT ts i 5 wIf = true ∨ isT ts i 6 wOpen = true) : openT (nowT ts i) = true := by
  unfold openT
  rcases h with h | h | h <;> (obtain ⟨h1, h2⟩ := isT_parts h; rw [h1, h2]; decide)
/-- us: an opening bracket, what stands in ts ahead of place p, a closing one. -/
structure Brk (ts us : List Tk) (p : Nat) : Prop where
  tk : ∀ i, i < p → TkS (nowT ts i) (nowT us (i + 1))
  en : (nowT ts p).k = 0
  ck : (nowT us (p + 1)).k = 6
  cs : (nowT us (p + 1)).s = wClose
section
variable {ts us : List Tk} {p : Nat}
theorem Brk.is (H : Brk ts us p) {i : Nat} {k : Int} {s : ByteArray} (h : isT ts i k s = true) (hk : k ≠ 0) (hi : i ≤ p) : i < p ∧ isT us (i + 1) k s = true := by
  have h1 := isT_ne H.en h hk
  have h2 : i < p := by omega
  obtain ⟨e1, e2, _⟩ := H.tk i h2
  unfold isT at h ⊢
  rw [← e1, ← e2]
  exact ⟨h2, h⟩
theorem Brk.no (H : Brk ts us p) {i : Nat} {k : Int} {s : ByteArray} (h : isT ts i k s = false) (hi : i ≤ p) (hk : ¬ (k = 6 ∧ s = wClose)) : isT us (i + 1) k s = false := by
  by_cases h2 : i < p
  · obtain ⟨e1, e2, _⟩ := H.tk i h2
    unfold isT at h ⊢
    rw [← e1, ← e2]
    exact h
  · obtain rfl : i = p := by omega
    unfold isT
    rw [H.ck, H.cs, Bool.and_eq_false_iff]
    by_cases e : k = 6
    · right
      rw [decide_eq_false_iff_not]
      exact fun e2 => hk ⟨e, e2.symm⟩
    · left
      rw [decide_eq_false_iff_not]
      exact fun e2 => e e2.symm
theorem mkS {k n l c l' c' : Int} {s : ByteArray} {xs ys : List Ex} (h : All2 (SamE false) xs ys) : SamE false (.mk k s n xs l c) (.mk k s n ys l' c') :=
  .mk k s n xs ys l c l' c' h.len (fun i h1 h2 => h.at i h1 h2) fun h => by cases h
theorem plainS {t u : Tk} (h : TkS t u) {x : Ex} (hx : plainE t = some x) : ∃ y, plainE u = some y ∧ SamE false x y := by
  obtain ⟨e1, e2, e3⟩ := h
  unfold plainE at hx ⊢
  rw [← e1, ← e2, ← e3]
  split at hx
  · rename_i h; cases hx; exact ⟨_, by rw [if_pos h], mkS .nil⟩
  · split at hx
    · rename_i h1 h; cases hx; exact ⟨_, by rw [if_neg h1, if_pos h], mkS .nil⟩
    · split at hx
      · rename_i h1 h2 h; cases hx; exact ⟨_, by rw [if_neg h1, if_neg h2, if_pos h], mkS .nil⟩
      · cases hx
theorem plainN {t u : Tk} (h : TkS t u) (hx : plainE t = none) : plainE u = none := by
  obtain ⟨e1, e2, e3⟩ := h
  unfold plainE at hx ⊢
  rw [← e1]
  repeat' split at hx
  all_goals first | (cases hx; done) | (rename_i h1 h2 h3; rw [if_neg h1, if_neg h2, if_neg h3])
theorem Brk.starts (H : Brk ts us p) {i : Nat} (hi : i ≤ p) : startsE (nowT us (i + 1)) = startsE (nowT ts i) := by
  by_cases h2 : i < p
  · obtain ⟨e1, e2, _⟩ := H.tk i h2
    unfold startsE
    rw [← e1, ← e2]
  · obtain rfl : i = p := by omega
    unfold startsE
    rw [H.ck, H.cs, H.en, show decide (wClose = wOpen) = false from by decide]
    simp
theorem Brk.binds (H : Brk ts us p) {i rank : Nat} (hi : i ≤ p) (hr : 1 ≤ rank) : ((nowT us (i + 1)).k = 6 ∧ bindsE (nowT us (i + 1)).s = rank) ↔ ((nowT ts i).k = 6 ∧ bindsE (nowT ts i).s = rank) := by
  by_cases h2 : i < p
  · obtain ⟨e1, e2, _⟩ := H.tk i h2
    rw [← e1, ← e2]
  · obtain rfl : i = p := by omega
    rw [H.ck, H.cs, H.en]
    constructor
    · intro ⟨_, h⟩
      have : bindsE wClose = 0 := by decide
      omega
    · intro ⟨h, _⟩
      omega
end
inductive NtS : Nt → Nt → Prop
  | expr : NtS .expr .expr
  | or : NtS .or .or
  | left (r : Nat) (h : 1 ≤ r) : NtS (.left r) (.left r)
  | more (r : Nat) (h : 1 ≤ r) {x y : Ex} (hx : SamE false x y) : NtS (.more r x) (.more r y)
  | apps {l m : List Ex} (h : All2 (SamE false) l m) : NtS (.apps l) (.apps m)
  | atom : NtS .atom .atom
/-- Read alike; or it can't be, and Z. -/
def SimE (Z : Prop) (x : Ex) (j : Nat) (r : Option Rd1) : Prop := (∃ y, r = some (.ok y (j + 1)) ∧ SamE false x y) ∨ ((∃ l c, r = some (.bad l c)) ∧ Z)
theorem SimE.and {Z : Prop} {x z : Ex} {k j : Nat} {Y : Option Rd1} {G : Ex → Nat → Option Rd1} (h : SimE Z x k Y) (hg : ∀ y, SamE false x y → SimE Z z j (G y (k + 1))) : SimE Z z j (andT Y G) := by
  rcases h with ⟨y, hy, hs⟩ | ⟨⟨l, c, hb⟩, hz⟩
  · rw [hy]; exact hg y hs
  · rw [hb]; exact .inr ⟨⟨l, c, rfl⟩, hz⟩
theorem appS {l m : List Ex} (h : All2 (SamE false) l m) : SamE false (appE l) (appE m) := by
  cases h with
  | nil => exact mkS .nil
  | cons h t =>
    cases t with
    | nil => exact h
    | cons h2 t => exact mkS (.cons h (.cons h2 t))
theorem sim {ts us : List Tk} {p : Nat} (H : Brk ts us p) : ∀ (f g : Nat) (nt nt' : Nt) (i deep : Nat) (x : Ex) (j : Nat), f ≤ g → NtS nt nt' → i ≤ p → deep ≤ opsT ts i → readE ts f nt i deep = some (.ok x j) → SimE (40 ≤ opsT ts p) x j (readE us g nt' (i + 1) (deep + 1)) := by
  intro f
  induction f with
  | zero => intro g nt nt' i deep x j _ _ _ _ h; rw [readE] at h; cases h
  | succ f ih =>
    intro g nt nt' i deep x j hfg hn hi hd h
    obtain ⟨g, rfl⟩ : ∃ k, g = k + 1 := ⟨g - 1, by omega⟩
    have hfg' : f ≤ g := by omega
    have stop := fun nt i deep e j => readE_stop (ts := ts) H.en f nt i deep e j
    have fwd := fun nt i deep e j => readE_fwd (ts := ts) f nt i deep e j
    have deeper : ∀ i, i < p → (isT ts i 5 wLet = true ∨ isT ts i 5 wIf = true ∨ isT ts i 6 wOpen = true) → deep ≤ opsT ts i → deep + 1 ≤ opsT ts (i + 1) ∧ (deep + 1 = 40 → 40 ≤ opsT ts p) := fun i hi ho hd => by
      have hl : i < ts.length := by rcases ho with h | h | h <;> exact isT_lt h (by decide)
      have h1 := opsT_succ hl (open_of ho)
      have h2 := opsT_mono ts (i := i + 1) (j := p) (by omega)
      constructor <;> omega
    cases hn with
    | expr =>
      rw [readE] at h ⊢
      split at h
      · rename_i hlet
        obtain ⟨g0, u0⟩ := H.is hlet (by decide) hi
        obtain ⟨d1, d2⟩ := deeper i g0 (.inl hlet) hd
        rw [if_pos u0]
        split at h
        · unfold badT at h; cases h
        · split at h
          · unfold badT at h; cases h
          · rename_i hnm
            have hk2 := Decidable.not_not.1 hnm
            have g1 : i + 1 ≠ p := now_ne H.en (by rw [hk2]; decide)
            by_cases h40 : deep + 1 = 40
            · rw [if_pos h40]
              exact .inr ⟨⟨_, _, rfl⟩, d2 h40⟩
            obtain ⟨e1, e2, e3⟩ := H.tk (i + 1) (by omega)
            rw [if_neg h40, if_neg (by rw [← e1, hk2]; decide)]
            split at h
            · rename_i hfree
              obtain ⟨g2, u2⟩ := H.is hfree (by decide) (by omega)
              rw [if_pos u2]
              obtain ⟨h0, h⟩ := takeT_ok h
              obtain ⟨g3, u3⟩ := H.is h0 (by decide) (by omega)
              rw [takeT, if_pos u3]
              obtain ⟨x, k, h1, h2⟩ := andT_ok h
              cases h2
              refine (ih g .expr .expr _ _ _ _ hfg' .expr (by omega) ?_ h1).and fun y hy => .inl ⟨_, rfl, ?_⟩
              · have := opsT_mono ts (i := i + 1) (j := i + 4) (by omega); omega
              · rw [e2]; exact mkS (.cons hy .nil)
            · rename_i hfree
              rw [if_neg (by rw [H.no (Bool.eq_false_iff.2 hfree) (by omega) (by decide)]; decide)]
              obtain ⟨h0, h⟩ := takeT_ok h
              obtain ⟨g3, u3⟩ := H.is h0 (by decide) (by omega)
              rw [takeT, if_pos u3]
              obtain ⟨x, k, h1, h2⟩ := andT_ok h
              have s1 := stop _ _ _ _ _ (by omega) h1
              have f1 := fwd _ _ _ _ _ h1
              simp only [Fwd] at f1
              obtain ⟨h3, h2⟩ := takeT_ok h2
              obtain ⟨g4, u4⟩ := H.is h3 (by decide) s1
              obtain ⟨y, m, h5, h6⟩ := andT_ok h2
              cases h6
              refine (ih g .expr .expr _ _ _ _ hfg' .expr (by omega) ?_ h1).and fun x' hx => ?_
              · have := opsT_mono ts (i := i + 1) (j := i + 3) (by omega); omega
              rw [takeT, if_pos u4]
              refine (ih g .expr .expr _ _ _ _ hfg' .expr (by omega) ?_ h5).and fun y' hy => .inl ⟨_, rfl, ?_⟩
              · have := opsT_mono ts (i := i + 1) (j := k + 1) (by omega); omega
              · rw [e2]; exact mkS (.cons hx (.cons hy .nil))
      · rename_i hlet
        rw [if_neg (by rw [H.no (Bool.eq_false_iff.2 hlet) hi (by decide)]; decide)]
        split at h
        · rename_i hif
          obtain ⟨g0, u0⟩ := H.is hif (by decide) hi
          obtain ⟨d1, d2⟩ := deeper i g0 (.inr (.inl hif)) hd
          rw [if_pos u0]
          split at h
          · unfold badT at h; cases h
          · by_cases h40 : deep + 1 = 40
            · rw [if_pos h40]
              exact .inr ⟨⟨_, _, rfl⟩, d2 h40⟩
            rw [if_neg h40]
            obtain ⟨x, k, h1, h2⟩ := andT_ok h
            have s1 := stop _ _ _ _ _ (by omega) h1
            have f1 := fwd _ _ _ _ _ h1
            simp only [Fwd] at f1
            obtain ⟨h3, h2⟩ := takeT_ok h2
            obtain ⟨g4, u4⟩ := H.is h3 (by decide) s1
            obtain ⟨y, m, h5, h6⟩ := andT_ok h2
            have s2 := stop _ _ _ _ _ (by omega) h5
            have f2 := fwd _ _ _ _ _ h5
            simp only [Fwd] at f2
            obtain ⟨h7, h6⟩ := takeT_ok h6
            obtain ⟨g8, u8⟩ := H.is h7 (by decide) s2
            obtain ⟨z, o, h9, h10⟩ := andT_ok h6
            cases h10
            refine (ih g .expr .expr _ _ _ _ hfg' .expr (by omega) d1 h1).and fun x' hx => ?_
            rw [takeT, if_pos u4]
            refine (ih g .expr .expr _ _ _ _ hfg' .expr (by omega) ?_ h5).and fun y' hy => ?_
            · have := opsT_mono ts (i := i + 1) (j := k + 1) (by omega); omega
            rw [takeT, if_pos u8]
            refine (ih g .expr .expr _ _ _ _ hfg' .expr (by omega) ?_ h9).and fun z' hz => .inl ⟨_, rfl, mkS (.cons hx (.cons hy (.cons hz .nil)))⟩
            have := opsT_mono ts (i := i + 1) (j := m + 1) (by omega); omega
        · rename_i hif
          rw [if_neg (by rw [H.no (Bool.eq_false_iff.2 hif) hi (by decide)]; decide)]
          exact ih g .or .or _ _ _ _ hfg' .or hi hd h
    | or =>
      rw [readE] at h ⊢
      obtain ⟨x, k, h1, h2⟩ := andT_ok h
      have s1 := stop _ _ _ _ _ hi h1
      have f1 := fwd _ _ _ _ _ h1
      simp only [Fwd] at f1
      refine (ih g _ _ _ _ _ _ hfg' (.left 2 (by decide)) hi hd h1).and fun x' hx => ?_
      split at h2
      · rename_i hq
        obtain ⟨g2, u2⟩ := H.is hq (by decide) s1
        rw [if_pos u2]
        obtain ⟨y, m, h3, h4⟩ := andT_ok h2
        cases h4
        refine (ih g _ _ _ _ _ _ hfg' .or (by omega) ?_ h3).and fun y' hy => .inl ⟨_, rfl, mkS (.cons hx (.cons hy .nil))⟩
        have := opsT_mono ts (i := i) (j := k + 1) (by omega); omega
      · rename_i hq
        rw [if_neg (by rw [H.no (Bool.eq_false_iff.2 hq) s1 (by decide)]; decide)]
        cases h2
        exact .inl ⟨_, rfl, hx⟩
    | left rank hr =>
      rw [readE] at h ⊢
      split at h
      · rename_i h4
        rw [if_pos h4]
        obtain ⟨x, k, h1, h2⟩ := andT_ok h
        have s1 := stop _ _ _ _ _ hi h1
        have f1 := fwd _ _ _ _ _ h1
        simp only [Fwd] at f1
        refine (ih g _ _ _ _ _ _ hfg' .atom hi hd h1).and fun x' hx => ?_
        refine ih g _ _ _ _ _ _ hfg' (.apps (.cons hx .nil)) s1 ?_ h2
        have := opsT_mono ts (i := i) (j := k) (by omega); omega
      · rename_i h4
        rw [if_neg h4]
        obtain ⟨x, k, h1, h2⟩ := andT_ok h
        have s1 := stop _ _ _ _ _ hi h1
        have f1 := fwd _ _ _ _ _ h1
        simp only [Fwd] at f1
        refine (ih g _ _ _ _ _ _ hfg' (.left (rank + 1) (by omega)) hi hd h1).and fun x' hx => ?_
        refine ih g _ _ _ _ _ _ hfg' (.more rank hr hx) s1 ?_ h2
        have := opsT_mono ts (i := i) (j := k) (by omega); omega
    | @more rank hr e e' he =>
      rw [readE] at h ⊢
      split at h
      · rename_i hc
        have hc' := (H.binds hi hr).2 hc
        have g0 : i ≠ p := now_ne H.en (by rw [hc.1]; decide)
        obtain ⟨e1, e2, e3⟩ := H.tk i (by omega)
        rw [if_pos hc']
        obtain ⟨y, k, h1, h2⟩ := andT_ok h
        have s1 := stop _ _ _ _ _ (by omega) h1
        have f1 := fwd _ _ _ _ _ h1
        simp only [Fwd] at f1
        refine (ih g _ _ _ _ _ _ hfg' (.left (rank + 1) (by omega)) (by omega) (by have := opsT_mono ts (i := i) (j := i + 1) (by omega); omega) h1).and fun y' hy => ?_
        split at h2
        · rename_i h2r
          cases h2
          rw [if_pos h2r]
          exact .inl ⟨_, rfl, by rw [e2]; exact mkS (.cons he (.cons hy .nil))⟩
        · rename_i h2r
          rw [if_neg h2r]
          refine ih g _ _ _ _ _ _ hfg' (.more rank hr (by rw [e2]; exact mkS (.cons he (.cons hy .nil)))) s1 ?_ h2
          have := opsT_mono ts (i := i) (j := k) (by omega); omega
      · rename_i hc
        rw [if_neg fun hc' => hc ((H.binds hi hr).1 hc')]
        cases h
        exact .inl ⟨_, rfl, he⟩
    | @apps l m hl =>
      rw [readE] at h ⊢
      rw [H.starts hi]
      split at h
      · rename_i hst
        rw [if_pos hst]
        obtain ⟨y, k, h1, h2⟩ := andT_ok h
        have s1 := stop _ _ _ _ _ hi h1
        have f1 := fwd _ _ _ _ _ h1
        simp only [Fwd] at f1
        refine (ih g _ _ _ _ _ _ hfg' .atom hi hd h1).and fun y' hy => ?_
        refine ih g _ _ _ _ _ _ hfg' (.apps (hl.app (.cons hy .nil))) s1 ?_ h2
        have := opsT_mono ts (i := i) (j := k) (by omega); omega
      · rename_i hst
        rw [if_neg hst]
        cases h
        exact .inl ⟨_, rfl, appS hl⟩
    | atom =>
      rw [readE] at h ⊢
      split at h
      · rename_i e he
        have g0 := plain_ne H.en he
        obtain ⟨y, hy, hs⟩ := plainS (H.tk i (by omega)) he
        cases h
        rw [hy]
        exact .inl ⟨_, rfl, hs⟩
      · rename_i he
        split at h
        · rename_i hw
          obtain ⟨g0, u0⟩ := H.is hw (by decide) hi
          obtain ⟨d1, d2⟩ := deeper i g0 (.inr (.inr hw)) hd
          rw [plainN (H.tk i g0) he]
          simp only
          rw [if_pos u0]
          split at h
          · unfold badT at h; cases h
          · by_cases h40 : deep + 1 = 40
            · rw [if_pos h40]
              exact .inr ⟨⟨_, _, rfl⟩, d2 h40⟩
            rw [if_neg h40]
            obtain ⟨y, k, h1, h2⟩ := andT_ok h
            have s1 := stop _ _ _ _ _ (by omega) h1
            obtain ⟨h3, h2⟩ := takeT_ok h2
            obtain ⟨g4, u4⟩ := H.is h3 (by decide) s1
            cases h2
            refine (ih g .expr .expr _ _ _ _ hfg' .expr (by omega) d1 h1).and fun y' hy => ?_
            rw [takeT, if_pos u4]
            exact .inl ⟨_, rfl, hy⟩
        · unfold badT at h; cases h
end Go.Proofs.Ytnmlobakiclgiaa

/-
  A text in brackets: its tokens, and what is parsed: the same, or forty open. Plain law. No condition.
-/
namespace Go.Proofs.Ytnmlobakiclgiaa

def isD (x : UInt8) : Bool := x == 40 || (x == 105 || x == 108)
theorem skipG_col (com : Bool) (r : List UInt8) (l c c' : Nat) : (skipG com r l c).1 = (skipG com r l c').1 ∧ (skipG com r l c).2.1 = (skipG com r l c').2.1 := by
  induction r generalizing com l c c' with
  | nil => cases com <;> exact ⟨rfl, rfl⟩
  | cons x r ih =>
    cases com <;> simp only [skipG] <;> (repeat' split) <;> first | exact ih .. | exact ⟨rfl, rfl⟩
theorem skipG_cnt (p : UInt8 → Bool) (com : Bool) (r : List UInt8) (l c : Nat) : (skipG com r l c).1.countP p ≤ r.countP p := by
  induction r generalizing com l c with
  | nil => cases com <;> exact Nat.le_refl _
  | cons x r ih =>
    have h2 : r.countP p ≤ (x :: r).countP p := by rw [List.countP_cons]; omega
    cases com <;> simp only [skipG] <;> (repeat' split) <;> first | exact Nat.le_trans (ih ..) h2 | exact Nat.le_refl _
def TokS (t u : Tok) : Prop := t.k = u.k ∧ t.s = u.s ∧ t.n = u.n
theorem pre_gone (l c : Nat) (t : Tok) (ht : 1 < t.k) (ts : List Tok) : (((if c = 1 then [(⟨1, str [], 0, l, c⟩ : Tok)] else []) ++ [t]) ++ ts).filter keepT = t :: ts.filter keepT := by
  have h1 : keepT t = true := by unfold keepT; simp; omega
  have h2 : keepT (⟨1, str [], 0, l, c⟩ : Tok) = false := by unfold keepT; simp
  split <;> simp [h1, h2]
theorem tok_open {k m l c : Int} {t : List UInt8} (h : openT (tkOf ⟨k, str t, m, l, c⟩) = true) : 1 ≤ t.countP isD := by
  unfold openT tkOf at h
  simp only [Bool.or_eq_true, Bool.and_eq_true, decide_eq_true_eq] at h
  rcases h with ⟨_, h | h⟩ | ⟨_, h⟩
  · rw [str_inj (m := [108, 101, 116]) h]; decide
  · rw [str_inj (m := [105, 102]) h]; decide
  · rw [str_inj (m := [40]) h]; decide
/-- The tokens from a place on, and from that place in another column: alike. -/
theorem lexF : ∀ (n : Nat) (com : Bool) (A : List UInt8) (l c c' : Nat), A.length ≤ n → (scanB com A l c).1 = none →
    ∃ ts e us e', (scanB com A l c).2 = ts ++ [e] ∧ scanB com A l c' = (none, us ++ [e']) ∧ e.k = 0 ∧ (∀ t ∈ ts, t.k ≠ 0) ∧ All2 TokS (ts.filter keepT) (us.filter keepT) ∧ ((ts.filter keepT).map tkOf).countP openT ≤ A.countP isD := by
  intro n
  induction n with
  | zero =>
    intro com A l c c' hA _
    have : A = [] := List.eq_nil_of_length_eq_zero (by omega)
    subst this
    have e : ∀ c, scanB com [] l c = (none, [endT l c]) := fun c => by cases com <;> (show scanS [] l c = _; exact scanS_nil l c)
    exact ⟨[], endT l c, [], endT l c', by rw [e]; rfl, by rw [e]; rfl, rfl, by simp, .nil, Nat.le_refl _⟩
  | succ n ih =>
    intro com A l c c' hA h
    have hle := skipG_le com A l c
    have hcnt := skipG_cnt isD com A l c
    obtain ⟨hc1, hc2⟩ := skipG_col com A l c c'
    unfold scanB at h ⊢
    rw [← hc1, ← hc2]
    obtain ⟨r, hr⟩ : ∃ r, (skipG com A l c).1 = r := ⟨_, rfl⟩
    obtain ⟨l1, hl1⟩ : ∃ l1, (skipG com A l c).2.1 = l1 := ⟨_, rfl⟩
    obtain ⟨c1, hc1⟩ : ∃ c1, (skipG com A l c).2.2 = c1 := ⟨_, rfl⟩
    obtain ⟨c1', hc1'⟩ : ∃ c1, (skipG com A l c').2.2 = c1 := ⟨_, rfl⟩
    rw [hr, hl1, hc1] at h ⊢
    rw [hr] at hle hcnt
    rw [hc1']
    cases r with
    | nil =>
      rw [scanS_nil, scanS_nil]
      exact ⟨[], _, [], _, rfl, rfl, rfl, by simp, .nil, Nat.zero_le _⟩
    | cons x r =>
      cases ht : tokL (x :: r) with
      | none => rw [scanS_bad _ _ (by simp) ht] at h; cases h
      | some p =>
        obtain ⟨k, t, m⟩ := p
        obtain ⟨h1, hpre, hk⟩ := tokL_pre ht
        rw [scanS_tok _ _ ht] at h ⊢
        rw [scanS_tok _ _ ht]
        obtain ⟨ts, e, us, e', g1, g2, g3, g4, g5, g6⟩ := ih false ((x :: r).drop t.length) l1 (c1 + t.length) (c1' + t.length) (by rw [List.length_drop]; simp only [List.length_cons] at hle ⊢; omega) h
        refine ⟨_, e, _, e', by rw [addT, g1, ← List.append_assoc], by rw [addT, g2, ← List.append_assoc], g3, fun u hu => ?_, ?_, ?_⟩
        · rcases List.mem_append.1 hu with hu | hu
          · rcases List.mem_append.1 hu with hu | hu
            · split at hu
              · simp only [List.mem_singleton] at hu; subst hu; show (1 : Int) ≠ 0; decide
              · cases hu
            · simp only [List.mem_singleton] at hu; subst hu; show k ≠ 0; omega
          · exact g4 u hu
        · rw [pre_gone _ _ _ hk, pre_gone _ _ _ hk]
          exact .cons ⟨rfl, rfl, rfl⟩ g5
        · rw [pre_gone _ _ _ hk, List.map_cons, List.countP_cons]
          have e1 : (x :: r).countP isD = t.countP isD + ((x :: r).drop t.length).countP isD := by
            obtain ⟨u, hu⟩ := hpre
            rw [← hu, List.drop_left, List.countP_append]
          split
          · rename_i ho
            have := tok_open ho
            omega
          · omega
theorem tokL_open (r : List UInt8) : tokL (40 :: r) = some (6, [40], 0) := by
  unfold tokL
  have h1 : ¬ (cls (40 : UInt8).toNat = 1 ∨ cls (40 : UInt8).toNat = 2) := by decide
  have h2 : ¬ cls (40 : UInt8).toNat = 3 := by decide
  simp only [if_neg h1, if_neg h2]
  simp [symbols, pre?, List.isPrefixOf]
theorem brack_lex {s s' : ByteArray} (hs : s.size ≤ 1000) (hd : s'.data.toList = 40 :: (s.data.toList ++ 10 :: [41])) (h : (lexes s).1 = 0) :
    (lexes s').1 = 0 ∧ ∃ (us vs : List Tk) (e o c e' : Tk), toksE s = us ++ [e] ∧ toksE s' = o :: (vs ++ [c, e']) ∧ e.k = 0 ∧ e'.k = 0 ∧ o.k = 6 ∧ o.s = wOpen ∧ c.k = 6 ∧ c.s = wClose ∧ All2 TkS us vs ∧ (∀ t ∈ us, t.k ≠ 0) ∧ us.countP openT ≤ s.data.toList.countP isD := by
  have hl : ¬ 4096 < s.size := by omega
  have hsz : s'.size = s.size + 3 := by rw [← length_data, ← length_data, hd]; simp
  have hl' : ¬ 4096 < s'.size := by omega
  have hn : (scanB false s.data.toList 1 1).1 = none := by
    cases hx : scanB false s.data.toList 1 1 with
    | mk o ts =>
      cases o with
      | some p => rw [lexes_bad s hl hx] at h; cases h
      | none => rfl
  obtain ⟨ts, e, us, e', g1, g2, g3, g4, g5, g6⟩ := lexF _ false s.data.toList 1 1 2 (Nat.le_refl _) hn
  obtain ⟨us', l', c', q1, q2, q3⟩ := (scanB_app [41] _ false s.data.toList 1 2 (Nat.le_refl _)).2 _ g2
  obtain ⟨rfl, _⟩ := List.append_inj' q1 rfl
  have hcl : scanB false [41] (l' + 1) 1 = (none, [⟨1, str [], 0, ((l' + 1 : Nat) : Int), ((1 : Nat) : Int)⟩, ⟨6, str [41], 0, ((l' + 1 : Nat) : Int), ((1 : Nat) : Int)⟩, endT (l' + 1) 2]) := by
    rw [scanB_at (skipG_here _ _ (by decide) (by decide) (by decide)), scanS_tok _ _ (show tokL [41] = some (6, [41], 0) by decide)]
    simp only [List.length_cons, List.length_nil, Nat.zero_add, Nat.reduceAdd, List.drop_succ_cons, List.drop_zero]
    rw [scanB_at (by rfl), scanS_nil]
    rfl
  have hall : scanB false s'.data.toList 1 1 = (none, [⟨1, str [], 0, ((1 : Nat) : Int), ((1 : Nat) : Int)⟩, ⟨6, str [40], 0, ((1 : Nat) : Int), ((1 : Nat) : Int)⟩] ++ (us ++ [⟨1, str [], 0, ((l' + 1 : Nat) : Int), ((1 : Nat) : Int)⟩, ⟨6, str [41], 0, ((l' + 1 : Nat) : Int), ((1 : Nat) : Int)⟩, endT (l' + 1) 2])) := by
    rw [hd, scanB_at (skipG_here _ _ (by decide) (by decide) (fun h => absurd h.1 (by decide))), scanS_tok _ _ (tokL_open _)]
    simp only [List.length_cons, List.length_nil, Nat.zero_add, Nat.reduceAdd, List.drop_succ_cons, List.drop_zero]
    rw [q3, hcl]
    rfl
  have hk0 : keepT e = true := by unfold keepT; simp [g3]
  have e1 : toksE s = (ts.filter keepT).map tkOf ++ [tkOf e] := by
    unfold toksE
    rw [lexes_ok s hl (ts := ts ++ [e]) (by rw [← g1, ← hn])]
    simp [List.filter_append, hk0]
  have e2 : toksE s' = tkOf ⟨6, str [40], 0, ((1 : Nat) : Int), ((1 : Nat) : Int)⟩ :: ((us.filter keepT).map tkOf ++ [tkOf ⟨6, str [41], 0, ((l' + 1 : Nat) : Int), ((1 : Nat) : Int)⟩, tkOf (endT (l' + 1) 2)]) := by
    unfold toksE
    rw [lexes_ok s' hl' hall]
    simp [keepT, endT]
  refine ⟨by rw [lexes_ok s' hl' hall], _, _, _, _, _, _, e1, e2, g3, rfl, rfl, rfl, rfl, rfl, ?_, ?_, g6⟩
  · have key : ∀ (a b : List Tok), All2 TokS a b → All2 TkS (a.map tkOf) (b.map tkOf) := fun a b hab => by
      induction hab with
      | nil => exact .nil
      | cons h _ ih => exact .cons h ih
    exact key _ _ g5
  · intro t ht
    obtain ⟨u, hu, rfl⟩ := List.mem_map.1 ht
    exact g4 u (List.mem_filter.1 hu).1
section
variable {us : List Tk} {g j : Nat} {y : Ex}
theorem up_ok (h : readE us (g + 1) .atom 0 0 = some (.ok y j)) (h0 : isT us 0 5 wLet = false) (h1 : isT us 0 5 wIf = false) (hk : (nowT us j).k = 0) : readE us (g + 7) .expr 0 0 = some (.ok y j) := by
  have hs : startsE (nowT us j) = false := by unfold startsE; rw [hk]; simp
  have hm : ∀ r f, readE us (f + 1) (.more r y) j 0 = some (.ok y j) := fun r f => by
    rw [readE, if_neg (fun h => by rw [hk] at h; exact absurd h.1 (by decide))]
  have a5 : readE us (g + 2) (.left 5) 0 0 = some (.ok y j) := by
    rw [readE, if_pos (by decide), h]
    show readE us (g + 1) (.apps [y]) j 0 = _
    rw [readE, if_neg (by rw [hs]; decide)]
    rfl
  have a4 : readE us (g + 3) (.left 4) 0 0 = some (.ok y j) := by rw [readE, if_neg (by decide), a5]; exact hm _ _
  have a3 : readE us (g + 4) (.left 3) 0 0 = some (.ok y j) := by rw [readE, if_neg (by decide), a4]; exact hm _ _
  have a2 : readE us (g + 5) (.left 2) 0 0 = some (.ok y j) := by rw [readE, if_neg (by decide), a3]; exact hm _ _
  have a1 : readE us (g + 6) .or 0 0 = some (.ok y j) := by
    rw [readE, a2]
    have hq : isT us j 6 wOr = false := by unfold isT; rw [hk]; simp
    show (if isT us j 6 wOr = true then _ else _) = _
    rw [if_neg (by rw [hq]; decide)]
  rw [readE]
  simp only [h0, h1]
  exact a1
theorem up_bad {l c : Int} (h : readE us (g + 1) .atom 0 0 = some (.bad l c)) (h0 : isT us 0 5 wLet = false) (h1 : isT us 0 5 wIf = false) : readE us (g + 7) .expr 0 0 = some (.bad l c) := by
  have a5 : readE us (g + 2) (.left 5) 0 0 = some (.bad l c) := by rw [readE, if_pos (by decide), h]; rfl
  have a4 : readE us (g + 3) (.left 4) 0 0 = some (.bad l c) := by rw [readE, if_neg (by decide), a5]; rfl
  have a3 : readE us (g + 4) (.left 3) 0 0 = some (.bad l c) := by rw [readE, if_neg (by decide), a4]; rfl
  have a2 : readE us (g + 5) (.left 2) 0 0 = some (.bad l c) := by rw [readE, if_neg (by decide), a3]; rfl
  have a1 : readE us (g + 6) .or 0 0 = some (.bad l c) := by rw [readE, a2]; rfl
  rw [readE]
  simp only [h0, h1]
  exact a1
end
/-- What is parsed of a text in brackets. -/
theorem brack_parse {s s' : ByteArray} (hs : s.size ≤ 1000) (hd : s'.data.toList = 40 :: (s.data.toList ++ 10 :: [41])) {x : Ex} (h : parseE s = .ok x) :
    (∃ y, parseE s' = .ok y ∧ SamE false x y) ∨ ((∃ l c, parseE s' = .bad 1 l c) ∧ 40 ≤ s.data.toList.countP isD) := by
  have hlex : (lexes s).1 = 0 := by
    by_cases h0 : (lexes s).1 = 0
    · exact h0
    · unfold parseE at h; rw [if_neg h0] at h; cases h
  obtain ⟨hlex', us, vs, e, o, c, e', t1, t2, ke, ke', ko, so, kc, sc, hall, hus, hcnt⟩ := brack_lex hs hd hlex
  have hlen := hall.len
  have p0 : (nowT (toksE s) us.length).k = 0 := by rw [now_at (t := e) (by rw [t1]; simp)]; exact ke
  obtain ⟨r, hr, _⟩ := parse_parts hlex
  unfold parseE at h
  rw [if_pos hlex, hr] at h
  cases r with
  | bad l c => cases h
  | ok x' j =>
    simp only at h
    split at h
    · rename_i hj0
      cases h
      have hj := readE_stop p0 _ _ _ _ _ _ (Nat.zero_le _) hr
      have hjp : j = us.length := by
        by_cases hlt : j < us.length
        · have e1 : nowT (toksE s) j = us[j] := now_at (by rw [t1, List.getElem?_append_left hlt, List.getElem?_eq_getElem hlt])
          rw [e1] at hj0
          exact absurd hj0 (hus _ (List.getElem_mem hlt))
        · omega
      subst hjp
      have H : Brk (toksE s) (toksE s') us.length := by
        refine ⟨fun i hi => ?_, p0, ?_, ?_⟩
        · have e1 : nowT (toksE s) i = us[i] := now_at (by rw [t1, List.getElem?_append_left hi, List.getElem?_eq_getElem hi])
          have e2 : nowT (toksE s') (i + 1) = vs[i]'(by omega) := now_at (by rw [t2, List.getElem?_cons_succ, List.getElem?_append_left (by omega), List.getElem?_eq_getElem (by omega)])
          rw [e1, e2]
          exact hall.at i hi (by omega)
        · rw [now_at (t := c) (by rw [t2, List.getElem?_cons_succ, hlen, List.getElem?_append_right (Nat.le_refl _), Nat.sub_self]; rfl)]
          exact kc
        · rw [now_at (t := c) (by rw [t2, List.getElem?_cons_succ, hlen, List.getElem?_append_right (Nat.le_refl _), Nat.sub_self]; rfl)]
          exact sc
      have n0 : nowT (toksE s') 0 = o := now_at (by rw [t2]; rfl)
      have n2 : (nowT (toksE s') (us.length + 1 + 1)).k = 0 := by
        rw [now_at (t := e') (by rw [t2, List.getElem?_cons_succ, hlen, List.getElem?_append_right (by omega), show vs.length + 1 - vs.length = 1 by omega]; rfl)]
        exact ke'
      have i1 : isT (toksE s') 0 5 wLet = false := by unfold isT; rw [n0, ko]; simp
      have i2 : isT (toksE s') 0 5 wIf = false := by unfold isT; rw [n0, ko]; simp
      have i3 : isT (toksE s') 0 6 wOpen = true := by unfold isT; rw [n0, ko, so]; simp
      have i4 : isT (toksE s') (us.length + 1) 6 wClose = true := by unfold isT; rw [H.ck, H.cs]; simp
      have ip : plainE (nowT (toksE s') 0) = none := by unfold plainE; rw [n0, ko]; simp
      have hops : opsT (toksE s) us.length = us.countP openT := by unfold opsT; rw [t1, List.take_left]
      have hf : fuelE s' = (fuelE s + 9) + 7 := by
        unfold fuelE
        rw [t1, t2]
        simp only [List.length_cons, List.length_append, List.length_nil]
        omega
      have ha : ∀ r, readE (toksE s') (fuelE s + 9) .expr 1 1 = r → readE (toksE s') (fuelE s + 9 + 1) .atom 0 0 = andT r fun x j => takeT (toksE s') j 6 wClose (some (.ok x (j + 1))) := fun r hr => by
        rw [readE, ip]
        simp only
        rw [if_pos i3, if_neg (by decide), ← hr]
      rcases sim H (fuelE s) (fuelE s + 9) .expr .expr 0 0 _ _ (by omega) .expr (Nat.zero_le _) (Nat.zero_le _) hr with ⟨y, hy, hxy⟩ | ⟨⟨l, cc, hb⟩, hz⟩
      · refine .inl ⟨y, ?_, hxy⟩
        have hat := ha _ hy
        simp only [andT, takeT, i4, if_true] at hat
        unfold parseE
        rw [if_pos hlex', hf, up_ok hat i1 i2 n2]
        simp only [n2, if_true]
      · rw [hops] at hz
        refine .inr ⟨⟨l, cc, ?_⟩, by omega⟩
        have hat := ha _ hb
        simp only [andT] at hat
        unfold parseE
        rw [if_pos hlex', hf, up_bad hat i1 i2]
    · cases h
end Go.Proofs.Ytnmlobakiclgiaa
