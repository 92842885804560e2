/-
  Tokens, in plain words: what is skipped, which token stands at a place, all tokens of a text. No program, no condition.
-/
import Derived.Test.YtppejoccljfblaaNumber
import Derived.Test.YtppejoccljfblaaWord
namespace Go.Proofs.Ytppejoccljfblaa

structure Tok where
  k : Int
  s : ByteArray
  n : Int
  l : Int
  c : Int

/-- What stands ahead of the next token is passed over (true: inside a remark); lines and columns are counted. -/
def skipG : Bool → List UInt8 → Nat → Nat → List UInt8 × Nat × Nat
  | _, [], l, c => ([], l, c)
  | true, x :: r, l, c => if x = 10 then skipG false r (l + 1) 1 else skipG true r l (c + 1)
  | false, x :: r, l, c =>
    if x = 10 then skipG false r (l + 1) 1 else if x = 32 then skipG false r l (c + 1)
    else if x = 45 ∧ r.head? = some 45 then skipG true r l (c + 1) else (x :: r, l, c)

def partB (c : UInt8) : Bool := part c.toNat
def pre? (y r : List UInt8) : Bool := y.isPrefixOf r
def str (l : List UInt8) : ByteArray := ⟨l.toArray⟩
theorem str_data (l : List UInt8) : (str l).data.toList = l := rfl
theorem str_size (l : List UInt8) : (str l).size = l.length := rfl
theorem str_inj {l m : List UInt8} (h : str l = str m) : l = m := by rw [← str_data l, h, str_data]

/-- The token that begins here: kind, text, number. -/
def tokL (r : List UInt8) : Option (Int × List UInt8 × Int) :=
  match r with
  | [] => none
  | x :: _ =>
    if cls x.toNat = 1 ∨ cls x.toNat = 2 then
      let w := r.takeWhile partB
      if isKey (str w) then some (5, w, 0) else if isWord (str w) 1 then some (2, w, 0) else if isWord (str w) 2 then some (3, w, 0) else none
    else if cls x.toNat = 3 then
      let w := r.takeWhile isDig
      if okN w then some (4, w, numN w) else none
    else (symbols.find? fun y => pre? y.data.toList r).map fun y => (6, y.data.toList, 0)

def addT (p : List Tok) (x : Option (Nat × Nat) × List Tok) : Option (Nat × Nat) × List Tok := (x.1, p ++ x.2)
theorem addT_nil (x : Option (Nat × Nat) × List Tok) : addT [] x = x := rfl
theorem addT_add (p q : List Tok) (x : Option (Nat × Nat) × List Tok) : addT p (addT q x) = addT (p ++ q) x := by simp [addT]

theorem skipG_le (com : Bool) (r : List UInt8) (l c : Nat) : (skipG com r l c).1.length ≤ r.length := by
  induction r generalizing com l c with
  | nil => cases com <;> exact Nat.le_refl _
  | cons x r ih =>
    cases com <;> simp only [skipG] <;> (repeat' split) <;> first | exact Nat.le_succ_of_le (ih ..) | exact Nat.le_refl _
theorem takeWhile_pos {p : UInt8 → Bool} {x : UInt8} {r : List UInt8} (h : p x = true) : 0 < ((x :: r).takeWhile p).length := by rw [List.takeWhile_cons_of_pos h]; simp
theorem cls_part {c : Int} (h : cls c = 1 ∨ cls c = 2 ∨ cls c = 3) : part c = true := by
  simp only [part, Bool.or_eq_true, beq_iff_eq, Bool.and_eq_true, decide_eq_true_eq]; omega
theorem cls3_dig {x : UInt8} (h : cls x.toNat = 3) : isDig x = true := by
  unfold cls at h
  simp only [isDig, Bool.and_eq_true, decide_eq_true_eq]
  repeat' split at h
  all_goals omega
theorem tokL_pre {r : List UInt8} {k n : Int} {t : List UInt8} (h : tokL r = some (k, t, n)) : 0 < t.length ∧ t <+: r ∧ 1 < k := by
  unfold tokL at h
  split at h
  · cases h
  · rename_i x r
    split at h
    · rename_i hc
      have hp := takeWhile_pos (p := partB) (x := x) (r := r) (cls_part (by omega))
      have hq := List.takeWhile_prefix partB (l := x :: r)
      simp only at h
      repeat' split at h
      all_goals first | (cases h; done) | (injection h with h; injection h with h1 h2; injection h2 with h2 h3; subst h1; subst h2; exact ⟨hp, hq, by decide⟩)
    · split at h
      · rename_i hc
        have hp := takeWhile_pos (p := isDig) (x := x) (r := r) (cls3_dig hc)
        have hq := List.takeWhile_prefix isDig (l := x :: r)
        simp only at h
        split at h
        · injection h with h; injection h with h1 h2; injection h2 with h2 h3; subst h1; subst h2; exact ⟨hp, hq, by decide⟩
        · cases h
      · rw [Option.map_eq_some_iff] at h
        obtain ⟨y, hy, he⟩ := h
        injection he with h1 h2; injection h2 with h2 h3; subst h1; subst h2
        have hm := List.mem_of_find?_eq_some hy
        have hs := List.find?_some hy
        refine ⟨?_, List.isPrefixOf_iff_prefix.1 hs, by decide⟩
        simp only [symbols, List.mem_cons, List.not_mem_nil, or_false] at hm
        rcases hm with rfl | rfl | rfl | rfl | rfl | rfl | rfl | rfl | rfl | rfl | rfl <;> decide

/-- The tokens from a place on where nothing is to be skipped; or where it is wrong. -/
def scanS (r : List UInt8) (l c : Nat) : Option (Nat × Nat) × List Tok :=
  match r with
  | [] => (none, [⟨0, str [], 0, l, c⟩])
  | x :: r' =>
    match h : tokL (x :: r') with
    | none => (some (l, c), [])
    | some (k, t, n) =>
      let s := skipG false ((x :: r').drop t.length) l (c + t.length)
      addT ((if c = 1 then [⟨1, str [], 0, l, c⟩] else []) ++ [⟨k, str t, n, l, c⟩]) (scanS s.1 s.2.1 s.2.2)
termination_by r.length
decreasing_by
  have h1 := (tokL_pre h).1
  have h2 := skipG_le false ((x :: r').drop t.length) l (c + t.length)
  rw [List.length_drop] at h2
  show (skipG false ((x :: r').drop t.length) l (c + t.length)).1.length < (x :: r').length
  have h3 : (x :: r').length = r'.length + 1 := rfl
  omega
/-- All that a text's tokens are, from a place on. -/
def scanB (com : Bool) (r : List UInt8) (l c : Nat) : Option (Nat × Nat) × List Tok := scanS (skipG com r l c).1 (skipG com r l c).2.1 (skipG com r l c).2.2

theorem scanS_nil (l c : Nat) : scanS [] l c = (none, [⟨0, str [], 0, l, c⟩]) := by rw [scanS]
theorem scanS_bad {r : List UInt8} (l c : Nat) (h0 : r ≠ []) (h : tokL r = none) : scanS r l c = (some (l, c), []) := by
  cases r with
  | nil => exact absurd rfl h0
  | cons x r => rw [scanS]; split <;> simp_all
theorem scanS_tok {r : List UInt8} (l c : Nat) {k n : Int} {t : List UInt8} (h : tokL r = some (k, t, n)) :
    scanS r l c = addT ((if c = 1 then [⟨1, str [], 0, l, c⟩] else []) ++ [⟨k, str t, n, l, c⟩]) (scanB false (r.drop t.length) l (c + t.length)) := by
  cases r with
  | nil => cases h
  | cons x r =>
    rw [scanS]
    split
    · simp_all
    · rename_i k' t' n' h'
      rw [h] at h'
      injection h' with h'; injection h' with h1 h2; injection h2 with h2 h3
      subst h1; subst h2; subst h3
      rfl

/-- Skipped is skipped. -/
theorem skipG_idem (com : Bool) (r : List UInt8) (l c : Nat) : skipG false (skipG com r l c).1 (skipG com r l c).2.1 (skipG com r l c).2.2 = skipG com r l c := by
  induction r generalizing com l c with
  | nil => cases com <;> rfl
  | cons x r ih =>
    cases com with
    | true => simp only [skipG]; split <;> exact ih ..
    | false =>
      simp only [skipG]
      split
      · exact ih ..
      · split
        · exact ih ..
        · split
          · exact ih ..
          · rename_i h1 h2 h3
            simp only [skipG, if_neg h1, if_neg h2, if_neg h3]
theorem scanB_at {r : List UInt8} {l c : Nat} (h : skipG false r l c = (r, l, c)) : scanB false r l c = scanS r l c := by rw [scanB, h]
theorem scanB_skip (com : Bool) (r : List UInt8) (l c : Nat) : scanB false (skipG com r l c).1 (skipG com r l c).2.1 (skipG com r l c).2.2 = scanB com r l c := by
  rw [scanB, skipG_idem]; rfl
theorem scanB_nl (com : Bool) (r : List UInt8) (l c : Nat) : scanB com (10 :: r) l c = scanB false r (l + 1) 1 := by cases com <;> simp [scanB, skipG]
theorem scanB_sp (r : List UInt8) (l c : Nat) : scanB false (32 :: r) l c = scanB false r l (c + 1) := by simp [scanB, skipG]
theorem scanB_rem (r : List UInt8) (l c : Nat) : scanB false (45 :: 45 :: r) l c = scanB true (45 :: 45 :: r) l c := by simp [scanB, skipG]
theorem scanB_on (x : UInt8) (r : List UInt8) (l c : Nat) (h : x ≠ 10) : scanB true (x :: r) l c = scanB true r l (c + 1) := by simp [scanB, skipG, h]
theorem scanB_out (l c : Nat) : scanB true [] l c = scanB false [] l c := by simp [scanB, skipG]
theorem skipG_here {x : UInt8} {r : List UInt8} (l c : Nat) (h1 : x ≠ 10) (h2 : x ≠ 32) (h3 : ¬ (x = 45 ∧ r.head? = some 45)) : skipG false (x :: r) l c = (x :: r, l, c) := by simp only [skipG, if_neg h1, if_neg h2, if_neg h3]

/-- What the document says of a text: the error's number, the place, the tokens. -/
def lexes (s : ByteArray) : Int × Int × Int × List Tok :=
  if 4096 < s.size then (11, 0, 0, [])
  else match scanB false s.data.toList 1 1 with
    | (some (l, c), _) => (1, l, c, [])
    | (none, ts) => (0, 0, 0, ts)
theorem lexes_long (s : ByteArray) (h : 4096 < s.size) : lexes s = (11, 0, 0, []) := by rw [lexes, if_pos h]
theorem lexes_bad (s : ByteArray) (h : ¬ 4096 < s.size) {l c : Nat} {ts : List Tok} (h1 : scanB false s.data.toList 1 1 = (some (l, c), ts)) : lexes s = (1, (l : Int), (c : Int), []) := by rw [lexes, if_neg h, h1]
theorem lexes_ok (s : ByteArray) (h : ¬ 4096 < s.size) {ts : List Tok} (h1 : scanB false s.data.toList 1 1 = (none, ts)) : lexes s = (0, 0, 0, ts) := by rw [lexes, if_neg h, h1]
end Go.Proofs.Ytppejoccljfblaa
