/-
  How tokens and expressions lie, as the parser's walks want it. Plain lemmas. No condition.
-/
import Derived.Test.YtcoiagfeoonpbaaSe5
namespace Go.Proofs.Ytcoiagfeoonpbaa
open Go.RowKit
def tkRow (t : Tk) : List At := [.v (.int .i64 t.k), .v (.string t.s), .v (.int .i64 t.n), .v (.int .i64 t.l), .v (.int .i64 t.c)]
def tkRows (ts : List Tk) : List (List At) := ts.map tkRow
theorem tkRows_len (ts : List Tk) : (tkRows ts).length = ts.length := by simp [tkRows]
theorem tk_at {S : Nat → Prop} {w : World} {ts : List Tk} {a : Option Addr} {n cap : Nat} (h : Mem S w (.s 5 (tkRows ts)) (.slice a n cap)) (i : Nat) (hi : i < n) :
    ∃ b o t, a = some ⟨b, o, none⟩ ∧ S b ∧ Hid (ts[i]? = some t) ∧ w.cell? ⟨b, o + i * 5, none⟩ = some (.int .i64 t.k) ∧ w.cell? ⟨b, o + i * 5 + 1, none⟩ = some (.string t.s) ∧ w.cell? ⟨b, o + i * 5 + 2, none⟩ = some (.int .i64 t.n) ∧ w.cell? ⟨b, o + i * 5 + 3, none⟩ = some (.int .i64 t.l) ∧ w.cell? ⟨b, o + i * 5 + 4, none⟩ = some (.int .i64 t.c) := by
  have hl := h.len.1
  rw [tkRows_len] at hl
  have hi' : i < ts.length := by omega
  obtain ⟨b, o, ha, hS, _, cs, h2, hc⟩ := Mem.at h i (by rw [tkRows_len]; exact hi')
  have e : (tkRows ts)[i]'(by rw [tkRows_len]; exact hi') = tkRow ts[i] := by simp [tkRows]
  rw [e] at h2
  unfold tkRow at h2
  cases h2 with
  | cons g0 h2 =>
    cases h2 with
    | cons g1 h2 =>
      cases h2 with
      | cons g2 h2 =>
        cases h2 with
        | cons g3 h2 =>
          cases h2 with
          | cons g4 h2 =>
            cases h2
            have c0 := hc 0 (by simp)
            have c1 := hc 1 (by simp)
            have c2 := hc 2 (by simp)
            have c3 := hc 3 (by simp)
            have c4 := hc 4 (by simp)
            simp only [List.getElem_cons_zero, List.getElem_cons_succ, g0.val, g1.val, g2.val, g3.val, g4.val] at c0 c1 c2 c3 c4
            exact ⟨b, o, ts[i], ha, hS, Lib.hid (List.getElem?_eq_getElem hi'), c0, c1, c2, c3, c4⟩
def exV (x : Ex) (a : Option Addr) (n cap : Nat) : Value := .agg #[.int .i64 x.kind, .string x.name, .int .i64 x.n, .slice a n cap, .int .i64 x.line, .int .i64 x.col]
theorem now_at {ts : List Tk} {i : Nat} {t : Tk} (h : ts[i]? = some t) : nowT ts i = t := by unfold nowT; rw [h]
theorem now_past {ts : List Tk} {i : Nat} {t : Tk} (h : ts.length ≤ i) (ht : ts.getLast? = some t) : nowT ts i = noTk t.l t.c := by
  unfold nowT
  rw [List.getElem?_eq_none h, ht]
theorem now_none {i : Nat} : nowT [] i = noTk 0 0 := by
  unfold nowT; simp
end Go.Proofs.Ytcoiagfeoonpbaa

/-
  Types and terms: trees of a kind, a name, a number and arguments; how they lie in memory. Plain lemmas. No condition.
-/
namespace Go.Proofs.Ytcoiagfeoonpbaa
open Go.RowKit
inductive Tm where
  | mk (kind : Int) (name : ByteArray) (n : Int) (args : List Tm)
def Tm.kind : Tm → Int | .mk k _ _ _ => k
def Tm.name : Tm → ByteArray | .mk _ s _ _ => s
def Tm.n : Tm → Int | .mk _ _ n _ => n
def Tm.args : Tm → List Tm | .mk _ _ _ ts => ts
mutual
def Tm.row : Tm → List At
  | .mk k s n ts => [.v (.int .i64 k), .v (.string s), .v (.int .i64 n), .s 4 (Tm.rows ts)]
def Tm.rows : List Tm → List (List At)
  | [] => []
  | t :: ts => t.row :: Tm.rows ts
end
mutual
def Tm.all : Tm → List Tm
  | .mk k s n ts => .mk k s n ts :: Tm.alls ts
def Tm.alls : List Tm → List Tm
  | [] => []
  | t :: ts => t.all ++ Tm.alls ts
end
theorem Tm.eta (t : Tm) : Tm.mk t.kind t.name t.n t.args = t := by cases t; rfl
theorem Tm.row_eq (t : Tm) : t.row = [.v (.int .i64 t.kind), .v (.string t.name), .v (.int .i64 t.n), .s 4 (Tm.rows t.args)] := by cases t; rw [Tm.row]; rfl
theorem Tm.all_eq (t : Tm) : t.all = t :: Tm.alls t.args := by cases t; rw [Tm.all]; rfl
theorem Tm.rows_eq (ts : List Tm) : Tm.rows ts = ts.map Tm.row := by
  induction ts with
  | nil => rw [Tm.rows]; rfl
  | cons t ts ih => rw [Tm.rows, ih]; rfl
def Tm.size (t : Tm) : Nat := t.all.length
theorem Tm.size_eq (t : Tm) : t.size = 1 + (Tm.alls t.args).length := by rw [Tm.size, Tm.all_eq, List.length_cons]; omega
def Tms (w : World) (ts : List Tm) (a : Option Addr) (n cap : Nat) : Prop := MemW w (.s 4 (Tm.rows ts)) (.slice a n cap)
theorem Tms.len {w : World} {ts : List Tm} {a : Option Addr} {n cap : Nat} (h : Tms w ts a n cap) : ts.length = n ∧ n ≤ cap ∧ cap ≤ 9223372036854775807 := by
  have := Mem.len h; rw [Tm.rows_eq, List.length_map] at this; exact this
theorem Tms.keep {w w' : World} {ts : List Tm} {a : Option Addr} {n cap : Nat} (h : Tms w ts a n cap) (hb : Below w.heap.size w w') : Tms w' ts a n cap := MemW.keep h hb
theorem row_cells {S : Nat → Prop} {w : World} {t : Tm} {cs : List Value} (h : All2 (Mem S w) t.row cs) : ∃ a n cap, cs = [.int .i64 t.kind, .string t.name, .int .i64 t.n, .slice a n cap] ∧ Mem S w (.s 4 (Tm.rows t.args)) (.slice a n cap) := by
  rw [Tm.row_eq] at h
  cases h with
  | cons h0 h => cases h with
    | cons h1 h => cases h with
      | cons h2 h => cases h with
        | cons h3 h => cases h with
          | nil =>
            obtain ⟨a, n, cap, rfl, _⟩ := h3.parts
            exact ⟨a, n, cap, by rw [h0.val, h1.val, h2.val], h3⟩
theorem tm_at {S : Nat → Prop} {w : World} {ts : List Tm} {a : Option Addr} {n cap : Nat} (h : Mem S w (.s 4 (Tm.rows ts)) (.slice a n cap)) (i : Nat) (hi : i < n) :
    ∃ b o x a' n' cap', a = some ⟨b, o, none⟩ ∧ S b ∧ Hid (ts[i]? = some x) ∧ w.cell? ⟨b, o + i * 4, none⟩ = some (.int .i64 x.kind) ∧ w.cell? ⟨b, o + i * 4 + 1, none⟩ = some (.string x.name) ∧ w.cell? ⟨b, o + i * 4 + 2, none⟩ = some (.int .i64 x.n) ∧ w.cell? ⟨b, o + i * 4 + 3, none⟩ = some (.slice a' n' cap') ∧ Hid (Mem S w (.s 4 (Tm.rows x.args)) (.slice a' n' cap')) := by
  have hl := h.len.1
  rw [Tm.rows_eq, List.length_map] at hl
  have hi' : i < ts.length := by omega
  obtain ⟨b, o, ha, hS, _, cs, h2, hc⟩ := Mem.at h i (by rw [Tm.rows_eq, List.length_map]; exact hi')
  have e : (Tm.rows ts)[i]'(by rw [Tm.rows_eq, List.length_map]; exact hi') = (ts[i]).row := by simp [Tm.rows_eq]
  rw [e] at h2
  obtain ⟨a', n', cap', rfl, h3⟩ := row_cells h2
  exact ⟨b, o, ts[i], a', n', cap', ha, hS, Lib.hid (List.getElem?_eq_getElem hi'), hc 0 (by simp), hc 1 (by simp), hc 2 (by simp), hc 3 (by simp), Lib.hid h3⟩
theorem Tms.at {w : World} {ts : List Tm} {a : Option Addr} {n cap : Nat} (h : Tms w ts a n cap) (i : Nat) (hi : i < n) :
    ∃ b o x a' n' cap', a = some ⟨b, o, none⟩ ∧ b < w.heap.size ∧ Hid (ts[i]? = some x) ∧ w.cell? ⟨b, o + i * 4, none⟩ = some (.int .i64 x.kind) ∧ w.cell? ⟨b, o + i * 4 + 1, none⟩ = some (.string x.name) ∧ w.cell? ⟨b, o + i * 4 + 2, none⟩ = some (.int .i64 x.n) ∧ w.cell? ⟨b, o + i * 4 + 3, none⟩ = some (.slice a' n' cap') ∧ Hid (Tms w x.args a' n' cap') := tm_at h i hi
theorem Tm.rows_app (ts us : List Tm) : Tm.rows (ts ++ us) = Tm.rows ts ++ Tm.rows us := by simp [Tm.rows_eq]
theorem Tm.rows_len (ts : List Tm) : (Tm.rows ts).length = ts.length := by simp [Tm.rows_eq]
theorem take_at {α : Type} {l : List α} {k : Nat} {x : α} (h : l[k]? = some x) : l.take (k + 1) = l.take k ++ [x] := by
  rw [List.take_add_one, h]; rfl
theorem mem_of_at {α : Type} {l : List α} {i : Nat} {x : α} (h : l[i]? = some x) : x ∈ l := List.mem_of_getElem? h
end Go.Proofs.Ytcoiagfeoonpbaa

/-
  Modules of tokens: the plain model of the program's reader of modules, by fuel: types, constructors, data, rules, all. Plain law. No condition.
-/
namespace Go.Proofs.Ytcoiagfeoonpbaa
structure MS where
  i : Nat
  b : Option (Int × Int)
def MS.ok (s : MS) : Bool := s.b.isNone
def MS.next (s : MS) : MS := ⟨s.i + 1, s.b⟩
section
variable (ts : List Tk)
def failS (s : MS) : MS := if s.ok then ⟨s.i, some ((nowT ts s.i).l, (nowT ts s.i).c)⟩ else s
def isS (s : MS) (k : Int) (x : ByteArray) : Bool := s.ok && isT ts s.i k x
def takeS (s : MS) (k : Int) (x : ByteArray) : MS := if isS ts s k x then s.next else failS ts s
def nameS (s : MS) (k : Int) : ByteArray × MS := if (nowT ts s.i).k = k then ((nowT ts s.i).s, s.next) else (⟨#[]⟩, failS ts s)
def startsS (s : MS) : Bool := s.ok && (decide ((nowT ts s.i).k = 2) || (decide ((nowT ts s.i).k = 3) || isS ts s 6 wOpen))
def noTm : Tm := .mk 0 ⟨#[]⟩ 0 []
inductive Mt where
  | atom
  | typ
  | atoms (l : List Tm)
def typeM : Nat → Mt → Nat → MS → Option (Tm × MS)
  | 0, _, _, _ => none
  | f + 1, .atom, deep, s =>
    if (nowT ts s.i).k = 2 then some (.mk 1 (nowT ts s.i).s 0 [], s.next)
    else if (nowT ts s.i).k = 3 then some (.mk 2 (nowT ts s.i).s 0 [], s.next)
    else (typeM f .typ (deep + 1) (takeS ts (if deep = 40 then failS ts s else s) 6 wOpen)).map fun p => (p.1, takeS ts p.2 6 wClose)
  | f + 1, .typ, deep, s =>
    if s.ok = false then some (noTm, s)
    else if (nowT ts s.i).k = 3 then (typeM f (.atoms []) deep s.next).map fun p => (.mk 2 (nowT ts s.i).s 0 p.1.args, p.2)
    else typeM f .atom deep s
  | f + 1, .atoms l, deep, s =>
    if startsS ts s then (typeM f .atom deep s).bind fun p => typeM f (.atoms (l ++ [p.1])) deep p.2
    else some (.mk 0 ⟨#[]⟩ 0 l, s)
structure Cn where
  name : ByteArray
  types : List Tm
  l : Int
  c : Int
structure Da where
  name : ByteArray
  vars : List ByteArray
  cons : List Cn
  l : Int
  c : Int
structure Ru where
  name : ByteArray
  pats : List Ex
  guard : List Ex
  body : Ex
  l : Int
  c : Int
end
section
variable {ts : List Tk}
structure Step (d : Nat) (s s' : MS) : Prop where
  stay : s.ok = false → s'.b = s.b
  fwd : s'.ok = true → s.ok = true ∧ s.i + d ≤ s'.i
theorem Step.bad {d : Nat} {s s' : MS} (h : Step d s s') (hs : s.ok = false) : s'.ok = false := by
  have := h.stay hs
  unfold MS.ok at *
  rw [this]; exact hs
theorem Step.refl (s : MS) : Step 0 s s := ⟨fun _ => rfl, fun h => ⟨h, Nat.le_refl _⟩⟩
theorem Step.trans {d e : Nat} {a b c : MS} (h : Step d a b) (k : Step e b c) : Step (d + e) a c :=
  ⟨fun ha => (k.stay (h.bad ha)).trans (h.stay ha), fun hc => ⟨(h.fwd (k.fwd hc).1).1, by have := (h.fwd (k.fwd hc).1).2; have := (k.fwd hc).2; omega⟩⟩
theorem Step.le {d e : Nat} {a b : MS} (h : Step d a b) (he : e ≤ d) : Step e a b := ⟨h.stay, fun hb => ⟨(h.fwd hb).1, by have := (h.fwd hb).2; omega⟩⟩
theorem fail_notok (s : MS) : (failS ts s).ok = false := by
  unfold failS MS.ok
  by_cases h : s.b.isNone <;> simp [h]
theorem typeM_more : ∀ (f g : Nat) (nt : Mt) (deep : Nat) (s : MS) (r : Tm × MS), f ≤ g → typeM ts f nt deep s = some r → typeM ts g nt deep s = some r := by
  intro f
  induction f with
  | zero => intro g nt deep s r _ h; rw [typeM] at h; cases h
  | succ f ih =>
    intro g nt deep s r hfg h
    obtain ⟨g, rfl⟩ : ∃ k, g = k + 1 := ⟨g - 1, by omega⟩
    have hfg' : f ≤ g := by omega
    cases nt with
    | atom =>
      rw [typeM] at h ⊢
      split at h
      · rename_i h1; rw [if_pos h1]; exact h
      · rename_i h1
        rw [if_neg h1]
        split at h
        · rename_i h2; rw [if_pos h2]; exact h
        · rename_i h2
          rw [if_neg h2]
          obtain ⟨p, h3, h4⟩ := Option.map_eq_some_iff.1 h
          rw [ih g _ _ _ _ hfg' h3]
          exact congrArg some h4
    | typ =>
      rw [typeM] at h ⊢
      split at h
      · rename_i h1; rw [if_pos h1]; exact h
      · rename_i h1
        rw [if_neg h1]
        split at h
        · rename_i h2
          rw [if_pos h2]
          obtain ⟨p, h3, h4⟩ := Option.map_eq_some_iff.1 h
          rw [ih g _ _ _ _ hfg' h3]
          exact congrArg some h4
        · rename_i h2
          rw [if_neg h2]
          exact ih g _ _ _ _ hfg' h
    | atoms l =>
      rw [typeM] at h ⊢
      split at h
      · rename_i h1
        rw [if_pos h1]
        obtain ⟨p, h3, h4⟩ := Option.bind_eq_some_iff.1 h
        rw [ih g _ _ _ _ hfg' h3]
        exact ih g _ _ _ _ hfg' h4
      · rename_i h1; rw [if_neg h1]; exact h
end
end Go.Proofs.Ytcoiagfeoonpbaa

/-
  Expressions that are alike, places aside or not. Plain. No condition.
-/
namespace Go.Proofs.Ytcoiagfeoonpbaa
inductive SamE (p : Bool) : Ex → Ex → Prop
  | mk (k : Int) (s : ByteArray) (n : Int) (xs ys : List Ex) (l c l' c' : Int) (hl : xs.length = ys.length) (ha : ∀ i (h1 : i < xs.length) (h2 : i < ys.length), SamE p xs[i] ys[i]) (hp : p = true → l = l' ∧ c = c') : SamE p (.mk k s n xs l c) (.mk k s n ys l' c')
theorem SamE.refl (p : Bool) : ∀ (m : Nat) (x : Ex), SizeOf.sizeOf x ≤ m → SamE p x x
  | 0, .mk k s n xs l c, h => by simp at h
  | m + 1, .mk k s n xs l c, h => .mk k s n xs xs l c l c rfl (fun i h1 _ => SamE.refl p m xs[i] (by
      have h3 := List.sizeOf_lt_of_mem (List.getElem_mem h1)
      simp at h
      omega)) fun _ => ⟨rfl, rfl⟩
end Go.Proofs.Ytcoiagfeoonpbaa
