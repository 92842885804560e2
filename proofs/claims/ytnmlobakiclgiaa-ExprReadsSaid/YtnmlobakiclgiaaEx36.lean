/-
  Types and terms: trees of a kind, a name, a number and arguments; how they lie in memory. Plain lemmas. No condition.
-/
import Derived.Test.YtnmlobakiclgiaaEx4
namespace Go.Proofs.Ytnmlobakiclgiaa
open Go.RowKit
inductive Tm where
  | mk (kind : Int) (name : ByteArray) (n : Int) (args : List Tm)
def Tm.kind : Tm → Int | .mk k _ _ _ => k
def Tm.name : Tm → ByteArray | .mk _ s _ _ => s
def Tm.n : Tm → Int | .mk _ _ n _ => n
def Tm.args : Tm → List Tm | .mk _ _ _ ts => ts
mutual
def Tm.row : Tm → List At
  | .mk k s n ts => [.v (.int .i64 k), .v (.string s), .v (.int .i64 n), .s 4 (Tm.rows ts)]
def Tm.rows : List Tm → List (List At)
  | [] => []
  | t :: ts => t.row :: Tm.rows ts
end
mutual
def Tm.all : Tm → List Tm
  | .mk k s n ts => .mk k s n ts :: Tm.alls ts
def Tm.alls : List Tm → List Tm
  | [] => []
  | t :: ts => t.all ++ Tm.alls ts
end
theorem Tm.row_eq (t : Tm) : t.row = [.v (.int .i64 t.kind), .v (.string t.name), .v (.int .i64 t.n), .s 4 (Tm.rows t.args)] := by cases t; rw [Tm.row]; rfl
theorem Tm.all_eq (t : Tm) : t.all = t :: Tm.alls t.args := by cases t; rw [Tm.all]; rfl
theorem Tm.rows_eq (ts : List Tm) : Tm.rows ts = ts.map Tm.row := by
  induction ts with
  | nil => rw [Tm.rows]; rfl
  | cons t ts ih => rw [Tm.rows, ih]; rfl
def Tm.size (t : Tm) : Nat := t.all.length
theorem Tm.size_eq (t : Tm) : t.size = 1 + (Tm.alls t.args).length := by rw [Tm.size, Tm.all_eq, List.length_cons]; omega
def Tms (w : World) (ts : List Tm) (a : Option Addr) (n cap : Nat) : Prop := MemW w (.s 4 (Tm.rows ts)) (.slice a n cap)
theorem Tms.len {w : World} {ts : List Tm} {a : Option Addr} {n cap : Nat} (h : Tms w ts a n cap) : ts.length = n ∧ n ≤ cap ∧ cap ≤ 9223372036854775807 := by
  have := Mem.len h; rw [Tm.rows_eq, List.length_map] at this; exact this
theorem Tms.keep {w w' : World} {ts : List Tm} {a : Option Addr} {n cap : Nat} (h : Tms w ts a n cap) (hb : Below w.heap.size w w') : Tms w' ts a n cap := MemW.keep h hb
theorem row_cells {S : Nat → Prop} {w : World} {t : Tm} {cs : List Value} (h : All2 (Mem S w) t.row cs) : ∃ a n cap, cs = [.int .i64 t.kind, .string t.name, .int .i64 t.n, .slice a n cap] ∧ Mem S w (.s 4 (Tm.rows t.args)) (.slice a n cap) := by
  rw [Tm.row_eq] at h
  cases h with
  | cons h0 h => cases h with
    | cons h1 h => cases h with
      | cons h2 h => cases h with
        | cons h3 h => cases h with
          | nil =>
            obtain ⟨a, n, cap, rfl, _⟩ := h3.parts
            exact ⟨a, n, cap, by rw [h0.val, h1.val, h2.val], h3⟩
theorem tm_at {S : Nat → Prop} {w : World} {ts : List Tm} {a : Option Addr} {n cap : Nat} (h : Mem S w (.s 4 (Tm.rows ts)) (.slice a n cap)) (i : Nat) (hi : i < n) :
    ∃ b o x a' n' cap', a = some ⟨b, o, none⟩ ∧ S b ∧ Hid (ts[i]? = some x) ∧ w.cell? ⟨b, o + i * 4, none⟩ = some (.int .i64 x.kind) ∧ w.cell? ⟨b, o + i * 4 + 1, none⟩ = some (.string x.name) ∧ w.cell? ⟨b, o + i * 4 + 2, none⟩ = some (.int .i64 x.n) ∧ w.cell? ⟨b, o + i * 4 + 3, none⟩ = some (.slice a' n' cap') ∧ Hid (Mem S w (.s 4 (Tm.rows x.args)) (.slice a' n' cap')) := by
  have hl := h.len.1
  rw [Tm.rows_eq, List.length_map] at hl
  have hi' : i < ts.length := by omega
  obtain ⟨b, o, ha, hS, _, cs, h2, hc⟩ := Mem.at h i (by rw [Tm.rows_eq, List.length_map]; exact hi')
  have e : (Tm.rows ts)[i]'(by rw [Tm.rows_eq, List.length_map]; exact hi') = (ts[i]).row := by simp [Tm.rows_eq]
  rw [e] at h2
  obtain ⟨a', n', cap', rfl, h3⟩ := row_cells h2
  exact ⟨b, o, ts[i], a', n', cap', ha, hS, Lib.hid (List.getElem?_eq_getElem hi'), hc 0 (by simp), hc 1 (by simp), hc 2 (by simp), hc 3 (by simp), Lib.hid h3⟩
theorem Tms.at {w : World} {ts : List Tm} {a : Option Addr} {n cap : Nat} (h : Tms w ts a n cap) (i : Nat) (hi : i < n) :
    ∃ b o x a' n' cap', a = some ⟨b, o, none⟩ ∧ b < w.heap.size ∧ Hid (ts[i]? = some x) ∧ w.cell? ⟨b, o + i * 4, none⟩ = some (.int .i64 x.kind) ∧ w.cell? ⟨b, o + i * 4 + 1, none⟩ = some (.string x.name) ∧ w.cell? ⟨b, o + i * 4 + 2, none⟩ = some (.int .i64 x.n) ∧ w.cell? ⟨b, o + i * 4 + 3, none⟩ = some (.slice a' n' cap') ∧ Hid (Tms w x.args a' n' cap') := tm_at h i hi
theorem Tm.rows_app (ts us : List Tm) : Tm.rows (ts ++ us) = Tm.rows ts ++ Tm.rows us := by simp [Tm.rows_eq]
theorem Tm.rows_len (ts : List Tm) : (Tm.rows ts).length = ts.length := by simp [Tm.rows_eq]
theorem take_at {α : Type} {l : List α} {k : Nat} {x : α} (h : l[k]? = some x) : l.take (k + 1) = l.take k ++ [x] := by
  rw [List.take_add_one, h]; rfl
end Go.Proofs.Ytnmlobakiclgiaa
