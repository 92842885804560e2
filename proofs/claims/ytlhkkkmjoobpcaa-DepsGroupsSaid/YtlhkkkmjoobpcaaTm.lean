/-
  Types and terms: trees of a kind, a name, a number and arguments; how they lie in memory. Plain lemmas. No condition.
-/
import Derived.Test.YtlhkkkmjoobpcaaTree
namespace Go.Proofs.Ytlhkkkmjoobpcaa
open Go.RowKit

inductive Tm where
  | mk (kind : Int) (name : ByteArray) (n : Int) (args : List Tm)
def Tm.kind : Tm → Int | .mk k _ _ _ => k
def Tm.name : Tm → ByteArray | .mk _ s _ _ => s
def Tm.n : Tm → Int | .mk _ _ n _ => n
def Tm.args : Tm → List Tm | .mk _ _ _ ts => ts
mutual
def Tm.row : Tm → List At
  | .mk k s n ts => [.v (.int .i64 k), .v (.string s), .v (.int .i64 n), .s 4 (Tm.rows ts)]
def Tm.rows : List Tm → List (List At)
  | [] => []
  | t :: ts => t.row :: Tm.rows ts
end
mutual
/-- It, and all that is in it. -/
def Tm.all : Tm → List Tm
  | .mk k s n ts => .mk k s n ts :: Tm.alls ts
def Tm.alls : List Tm → List Tm
  | [] => []
  | t :: ts => t.all ++ Tm.alls ts
end
theorem Tm.eta (t : Tm) : Tm.mk t.kind t.name t.n t.args = t := by cases t; rfl
theorem Tm.row_eq (t : Tm) : t.row = [.v (.int .i64 t.kind), .v (.string t.name), .v (.int .i64 t.n), .s 4 (Tm.rows t.args)] := by cases t; rw [Tm.row]; rfl
theorem Tm.all_eq (t : Tm) : t.all = t :: Tm.alls t.args := by cases t; rw [Tm.all]; rfl
theorem Tm.rows_eq (ts : List Tm) : Tm.rows ts = ts.map Tm.row := by
  induction ts with
  | nil => rw [Tm.rows]; rfl
  | cons t ts ih => rw [Tm.rows, ih]; rfl
theorem Tm.alls_eq (ts : List Tm) : Tm.alls ts = ts.flatMap Tm.all := by
  induction ts with
  | nil => rw [Tm.alls]; rfl
  | cons t ts ih => rw [Tm.alls, ih]; rfl
theorem Tm.alls_app (ts us : List Tm) : Tm.alls (ts ++ us) = Tm.alls ts ++ Tm.alls us := by simp [Tm.alls_eq]
/-- How many there are. -/
def Tm.size (t : Tm) : Nat := t.all.length
theorem Tm.size_eq (t : Tm) : t.size = 1 + (Tm.alls t.args).length := by rw [Tm.size, Tm.all_eq, List.length_cons]; omega
theorem Tm.size_pos (t : Tm) : 0 < t.size := by rw [Tm.size_eq]; omega
theorem Tm.size_mem {x : Tm} {ts : List Tm} (h : x ∈ ts) : x.size ≤ (Tm.alls ts).length := by
  induction ts with
  | nil => cases h
  | cons t ts ih =>
    rw [Tm.alls, List.length_append]
    rcases List.mem_cons.1 h with rfl | h
    · exact Nat.le_add_right _ _
    · have := ih h; omega
theorem Tm.size_arg {x t : Tm} (h : x ∈ t.args) : x.size < t.size := by
  have := Tm.size_mem h; rw [Tm.size_eq t]; omega
theorem Tm.len_args (ts : List Tm) : ts.length ≤ (Tm.alls ts).length := by
  induction ts with
  | nil => simp
  | cons t ts ih => rw [Tm.alls, List.length_append]; have := t.size_pos; unfold Tm.size at this; simp; omega
theorem Tm.mem_all (t : Tm) : t ∈ t.all := by rw [Tm.all_eq]; exact List.mem_cons_self ..
theorem Tm.args_all {t : Tm} : ∀ x ∈ t.args, ∀ y ∈ x.all, y ∈ t.all := by
  intro x hx y hy
  rw [Tm.all_eq, Tm.alls_eq]
  exact List.mem_cons_of_mem _ (List.mem_flatMap.2 ⟨x, hx, hy⟩)

/-- These terms lie there. -/
def Tms (w : World) (ts : List Tm) (a : Option Addr) (n cap : Nat) : Prop := MemW w (.s 4 (Tm.rows ts)) (.slice a n cap)
theorem Tms.len {w : World} {ts : List Tm} {a : Option Addr} {n cap : Nat} (h : Tms w ts a n cap) : ts.length = n ∧ n ≤ cap ∧ cap ≤ 9223372036854775807 := by
  have := Mem.len h; rw [Tm.rows_eq, List.length_map] at this; exact this
theorem Tms.keep {w w' : World} {ts : List Tm} {a : Option Addr} {n cap : Nat} (h : Tms w ts a n cap) (hb : Below w.heap.size w w') : Tms w' ts a n cap := MemW.keep h hb
theorem row_cells {S : Nat → Prop} {w : World} {t : Tm} {cs : List Value} (h : All2 (Mem S w) t.row cs) : ∃ a n cap, cs = [.int .i64 t.kind, .string t.name, .int .i64 t.n, .slice a n cap] ∧ Mem S w (.s 4 (Tm.rows t.args)) (.slice a n cap) := by
  rw [Tm.row_eq] at h
  cases h with
  | cons h0 h => cases h with
    | cons h1 h => cases h with
      | cons h2 h => cases h with
        | cons h3 h => cases h with
          | nil =>
            obtain ⟨a, n, cap, rfl, _⟩ := h3.parts
            exact ⟨a, n, cap, by rw [h0.val, h1.val, h2.val], h3⟩
theorem tm_at {S : Nat → Prop} {w : World} {ts : List Tm} {a : Option Addr} {n cap : Nat} (h : Mem S w (.s 4 (Tm.rows ts)) (.slice a n cap)) (i : Nat) (hi : i < n) :
    ∃ b o x a' n' cap', a = some ⟨b, o, none⟩ ∧ S b ∧ Hid (ts[i]? = some x) ∧ w.cell? ⟨b, o + i * 4, none⟩ = some (.int .i64 x.kind) ∧ w.cell? ⟨b, o + i * 4 + 1, none⟩ = some (.string x.name) ∧ w.cell? ⟨b, o + i * 4 + 2, none⟩ = some (.int .i64 x.n) ∧ w.cell? ⟨b, o + i * 4 + 3, none⟩ = some (.slice a' n' cap') ∧ Hid (Mem S w (.s 4 (Tm.rows x.args)) (.slice a' n' cap')) := by
  have hl := h.len.1
  rw [Tm.rows_eq, List.length_map] at hl
  have hi' : i < ts.length := by omega
  obtain ⟨b, o, ha, hS, _, cs, h2, hc⟩ := Mem.at h i (by rw [Tm.rows_eq, List.length_map]; exact hi')
  have e : (Tm.rows ts)[i]'(by rw [Tm.rows_eq, List.length_map]; exact hi') = (ts[i]).row := by simp [Tm.rows_eq]
  rw [e] at h2
  obtain ⟨a', n', cap', rfl, h3⟩ := row_cells h2
  exact ⟨b, o, ts[i], a', n', cap', ha, hS, Lib.hid (List.getElem?_eq_getElem hi'), hc 0 (by simp), hc 1 (by simp), hc 2 (by simp), hc 3 (by simp), Lib.hid h3⟩
theorem Tms.at {w : World} {ts : List Tm} {a : Option Addr} {n cap : Nat} (h : Tms w ts a n cap) (i : Nat) (hi : i < n) :
    ∃ b o x a' n' cap', a = some ⟨b, o, none⟩ ∧ b < w.heap.size ∧ Hid (ts[i]? = some x) ∧ w.cell? ⟨b, o + i * 4, none⟩ = some (.int .i64 x.kind) ∧ w.cell? ⟨b, o + i * 4 + 1, none⟩ = some (.string x.name) ∧ w.cell? ⟨b, o + i * 4 + 2, none⟩ = some (.int .i64 x.n) ∧ w.cell? ⟨b, o + i * 4 + 3, none⟩ = some (.slice a' n' cap') ∧ Hid (Tms w x.args a' n' cap') := tm_at h i hi
theorem row_mk {S : Nat → Prop} {w : World} (t : Tm) {a : Option Addr} {n cap : Nat} (h : Mem S w (.s 4 (Tm.rows t.args)) (.slice a n cap)) : All2 (Mem S w) t.row [.int .i64 t.kind, .string t.name, .int .i64 t.n, .slice a n cap] := by
  rw [Tm.row_eq]
  exact .cons (.v _ rfl) (.cons (.v _ rfl) (.cons (.v _ rfl) (.cons h .nil)))
theorem Tm.rows_app (ts us : List Tm) : Tm.rows (ts ++ us) = Tm.rows ts ++ Tm.rows us := by simp [Tm.rows_eq]
theorem Tm.rows_len (ts : List Tm) : (Tm.rows ts).length = ts.length := by simp [Tm.rows_eq]
theorem take_at {α : Type} {l : List α} {k : Nat} {x : α} (h : l[k]? = some x) : l.take (k + 1) = l.take k ++ [x] := by
  rw [List.take_add_one, h]; rfl
theorem Tm.alls_at {ts : List Tm} {k : Nat} {x : Tm} (h : ts[k]? = some x) : Tm.alls (ts.take (k + 1)) = Tm.alls (ts.take k) ++ x.all := by
  rw [take_at h, Tm.alls_app, Tm.alls, Tm.alls, List.append_nil]
theorem Tm.alls_le {ts : List Tm} (k : Nat) : (Tm.alls (ts.take k)).length ≤ (Tm.alls ts).length := by
  have h : ts = ts.take k ++ ts.drop k := (List.take_append_drop k ts).symm
  conv => rhs; rw [h, Tm.alls_app, List.length_append]
  omega
/-- One type, written down as a slice of one. -/
theorem tm_one {B base : Nat} {e : TypeId} {w : World} (t : Tm) {a : Option Addr} {n cap : Nat} (h : Mem (Nw B base w.heap.size) w (.s 4 (Tm.rows t.args)) (.slice a n cap)) (hb : base ≤ w.heap.size) :
    OwnD B base e 4 (w.alloc (.cells #[.int .i64 t.kind, .string t.name, .int .i64 t.n, .slice a n cap] e)) (.slice (some ⟨w.heap.size, 0, none⟩) 1 1) (Tm.rows [t]) :=
  OwnD.built (css := [[.int .i64 t.kind, .string t.name, .int .i64 t.n, .slice a n cap]]) (by rw [Tm.rows, Tm.rows]; exact .cons ⟨rfl, row_mk t h⟩ .nil) hb 1 (by rw [Tm.rows_len]; rfl) (by decide) _ rfl
/-- One type, written down to be appended. -/
theorem own_one {B base : Nat} {e e' : TypeId} {w : World} {y : Value} {rs : List (List At)} (x : Tm) {a : Option Addr} {n cap : Nat} (h : OwnD B base e 4 w y rs) (hs : base ≤ w.heap.size) (hx : Mem (fun b => Nw B base w.heap.size b ∧ y.ownBlock ≠ some b) w (.s 4 (Tm.rows x.args)) (.slice a n cap)) :
    Mem (fun b => Nw B base (w.alloc (.cells #[.int .i64 x.kind, .string x.name, .int .i64 x.n, .slice a n cap] e')).heap.size b ∧ y.ownBlock ≠ some b) (w.alloc (.cells #[.int .i64 x.kind, .string x.name, .int .i64 x.n, .slice a n cap] e')) (.s 4 (Tm.rows [x])) (.slice (some ⟨w.heap.size, 0, none⟩) 1 1) := by
  have hb := Bo.new w e' #[.int .i64 x.kind, .string x.name, .int .i64 x.n, .slice a n cap]
  have hx' := hx.mono (S' := fun b => Nw B base (w.alloc (.cells #[.int .i64 x.kind, .string x.name, .int .i64 x.n, .slice a n cap] e')).heap.size b ∧ y.ownBlock ≠ some b) (w' := w.alloc (.cells #[.int .i64 x.kind, .string x.name, .int .i64 x.n, .slice a n cap] e')) (fun b ⟨⟨h1, h2⟩, h3⟩ => ⟨⟨h1, by rw [World.size_alloc]; omega⟩, h3⟩) (fun b ⟨⟨_, h2⟩, _⟩ => (below_new w _).block b h2)
  have hr := row_mk x hx'
  rw [Tm.rows, Tm.rows]
  refine .s w.heap.size 0 1 1 4 _ (fun _ j => (#[Value.int .i64 x.kind, .string x.name, .int .i64 x.n, .slice a n cap][j]?).getD undef) rfl (Nat.le_refl _) (by decide) ⟨⟨.inr hs, by rw [World.size_alloc]; omega⟩, fun e => by have := h.lt _ e; omega⟩ (fun i hi => ?_) (fun i j hi hj => ?_) (fun i j hi hj => ?_)
  · obtain rfl : i = 0 := by simpa using hi
    simp [Tm.row_eq]
  · obtain rfl : i = 0 := by omega
    simp only [Nat.zero_mul, Nat.zero_add]
    refine hb.cell ?_
    have : j < #[Value.int .i64 x.kind, .string x.name, .int .i64 x.n, .slice a n cap].size := hj
    rw [Array.getElem?_eq_getElem this]; rfl
  · obtain rfl : i = 0 := by simpa using hi
    have hj' : j < x.row.length := hj
    have hj4 : j < 4 := by rw [Tm.row_eq] at hj'; exact hj'
    have := hr.at j hj' hj4
    match j, hj4 with
    | 0, _ => exact this
    | 1, _ => exact this
    | 2, _ => exact this
    | 3, _ => exact this
theorem mem_of_at {α : Type} {l : List α} {i : Nat} {x : α} (h : l[i]? = some x) : x ∈ l := List.mem_of_getElem? h
end Go.Proofs.Ytlhkkkmjoobpcaa
