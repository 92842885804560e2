/-
  The module reader and its tokens: how they lie. Plain lemmas. No condition.
-/
import Derived.Test.YtcoiagfeoonpbaaMt9
import Derived.Test.YtcoiagfeoonpbaaMt3
namespace Go.Proofs.Ytcoiagfeoonpbaa
open Go.RowKit
def eB : Option (Int × Int) → Int
  | none => 0
  | some _ => 1
def lB : Option (Int × Int) → Int
  | none => 0
  | some p => p.1
def cB : Option (Int × Int) → Int
  | none => 0
  | some p => p.2
theorem ok_eB (s : MS) : (eB s.b == 0) = s.ok := by
  unfold MS.ok eB
  cases s.b <;> rfl
structure RS (ts : List Tk) (aL : Option Addr) (n cap q : Nat) (s : MS) (d : Int) (w : World) : Prop where
  bo : Bo w q 82 #[.slice aL n cap, .int .i64 (s.i : Int), .int .i64 d, .int .i64 (eB s.b), .int .i64 (lB s.b), .int .i64 (cB s.b)]
  tk : Mem (· < q) w (.s 5 (tkRows ts)) (.slice aL n cap)
  sm : n ≤ 1048576
section
variable {ts : List Tk} {aL : Option Addr} {n cap q : Nat} {s : MS} {d : Int} {w w' : World}
theorem RS.lt (h : RS ts aL n cap q s d w) : q < w.heap.size := h.bo.lt
theorem RS.mem (h : RS ts aL n cap q s d w) : MemW w (.s 5 (tkRows ts)) (.slice aL n cap) := h.tk.le (Nat.le_of_lt h.lt)
theorem RS.len (h : RS ts aL n cap q s d w) : ts.length = n ∧ n ≤ 9223372036854775807 := by
  have := h.tk.len
  rw [tkRows_len] at this
  exact ⟨this.1, by omega⟩
theorem RS.keep (h : RS ts aL n cap q s d w) (hb : Below w.heap.size w w') : RS ts aL n cap q s d w' :=
  ⟨h.bo.keep hb, h.tk.mono (fun _ hb => hb) fun b hbq => hb.block b (Nat.lt_trans hbq h.lt), h.sm⟩
theorem RS.alloc (h : RS ts aL n cap q s d w) (o : Obj) : RS ts aL n cap q s d (w.alloc o) := h.keep (below_new w o)
theorem RS.drew (h : RS ts aL n cap q s d w) : RS ts aL n cap q s d w.drew := h.keep (below_drew w)
theorem RS.of (h : RS ts aL n cap q s d w) {s' : MS} {d' : Int} (hf : FarQ q w w') (hb : Bo w' q 82 #[.slice aL n cap, .int .i64 (s'.i : Int), .int .i64 d', .int .i64 (eB s'.b), .int .i64 (lB s'.b), .int .i64 (cB s'.b)]) : RS ts aL n cap q s' d' w' :=
  ⟨hb, h.tk.mono (fun _ hb => hb) fun b hbq => hf.block b (Nat.lt_trans hbq h.lt) (Nat.ne_of_lt hbq), h.sm⟩
theorem RS.setI (h : RS ts aL n cap q s d w) {v : Int} {k : Nat} (hv : v = (k : Int)) : RS ts aL n cap q ⟨k, s.b⟩ d (w.setCell ⟨q, 1, none⟩ (.int .i64 v)) := by subst hv; exact h.of (FarQ.set _ _ _) (h.bo.set 1 _)
theorem RS.setD (h : RS ts aL n cap q s d w) {v k : Int} (hv : v = k) : RS ts aL n cap q s k (w.setCell ⟨q, 2, none⟩ (.int .i64 v)) := by subst hv; exact h.of (FarQ.set _ _ _) (h.bo.set 2 _)
theorem RS.off (h : RS ts aL n cap q s d w) {g : Nat} (hg : q < g) (j : Nat) (v : Value) : RS ts aL n cap q s d (w.setCell ⟨g, j, none⟩ v) :=
  ⟨h.bo.far j v (Nat.ne_of_lt hg), h.tk.mono (fun _ hb => hb) fun b hbq => heap_setCell_other w ⟨g, j, none⟩ b v (Nat.ne_of_lt (Nat.lt_trans hbq hg)), h.sm⟩
theorem RS.grown {r : Option Nat} (h : RS ts aL n cap q s d w) (hg : w.grownBy w' r) (hr : ∀ k, r = some k → q < k) : RS ts aL n cap q s d w' :=
  ⟨h.bo.grown hg fun k hk e => by have := hr k hk; omega, h.tk.mono (fun _ hb => hb) fun b hb => hg.block b (Nat.lt_trans hb h.lt) (fun e => by have := hr b e.symm; have : b < q := hb; omega), h.sm⟩
theorem krP (h : Hid (RS ts aL n cap q s d w)) (hb : Below w.heap.size w w') : Hid (RS ts aL n cap q s d w') := Lib.hid (h.out.keep hb)
theorem kcR (h : Hid (RS ts aL n cap q s d w)) : w.cell? ⟨q, 0, none⟩ = some (.slice aL n cap) ∧ w.cell? ⟨q, 1, none⟩ = some (.int .i64 (s.i : Int)) ∧ w.cell? ⟨q, 2, none⟩ = some (.int .i64 d) ∧ w.cell? ⟨q, 3, none⟩ = some (.int .i64 (eB s.b)) ∧ w.cell? ⟨q, 4, none⟩ = some (.int .i64 (lB s.b)) ∧ w.cell? ⟨q, 5, none⟩ = some (.int .i64 (cB s.b)) ∧ ∀ i : Nat, w.frozen? ⟨q, i, none⟩ = false := h.out.bo.c6z
theorem rpA {o : Obj} (h : Hid (RS ts aL n cap q s d w)) (e : w.alloc o = w') : Hid (RS ts aL n cap q s d w') := Lib.hid (e ▸ h.out.alloc o)
theorem rpD (h : Hid (RS ts aL n cap q s d w)) (e : w.drew = w') : Hid (RS ts aL n cap q s d w') := Lib.hid (e ▸ h.out.drew)
theorem RS.setIE (h : RS ts aL n cap q s d w) {k : Nat} {v : Int} (e : w.setCell ⟨q, 1, none⟩ (.int .i64 v) = w') (hv : v = (k : Int)) : RS ts aL n cap q ⟨k, s.b⟩ d w' := e ▸ h.setI hv
theorem RS.setDE (h : RS ts aL n cap q s d w) {k v : Int} (e : w.setCell ⟨q, 2, none⟩ (.int .i64 v) = w') (hv : v = k) : RS ts aL n cap q s k w' := e ▸ h.setD hv
theorem rpO1 {g j : Nat} {v0 : Value} (h : Hid (RS ts aL n cap q s d w)) (e : (w.setCell ⟨g, j, none⟩ v0) = w') (hg : q < g := by omega) : Hid (RS ts aL n cap q s d w') := Lib.hid (e ▸ (h.out.off hg j v0))
theorem rpO3 {g : Nat} {v0 v1 v2 : Value} (h : Hid (RS ts aL n cap q s d w)) (e : (((w.setCell ⟨g, 0, none⟩ v0).setCell ⟨g, 1, none⟩ v1).setCell ⟨g, 2, none⟩ v2) = w') (hg : q < g := by omega) : Hid (RS ts aL n cap q s d w') := Lib.hid (e ▸ (((h.out.off hg 0 v0).off hg 1 v1).off hg 2 v2))
theorem rpO4 {g : Nat} {v0 v1 v2 v3 : Value} (h : Hid (RS ts aL n cap q s d w)) (e : ((((w.setCell ⟨g, 0, none⟩ v0).setCell ⟨g, 1, none⟩ v1).setCell ⟨g, 2, none⟩ v2).setCell ⟨g, 3, none⟩ v3) = w') (hg : q < g := by omega) : Hid (RS ts aL n cap q s d w') := Lib.hid (e ▸ ((((h.out.off hg 0 v0).off hg 1 v1).off hg 2 v2).off hg 3 v3))
theorem rpO5 {g : Nat} {v0 v1 v2 v3 v4 : Value} (h : Hid (RS ts aL n cap q s d w)) (e : (((((w.setCell ⟨g, 0, none⟩ v0).setCell ⟨g, 1, none⟩ v1).setCell ⟨g, 2, none⟩ v2).setCell ⟨g, 3, none⟩ v3).setCell ⟨g, 4, none⟩ v4) = w') (hg : q < g := by omega) : Hid (RS ts aL n cap q s d w') := Lib.hid (e ▸ (((((h.out.off hg 0 v0).off hg 1 v1).off hg 2 v2).off hg 3 v3).off hg 4 v4))
theorem rpO6 {g : Nat} {v0 v1 v2 v3 v4 v5 : Value} (h : Hid (RS ts aL n cap q s d w)) (e : ((((((w.setCell ⟨g, 0, none⟩ v0).setCell ⟨g, 1, none⟩ v1).setCell ⟨g, 2, none⟩ v2).setCell ⟨g, 3, none⟩ v3).setCell ⟨g, 4, none⟩ v4).setCell ⟨g, 5, none⟩ v5) = w') (hg : q < g := by omega) : Hid (RS ts aL n cap q s d w') := Lib.hid (e ▸ ((((((h.out.off hg 0 v0).off hg 1 v1).off hg 2 v2).off hg 3 v3).off hg 4 v4).off hg 5 v5))
end
section
variable {w w' a : World} {q g j B : Nat} {t : TypeId}
theorem Bo.c4z {v0 v1 v2 v3 : Value} (h : Bo w q t #[v0, v1, v2, v3]) : w.cell? ⟨q, 0, none⟩ = some v0 ∧ w.cell? ⟨q, 1, none⟩ = some v1 ∧ w.cell? ⟨q, 2, none⟩ = some v2 ∧ w.cell? ⟨q, 3, none⟩ = some v3 ∧ ∀ i : Nat, w.frozen? ⟨q, i, none⟩ = false := ⟨h.cell (j := 0) rfl, h.cell (j := 1) rfl, h.cell (j := 2) rfl, h.cell (j := 3) rfl, fun i => Bo.frozen h i⟩
theorem Far.c4z {v0 v1 v2 v3 : Value} {Z : Nat → Prop} (h : w.cell? ⟨q, 0, none⟩ = some v0 ∧ w.cell? ⟨q, 1, none⟩ = some v1 ∧ w.cell? ⟨q, 2, none⟩ = some v2 ∧ w.cell? ⟨q, 3, none⟩ = some v3 ∧ ∀ i : Nat, w.frozen? ⟨q, i, none⟩ = false) (hf : Far Z w w') (hz : ¬ Z q := by intro e; rcases e with e | e <;> omega) (hq : q < w.heap.size := by omega) : w'.cell? ⟨q, 0, none⟩ = some v0 ∧ w'.cell? ⟨q, 1, none⟩ = some v1 ∧ w'.cell? ⟨q, 2, none⟩ = some v2 ∧ w'.cell? ⟨q, 3, none⟩ = some v3 ∧ ∀ i : Nat, w'.frozen? ⟨q, i, none⟩ = false :=
  ⟨(World.cell?_of_block (hf.block q hq hz)).trans h.1, (World.cell?_of_block (hf.block q hq hz)).trans h.2.1, (World.cell?_of_block (hf.block q hq hz)).trans h.2.2.1, (World.cell?_of_block (hf.block q hq hz)).trans h.2.2.2.1, fun i => (by have e := hf.block q hq hz; have e2 := h.2.2.2.2 i; unfold World.frozen? at e2 ⊢; rw [e]; exact e2)⟩
theorem Bo.set4 {a0 a1 a2 a3 : Value} {v0 v1 v2 v3 : Value} (h : Bo w q t #[a0, a1, a2, a3]) (e : ((((w.setCell ⟨q, 0, none⟩ v0).setCell ⟨q, 1, none⟩ v1).setCell ⟨q, 2, none⟩ v2).setCell ⟨q, 3, none⟩ v3) = w') : Bo w' q t #[v0, v1, v2, v3] := e ▸ ((((h.set 0 v0).set 1 v1).set 2 v2).set 3 v3)
theorem Bo.far4 {cs : Array Value} {v0 v1 v2 v3 : Value} (h : Bo w q t cs) (e : ((((w.setCell ⟨g, 0, none⟩ v0).setCell ⟨g, 1, none⟩ v1).setCell ⟨g, 2, none⟩ v2).setCell ⟨g, 3, none⟩ v3) = w') (hg : q ≠ g) : Bo w' q t cs := e ▸ ((((h.far 0 v0 hg).far 1 v1 hg).far 2 v2 hg).far 3 v3 hg)
theorem memSet4 {base : Nat} {x : At} {y : Value} {v0 v1 v2 v3 : Value} (h : Mem (Nw 0 base w.heap.size) w x y) (e : ((((w.setCell ⟨g, 0, none⟩ v0).setCell ⟨g, 1, none⟩ v1).setCell ⟨g, 2, none⟩ v2).setCell ⟨g, 3, none⟩ v3) = w') (hg : g < base) : Mem (Nw 0 base w'.heap.size) w' x y := e ▸ (memSet (memSet (memSet (memSet h hg 0 v0) hg 1 v1) hg 2 v2) hg 3 v3)
theorem FarB.setN4  {v0 v1 v2 v3 : Value} (h : FarB q B a w) (e : ((((w.setCell ⟨g, 0, none⟩ v0).setCell ⟨g, 1, none⟩ v1).setCell ⟨g, 2, none⟩ v2).setCell ⟨g, 3, none⟩ v3) = w') (hg : B ≤ g) : FarB q B a w' := e ▸ ((((h.setN hg 0 v0).setN hg 1 v1).setN hg 2 v2).setN hg 3 v3)
theorem sizeS4 {v0 v1 v2 v3 : Value} (e : ((((w.setCell ⟨g, 0, none⟩ v0).setCell ⟨g, 1, none⟩ v1).setCell ⟨g, 2, none⟩ v2).setCell ⟨g, 3, none⟩ v3) = w') : w'.heap.size = w.heap.size := by rw [← e]; simp only [World.setCell, Array.size_modify]
theorem bF4 {cs : Array Value} {v0 v1 v2 v3 : Value} (h : Hid (Bo w q t cs)) (e : ((((w.setCell ⟨g, 0, none⟩ v0).setCell ⟨g, 1, none⟩ v1).setCell ⟨g, 2, none⟩ v2).setCell ⟨g, 3, none⟩ v3) = w') (hg : q ≠ g := by omega) : Hid (Bo w' q t cs) := Lib.hid (h.out.far4 e hg)
theorem mS4 {base : Nat} {x : At} {y : Value} {v0 v1 v2 v3 : Value} (h : Hid (Mem (Nw 0 base w.heap.size) w x y)) (e : ((((w.setCell ⟨g, 0, none⟩ v0).setCell ⟨g, 1, none⟩ v1).setCell ⟨g, 2, none⟩ v2).setCell ⟨g, 3, none⟩ v3) = w') (hg : g < base := by omega) : Hid (Mem (Nw 0 base w'.heap.size) w' x y) := Lib.hid (memSet4 h.out e hg)
theorem fN4  {v0 v1 v2 v3 : Value} (h : Hid (FarB q B a w)) (e : ((((w.setCell ⟨g, 0, none⟩ v0).setCell ⟨g, 1, none⟩ v1).setCell ⟨g, 2, none⟩ v2).setCell ⟨g, 3, none⟩ v3) = w') (hg : B ≤ g := by omega) : Hid (FarB q B a w') := Lib.hid (h.out.setN4 e hg)
theorem bS4 {a0 a1 a2 a3 : Value} {v0 v1 v2 v3 : Value} (h : Hid (Bo w q t #[a0, a1, a2, a3])) (e : ((((w.setCell ⟨q, 0, none⟩ v0).setCell ⟨q, 1, none⟩ v1).setCell ⟨q, 2, none⟩ v2).setCell ⟨q, 3, none⟩ v3) = w') : Hid (Bo w' q t #[v0, v1, v2, v3]) := Lib.hid (h.out.set4 e)
theorem kc4 {v0 v1 v2 v3 : Value} (h : Hid (Bo w q t #[v0, v1, v2, v3])) : w.cell? ⟨q, 0, none⟩ = some v0 ∧ w.cell? ⟨q, 1, none⟩ = some v1 ∧ w.cell? ⟨q, 2, none⟩ = some v2 ∧ w.cell? ⟨q, 3, none⟩ = some v3 ∧ ∀ i : Nat, w.frozen? ⟨q, i, none⟩ = false := h.out.c4z
end
theorem Bo.c11z {w : World} {q : Nat} {t : TypeId} {v0 v1 v2 v3 v4 v5 v6 v7 v8 v9 v10 : Value} (h : Bo w q t #[v0, v1, v2, v3, v4, v5, v6, v7, v8, v9, v10]) : w.cell? ⟨q, 0, none⟩ = some v0 ∧ w.cell? ⟨q, 1, none⟩ = some v1 ∧ w.cell? ⟨q, 2, none⟩ = some v2 ∧ w.cell? ⟨q, 3, none⟩ = some v3 ∧ w.cell? ⟨q, 4, none⟩ = some v4 ∧ w.cell? ⟨q, 5, none⟩ = some v5 ∧ w.cell? ⟨q, 6, none⟩ = some v6 ∧ w.cell? ⟨q, 7, none⟩ = some v7 ∧ w.cell? ⟨q, 8, none⟩ = some v8 ∧ w.cell? ⟨q, 9, none⟩ = some v9 ∧ w.cell? ⟨q, 10, none⟩ = some v10 ∧ ∀ i : Nat, w.frozen? ⟨q, i, none⟩ = false := ⟨h.cell (j := 0) rfl, h.cell (j := 1) rfl, h.cell (j := 2) rfl, h.cell (j := 3) rfl, h.cell (j := 4) rfl, h.cell (j := 5) rfl, h.cell (j := 6) rfl, h.cell (j := 7) rfl, h.cell (j := 8) rfl, h.cell (j := 9) rfl, h.cell (j := 10) rfl, fun i => Bo.frozen h i⟩
end Go.Proofs.Ytcoiagfeoonpbaa

/-
  Constructors, data and rules in memory: their rows, read and built. Plain lemmas. No condition.
-/
namespace Go.Proofs.Ytcoiagfeoonpbaa
open Go.RowKit
def strRow (s : ByteArray) : List At := [.v (.string s)]
def Cn.row (c : Cn) : List At := [.v (.string c.name), .s 4 (Tm.rows c.types), .v (.int .i64 c.l), .v (.int .i64 c.c)]
def Da.row (d : Da) : List At := [.v (.string d.name), .s 1 (d.vars.map strRow), .s 4 (d.cons.map Cn.row), .v (.int .i64 d.l), .v (.int .i64 d.c)]
def Ru.row (r : Ru) : List At := [.v (.string r.name), .s 6 (Ex.rows r.pats), .s 6 (Ex.rows r.guard), .v (.int .i64 r.body.kind), .v (.string r.body.name), .v (.int .i64 r.body.n), .s 6 (Ex.rows r.body.args), .v (.int .i64 r.body.line), .v (.int .i64 r.body.col), .v (.int .i64 r.l), .v (.int .i64 r.c)]
def tmV (x : Tm) (a : Option Addr) (n c : Nat) : Value := .agg #[.int .i64 x.kind, .string x.name, .int .i64 x.n, .slice a n c]
def cnV (x : Cn) (a : Option Addr) (n c : Nat) : Value := .agg #[.string x.name, .slice a n c, .int .i64 x.l, .int .i64 x.c]
def daV (x : Da) (a : Option Addr) (n c : Nat) (a' : Option Addr) (n' c' : Nat) : Value := .agg #[.string x.name, .slice a n c, .slice a' n' c', .int .i64 x.l, .int .i64 x.c]
section
variable {S : Nat → Prop} {w : World}
theorem mem_slice {sz : Nat} {rs : List (List At)} {v : Value} (h : Mem S w (.s sz rs) v) : ∃ a n c, v = .slice a n c := by
  cases h with
  | e a cap sz hc => exact ⟨_, _, _, rfl⟩
  | s => exact ⟨_, _, _, rfl⟩
theorem mem_v {x y : Value} (h : Mem S w (.v x) y) : y = x := by cases h; rfl
theorem cn_mem {x : Cn} {a : Option Addr} {n c : Nat} (h : Mem S w (.s 4 (Tm.rows x.types)) (.slice a n c)) : All2 (Mem S w) x.row [.string x.name, .slice a n c, .int .i64 x.l, .int .i64 x.c] :=
  .cons (.v _ rfl) (.cons h (.cons (.v _ rfl) (.cons (.v _ rfl) .nil)))
theorem da_mem {x : Da} {a a' : Option Addr} {n c n' c' : Nat} (h : Mem S w (.s 1 (x.vars.map strRow)) (.slice a n c)) (h' : Mem S w (.s 4 (x.cons.map Cn.row)) (.slice a' n' c')) : All2 (Mem S w) x.row [.string x.name, .slice a n c, .slice a' n' c', .int .i64 x.l, .int .i64 x.c] :=
  .cons (.v _ rfl) (.cons h (.cons h' (.cons (.v _ rfl) (.cons (.v _ rfl) .nil))))
theorem ru_mem {x : Ru} {a a' b : Option Addr} {n c n' c' m k : Nat} (h : Mem S w (.s 6 (Ex.rows x.pats)) (.slice a n c)) (h' : Mem S w (.s 6 (Ex.rows x.guard)) (.slice a' n' c')) (hb : Mem S w (.s 6 (Ex.rows x.body.args)) (.slice b m k)) :
    All2 (Mem S w) x.row [.string x.name, .slice a n c, .slice a' n' c', .int .i64 x.body.kind, .string x.body.name, .int .i64 x.body.n, .slice b m k, .int .i64 x.body.line, .int .i64 x.body.col, .int .i64 x.l, .int .i64 x.c] :=
  .cons (.v _ rfl) (.cons h (.cons h' (.cons (.v _ rfl) (.cons (.v _ rfl) (.cons (.v _ rfl) (.cons hb (.cons (.v _ rfl) (.cons (.v _ rfl) (.cons (.v _ rfl) (.cons (.v _ rfl) .nil))))))))))
theorem str_mem {s : ByteArray} : All2 (Mem S w) (strRow s) [.string s] := .cons (.v _ rfl) .nil
theorem tm_mem {x : Tm} {a : Option Addr} {n c : Nat} (h : Mem S w (.s 4 (Tm.rows x.args)) (.slice a n c)) : All2 (Mem S w) x.row [.int .i64 x.kind, .string x.name, .int .i64 x.n, .slice a n c] := by
  rw [Tm.row_eq]
  exact .cons (.v _ rfl) (.cons (.v _ rfl) (.cons (.v _ rfl) (.cons h .nil)))
theorem da_cells {x : Da} {cs : List Value} (h : All2 (Mem S w) x.row cs) : ∃ a n c a' n' c', cs = [.string x.name, .slice a n c, .slice a' n' c', .int .i64 x.l, .int .i64 x.c] ∧ Mem S w (.s 1 (x.vars.map strRow)) (.slice a n c) ∧ Mem S w (.s 4 (x.cons.map Cn.row)) (.slice a' n' c') := by
  unfold Da.row at h
  cases h with | cons h0 h => cases h with | cons h1 h => cases h with | cons h2 h => cases h with | cons h3 h => cases h with | cons h4 h => cases h with | nil =>
  obtain ⟨a, n, c, rfl⟩ := mem_slice h1
  obtain ⟨a', n', c', rfl⟩ := mem_slice h2
  exact ⟨a, n, c, a', n', c', by rw [mem_v h0, mem_v h3, mem_v h4], h1, h2⟩
end
section
variable {w w' : World} {base : Nat}
theorem row_new {t : TypeId} {sz : Nat} {r : List At} {cs : Array Value} (hr : All2 (Mem (Nw 0 base w.heap.size) w) r cs.toList) (hs : cs.toList.length = sz) (hb : base ≤ w.heap.size) : OwnD 0 base t sz (w.alloc (.cells cs t)) (.slice (some ⟨w.heap.size, 0, none⟩) 1 1) [r] :=
  OwnD.built (css := [cs.toList]) (.cons ⟨hs, hr⟩ .nil) hb 1 rfl (by decide) cs (by simp)
theorem row_app {t : TypeId} {sz : Nat} {y : Value} {rs : List (List At)} {W : World} {r : List At} {cs : Array Value} (h : OwnD 0 base t sz W y rs) (hb : base ≤ W.heap.size) (hs : W.heap.size ≤ w.heap.size) (hr : All2 (Mem (Nw 0 W.heap.size w.heap.size) w) r cs.toList) (hsz : cs.toList.length = sz) :
    Mem (fun b => Nw 0 base (w.alloc (.cells cs t)).heap.size b ∧ y.ownBlock ≠ some b) (w.alloc (.cells cs t)) (.s sz [r]) (.slice (some ⟨w.heap.size, 0, none⟩) 1 1) :=
  h.apart (Nat.zero_le _) hb (row_new hr hsz hs).mem
end
end Go.Proofs.Ytcoiagfeoonpbaa

/-
  The module reader's small steps: ok, fail, is, take, name, starts. No condition but how the reader and the tokens lie.
-/
namespace Go.Proofs.Ytcoiagfeoonpbaa
open Go.RowKit
theorem fail_ok {ts : List Tk} {s : MS} (h : s.ok = true) : failS ts s = ⟨s.i, some ((nowT ts s.i).l, (nowT ts s.i).c)⟩ := by unfold failS; rw [if_pos h]
theorem fail_no {ts : List Tk} {s : MS} (h : s.ok = false) : failS ts s = s := by unfold failS; rw [if_neg (by rw [h]; decide)]
section
variable {ts : List Tk} {aL : Option Addr} {n cap q : Nat} {s : MS} {d : Int}
attribute [local go_sem] tk_pos
set_option maxRecDepth 100000 in
set_option maxHeartbeats 20000000 in
theorem mok_any (w : World) (hp : RS ts aL n cap q s d w) :
    Calls Try.prog 34 #[.pointer (some ⟨q, 0, none⟩)] w fun e w' => e = .returned (.bool s.ok) ∧ w = w' := by
  have c3 := (kcR (Lib.hid hp)).2.2.2.1
  have he := ok_eB s
  have fz := hp.bo.frozen
  clear hp
  go_enter Try.func34, Try.ntmps34
  go_wp2
  refine bodyPost_ret (results_tmp rfl _ _ _) rfl ?_
  exact ⟨rfl, rfl⟩
set_option maxRecDepth 100000 in
set_option maxHeartbeats 20000000 in
theorem mfail_any (w : World) (hp : RS ts aL n cap q s d w) :
    Calls Try.prog 73 #[.pointer (some ⟨q, 0, none⟩)] w fun e w' => e = .returned (.tuple #[]) ∧ FarQ q w w' ∧ RS ts aL n cap q (failS ts s) d w' := by
  have HP := Lib.hid hp
  clear hp
  go_enter Try.func73, Try.ntmps73
  go_wp2_with (fail)
  refine (mok_any _ HP.out).mono ?_
  rintro _ _ ⟨rfl, rfl⟩
  cases hok : s.ok with
  | false =>
    go_wp2_with (fail)
    go_end0
    exact ⟨rfl, FarQ.refl _ _, by rw [fail_no hok]; exact HP.out⟩
  | true =>
    go_wp2_with (fail)
    refine (mnow_any _ HP.out.bo HP.out.mem).mono ?_
    rintro _ w2 ⟨rfl, hb⟩
    have HB := Lib.hid hb
    have HP2 := krP HP hb
    clear hb
    simp only [tkV]
    have qc := kcR HP2
    go_wp2_with (fail)
    go_end0
    exact ⟨rfl, (FarQ.of HB.out).trans ((FarQ.set _ _ _).trans ((FarQ.set _ _ _).trans (FarQ.set _ _ _))), by rw [fail_ok hok]; exact HP2.out.of ((FarQ.set _ _ _).trans ((FarQ.set _ _ _).trans (FarQ.set _ _ _))) (((HP2.out.bo.set 3 _).set 4 _).set 5 _)⟩
set_option maxRecDepth 100000 in
set_option maxHeartbeats 20000000 in
theorem mis_any (k : Int) (x : ByteArray) (w : World) (hp : RS ts aL n cap q s d w) :
    Calls Try.prog 39 #[.pointer (some ⟨q, 0, none⟩), .int .i64 k, .string x] w fun e w' => e = .returned (.bool (isS ts s k x)) ∧ Below w.heap.size w w' := by
  have HP := Lib.hid hp
  clear hp
  go_enter Try.func39, Try.ntmps39
  go_wp2_with (fail)
  refine (mnow_any _ HP.out.bo HP.out.mem).mono ?_
  rintro _ w1 ⟨rfl, hb⟩
  have HB1 := Lib.hid hb
  have HP1 := Lib.hid ((krP HP hb).out.alloc (.cells #[.int .i64 (nowT ts s.i).k, .string (nowT ts s.i).s, .int .i64 (nowT ts s.i).n, .int .i64 (nowT ts s.i).l, .int .i64 (nowT ts s.i).c] 71))
  clear hb
  simp only [tkV]
  go_wp2_with (fail)
  refine (mok_any _ HP1.out).mono ?_
  rintro _ _ ⟨rfl, rfl⟩
  have HE : Hid (Below w.heap.size w (w1.alloc (.cells #[.int .i64 (nowT ts s.i).k, .string (nowT ts s.i).s, .int .i64 (nowT ts s.i).n, .int .i64 (nowT ts s.i).l, .int .i64 (nowT ts s.i).c] 71))) := Lib.hid (HB1.out.trans ((below_new w1 _).mono HB1.out.size))
  cases hok : s.ok with
  | false =>
    go_wp2_with (fail)
    refine bodyPost_ret (results_tmp rfl _ _ _) rfl ?_
    exact ⟨congrArg (fun b => Ending.returned (.bool b)) (by unfold isS; rw [hok]; rfl), HE.out⟩
  | true =>
    by_cases hk : (nowT ts s.i).k = k
    · subst hk
      have e1 : ((nowT ts s.i).k == (nowT ts s.i).k) = true := by simp
      go_wp2_with (fail)
      refine bodyPost_ret (results_tmp rfl _ _ _) rfl ?_
      refine ⟨congrArg (fun b => Ending.returned (.bool b)) ?_, HE.out⟩
      unfold isS isT
      rw [hok, decide_eq_true rfl, Bool.true_and, Bool.true_and, ← ba_eq, ← toList_beq]
    · have e1 : ((nowT ts s.i).k == k) = false := by simp [hk]
      go_wp2_with (fail)
      refine bodyPost_ret (results_tmp rfl _ _ _) rfl ?_
      refine ⟨congrArg (fun b => Ending.returned (.bool b)) ?_, HE.out⟩
      unfold isS isT
      rw [hok, decide_eq_false hk, Bool.false_and, Bool.true_and]
set_option maxRecDepth 100000 in
set_option maxHeartbeats 20000000 in
theorem mtake_any (k : Int) (x : ByteArray) (w : World) (hp : RS ts aL n cap q s d w) (hk1 : k ≠ -1) :
    Calls Try.prog 38 #[.pointer (some ⟨q, 0, none⟩), .int .i64 k, .string x] w fun e w' => e = .returned (.tuple #[]) ∧ FarQ q w w' ∧ RS ts aL n cap q (takeS ts s k x) d w' := by
  have HP := Lib.hid hp
  have hl := hp.len
  have hsm := hp.sm
  clear hp
  go_enter Try.func38, Try.ntmps38
  go_wp2_with (fail)
  refine (mis_any k x _ HP.out).mono ?_
  rintro _ w1 ⟨rfl, hb⟩
  have HB1 := Lib.hid hb
  have HP1 := krP HP hb
  clear hb
  cases hi : isS ts s k x with
  | false =>
    go_wp2_with (fail)
    refine (mfail_any _ HP1.out).mono ?_
    rintro _ w2 ⟨rfl, hf, hp⟩
    have HF2 := Lib.hid hf
    have HP2 := Lib.hid hp
    clear hf hp
    go_wp2_with (fail)
    refine bodyPost_ret (results_none rfl _ _ _) rfl ?_
    exact ⟨rfl, (FarQ.of HB1.out).trans HF2.out, by unfold takeS; rw [hi]; exact HP2.out⟩
  | true =>
    have hlt := isT_lt (isS_parts hi).2 hk1
    have hov : (s.i : Int) + 1 ≤ 9223372036854775807 := by omega
    have qc := kcR HP1
    go_wp2_with (fail)
    go_end0
    exact ⟨rfl, (FarQ.of HB1.out).trans (FarQ.set _ _ _), by unfold takeS; rw [hi]; exact HP1.out.setI (by show _ = ((s.i + 1 : Nat) : Int); omega)⟩
set_option maxRecDepth 100000 in
set_option maxHeartbeats 20000000 in
theorem mname_any (k : Int) (w : World) (hp : RS ts aL n cap q s d w) (hk1 : k ≠ -1) :
    Calls Try.prog 74 #[.pointer (some ⟨q, 0, none⟩), .int .i64 k] w fun e w' => e = .returned (.string (nameS ts s k).1) ∧ FarQ q w w' ∧ RS ts aL n cap q (nameS ts s k).2 d w' := by
  have HP := Lib.hid hp
  have hl := hp.len
  have hsm := hp.sm
  clear hp
  go_enter Try.func74, Try.ntmps74
  go_wp2_with (fail)
  refine (mnow_any _ HP.out.bo HP.out.mem).mono ?_
  rintro _ w1 ⟨rfl, hb⟩
  have HB1 := Lib.hid hb
  have HP1 := krP HP hb
  have HF : Hid (FarQ q w (w1.alloc (.cells #[.int .i64 (nowT ts s.i).k, .string (nowT ts s.i).s, .int .i64 (nowT ts s.i).n, .int .i64 (nowT ts s.i).l, .int .i64 (nowT ts s.i).c] 71))) := Lib.hid (FarQ.of (HB1.out.trans ((below_new w1 _).mono HB1.out.size)))
  have HP2 := Lib.hid (HP1.out.alloc (.cells #[.int .i64 (nowT ts s.i).k, .string (nowT ts s.i).s, .int .i64 (nowT ts s.i).n, .int .i64 (nowT ts s.i).l, .int .i64 (nowT ts s.i).c] 71))
  have hq1 := HP1.out.lt
  have hqn : q ≠ w1.heap.size := Nat.ne_of_lt hq1
  have hqn' : w1.heap.size ≠ q := fun e => hqn e.symm
  clear hb
  simp only [tkV]
  by_cases hk : (nowT ts s.i).k = k
  · subst hk
    have e1 : ((nowT ts s.i).k != (nowT ts s.i).k) = false := by simp
    have hlt : s.i < ts.length := now_lt hk1
    have hov : (s.i : Int) + 1 ≤ 9223372036854775807 := by omega
    have qc := kcR HP1
    go_wp2_with (fail)
    refine bodyPost_ret (results_tmp rfl _ _ _) rfl ?_
    unfold nameS
    rw [if_pos rfl]
    exact ⟨rfl, (FarQ.of HB1.out).trans ((FarQ.set _ _ _).trans (FarQ.of (below_new _ _))), (HP1.out.setI (k := s.i + 1) (v := (s.i : Int) + 1) (by omega)).alloc _⟩
  · have e1 : ((nowT ts s.i).k != k) = true := by simp [hk]
    go_wp2_with (fail)
    refine (mfail_any _ HP2.out).mono ?_
    rintro _ w2 ⟨rfl, hf, hp⟩
    have HF2 := Lib.hid hf
    have HP3 := Lib.hid hp
    clear hf hp
    go_wp2_with (fail)
    refine bodyPost_ret (results_tmp rfl _ _ _) rfl ?_
    unfold nameS
    rw [if_neg hk]
    exact ⟨rfl, HF.out.trans HF2.out, HP3.out⟩
set_option maxRecDepth 100000 in
set_option maxHeartbeats 20000000 in
theorem mstarts_any (w : World) (hp : RS ts aL n cap q s d w) :
    Calls Try.prog 99 #[.pointer (some ⟨q, 0, none⟩)] w fun e w' => e = .returned (.bool (startsS ts s)) ∧ Below w.heap.size w w' := by
  have HP := Lib.hid hp
  clear hp
  go_enter Try.func99, Try.ntmps99
  go_wp2_with (fail)
  refine (mnow_any _ HP.out.bo HP.out.mem).mono ?_
  rintro _ w1 ⟨rfl, hb⟩
  have HB1 := Lib.hid hb
  have HP1 := Lib.hid ((krP HP hb).out.alloc (.cells #[.int .i64 (nowT ts s.i).k, .string (nowT ts s.i).s, .int .i64 (nowT ts s.i).n, .int .i64 (nowT ts s.i).l, .int .i64 (nowT ts s.i).c] 71))
  clear hb
  simp only [tkV]
  go_wp2_with (fail)
  refine (mok_any _ HP1.out).mono ?_
  rintro _ _ ⟨rfl, rfl⟩
  have HE : Hid (Below w.heap.size w (w1.alloc (.cells #[.int .i64 (nowT ts s.i).k, .string (nowT ts s.i).s, .int .i64 (nowT ts s.i).n, .int .i64 (nowT ts s.i).l, .int .i64 (nowT ts s.i).c] 71))) := Lib.hid (HB1.out.trans ((below_new w1 _).mono HB1.out.size))
  cases hok : s.ok with
  | false =>
    go_wp2_with (fail)
    refine bodyPost_ret (results_tmp rfl _ _ _) rfl ?_
    exact ⟨congrArg (fun b => Ending.returned (.bool b)) (by unfold startsS; rw [hok]; rfl), HE.out⟩
  | true =>
    by_cases h2 : (nowT ts s.i).k = 2
    · have e1 : ((nowT ts s.i).k == 2) = true := by simp [h2]
      go_wp2_with (fail)
      refine bodyPost_ret (results_tmp rfl _ _ _) rfl ?_
      exact ⟨congrArg (fun b => Ending.returned (.bool b)) (by unfold startsS; simp [hok, h2]), HB1.out.trans ((below_new w1 _).mono HB1.out.size)⟩
    · have e1 : ((nowT ts s.i).k == 2) = false := by simp [h2]
      by_cases h3 : (nowT ts s.i).k = 3
      · have e2 : ((nowT ts s.i).k == 3) = true := by simp [h3]
        go_wp2_with (fail)
        refine bodyPost_ret (results_tmp rfl _ _ _) rfl ?_
        exact ⟨congrArg (fun b => Ending.returned (.bool b)) (by unfold startsS; simp [hok, h3]), HB1.out.trans ((below_new w1 _).mono HB1.out.size)⟩
      · have e2 : ((nowT ts s.i).k == 3) = false := by simp [h3]
        go_wp2_with (fail)
        refine (mis_any 6 wOpen _ HP1.out).mono ?_
        rintro _ w3 ⟨rfl, hb⟩
        have HB3 := Lib.hid (HE.out.trans (hb.mono HE.out.size))
        clear hb
        go_wp2_with (fail)
        refine bodyPost_ret (results_tmp rfl _ _ _) rfl ?_
        exact ⟨congrArg (fun b => Ending.returned (.bool b)) (by unfold startsS; simp [hok, h2, h3]), HB3.out⟩
end
end Go.Proofs.Ytcoiagfeoonpbaa

/-
  expr.Binds and expr.Starts. No condition.
-/
namespace Go.Proofs.Ytcoiagfeoonpbaa
open Go.RowKit
theorem str_ne {a b : ByteArray} (h : ¬ a = b) : (a.toList == b.toList) = false := by
  rw [toList_beq]; exact beq_eq_false_iff_ne.2 h
set_option maxRecDepth 100000 in
set_option maxHeartbeats 20000000 in
theorem binds_any (s : ByteArray) (w : World) :
    Calls Try.prog 63 #[.string s] w fun e w' => e = .returned (.tuple #[.int .i64 (bindsE s : Nat), .bool (decide (0 < bindsE s))]) ∧ w = w' := by
  go_enter Try.func63, Try.ntmps63
  by_cases h0 : s = ⟨#[63]⟩
  · subst h0
    go_wp2
    refine bodyPost_ret (results_tmp2 rfl _ _ _) rfl ?_
    exact ⟨rfl, rfl⟩
  have e0 : (s.toList == [63]) = false := by have h := str_ne h0; simpa using h
  by_cases h1 : s = ⟨#[61, 61]⟩
  · subst h1
    go_wp2
    refine bodyPost_ret (results_tmp2 rfl _ _ _) rfl ?_
    exact ⟨rfl, rfl⟩
  have e1 : (s.toList == [61, 61]) = false := by have h := str_ne h1; simpa using h
  by_cases h2 : s = ⟨#[60]⟩
  · subst h2
    go_wp2
    refine bodyPost_ret (results_tmp2 rfl _ _ _) rfl ?_
    exact ⟨rfl, rfl⟩
  have e2 : (s.toList == [60]) = false := by have h := str_ne h2; simpa using h
  by_cases h3 : s = ⟨#[43]⟩
  · subst h3
    go_wp2
    refine bodyPost_ret (results_tmp2 rfl _ _ _) rfl ?_
    exact ⟨rfl, rfl⟩
  have e3 : (s.toList == [43]) = false := by have h := str_ne h3; simpa using h
  by_cases h4 : s = ⟨#[45]⟩
  · subst h4
    go_wp2
    refine bodyPost_ret (results_tmp2 rfl _ _ _) rfl ?_
    exact ⟨rfl, rfl⟩
  have e4 : (s.toList == [45]) = false := by have h := str_ne h4; simpa using h
  by_cases h5 : s = ⟨#[42]⟩
  · subst h5
    go_wp2
    refine bodyPost_ret (results_tmp2 rfl _ _ _) rfl ?_
    exact ⟨rfl, rfl⟩
  have e5 : (s.toList == [42]) = false := by have h := str_ne h5; simpa using h
  have hb : bindsE s = 0 := by
    unfold bindsE wOr
    rw [if_neg h0, if_neg (fun h => h.elim h1 h2), if_neg (fun h => h.elim h3 h4), if_neg h5]
  rw [hb]
  go_wp2
  refine bodyPost_ret (results_tmp2 rfl _ _ _) rfl ?_
  exact ⟨rfl, rfl⟩
set_option maxRecDepth 100000 in
set_option maxHeartbeats 20000000 in
theorem starts_any (t : Tk) (w : World) :
    Calls Try.prog 120 #[tkV t] w fun e w' => e = .returned (.bool (startsE t)) ∧ Below w.heap.size w w' := by
  simp only [tkV]
  go_enter Try.func120, Try.ntmps120
  by_cases h2 : t.k = 2
  · have e2 : (t.k == 2) = true := by simp [h2]
    go_wp2
    refine bodyPost_ret (results_tmp rfl _ _ _) rfl ?_
    exact ⟨congrArg (fun b => Ending.returned (.bool b)) (by unfold startsE; simp [h2]), below_new _ _⟩
  have e2 : (t.k == 2) = false := by simp [h2]
  by_cases h3 : t.k = 3
  · have e3 : (t.k == 3) = true := by simp [h3]
    go_wp2
    refine bodyPost_ret (results_tmp rfl _ _ _) rfl ?_
    exact ⟨congrArg (fun b => Ending.returned (.bool b)) (by unfold startsE; simp [h3]), below_new _ _⟩
  have e3 : (t.k == 3) = false := by simp [h3]
  by_cases h4 : t.k = 4
  · have e4 : (t.k == 4) = true := by simp [h4]
    go_wp2
    refine bodyPost_ret (results_tmp rfl _ _ _) rfl ?_
    exact ⟨congrArg (fun b => Ending.returned (.bool b)) (by unfold startsE; simp [h4]), below_new _ _⟩
  have e4 : (t.k == 4) = false := by simp [h4]
  by_cases h6 : t.k = 6
  · by_cases hs : t.s = ⟨#[40]⟩
    · have es : (t.s.toList == [40]) = true := by rw [hs]; simp
      go_wp2
      refine bodyPost_ret (results_tmp rfl _ _ _) rfl ?_
      exact ⟨congrArg (fun b => Ending.returned (.bool b)) (by unfold startsE; simp [h6, hs, wOpen]), below_new _ _⟩
    · have es : (t.s.toList == [40]) = false := by have h := str_ne hs; simpa using h
      go_wp2
      refine bodyPost_ret (results_tmp rfl _ _ _) rfl ?_
      exact ⟨congrArg (fun b => Ending.returned (.bool b)) (by unfold startsE; simp [h6, hs, wOpen]), below_new _ _⟩
  · have e6 : (t.k == 6) = false := by simp [h6]
    go_wp2
    refine bodyPost_ret (results_tmp rfl _ _ _) rfl ?_
    exact ⟨congrArg (fun b => Ending.returned (.bool b)) (by unfold startsE; simp [h2, h3, h4, h6]), below_new _ _⟩
end Go.Proofs.Ytcoiagfeoonpbaa
