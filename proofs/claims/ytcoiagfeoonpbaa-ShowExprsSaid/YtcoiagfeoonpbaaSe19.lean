/-
  What stands behind the first part of operators, as the document's rank goes over it. Plain lemmas. No condition.
-/
import Derived.Test.YtcoiagfeoonpbaaSe18
import Derived.Test.YtcoiagfeoonpbaaSe14
import Derived.Test.YtcoiagfeoonpbaaSe6
namespace Go.Proofs.Ytcoiagfeoonpbaa
open Go.RowKit
end Go.Proofs.Ytcoiagfeoonpbaa

/-
  More on own rows whose elements lie in given blocks. Plain lemmas. No condition.
-/
namespace Go.Proofs.Ytcoiagfeoonpbaa
open Go.RowKit
section
variable {A A' : Nat → Prop} {base sz : Nat} {e : TypeId} {w w' : World} {y : Value} {rs : List (List At)}
theorem OwnS.nil (A : Nat → Prop) (base : Nat) (e : TypeId) (sz : Nat) (w : World) : OwnS A base e sz w (.slice none 0 0) [] := ⟨[], World.ownsRow_nil w base e sz, .nil⟩
theorem OwnS.conv (h : OwnS A base e sz w y rs) (hA : ∀ b, A b → b < w.heap.size → A' b) : OwnS A' base e sz w y rs := by
  obtain ⟨css, h1, h2⟩ := h
  exact ⟨css, h1, h2.imp fun r cs ⟨hc, hm⟩ => ⟨hc, hm.imp fun x y' hx => hx.mono (fun b hb => ⟨⟨hA b hb.1.1 hb.1.2, hb.1.2⟩, hb.2⟩) fun _ _ => rfl⟩⟩
end
section
variable {P : Program} {w : World} {t e : TypeId} {z : Value} {sz bytes : Nat}
end
end Go.Proofs.Ytcoiagfeoonpbaa

/-
  The module reader's small steps: what comes next. No condition but how the reader and the tokens lie.
-/
namespace Go.Proofs.Ytcoiagfeoonpbaa
open Go.RowKit
end Go.Proofs.Ytcoiagfeoonpbaa

/-
  The module reader and its tokens: how they lie. Plain lemmas. No condition.
-/
namespace Go.Proofs.Ytcoiagfeoonpbaa
open Go.RowKit
def eB : Option (Int × Int) → Int
  | none => 0
  | some _ => 1
def lB : Option (Int × Int) → Int
  | none => 0
  | some p => p.1
def cB : Option (Int × Int) → Int
  | none => 0
  | some p => p.2
structure RS (ts : List Tk) (aL : Option Addr) (n cap q : Nat) (s : MS) (d : Int) (w : World) : Prop where
  bo : Bo w q 82 #[.slice aL n cap, .int .i64 (s.i : Int), .int .i64 d, .int .i64 (eB s.b), .int .i64 (lB s.b), .int .i64 (cB s.b)]
  tk : Mem (· < q) w (.s 5 (tkRows ts)) (.slice aL n cap)
  sm : n ≤ 1048576
section
variable {ts : List Tk} {aL : Option Addr} {n cap q : Nat} {s : MS} {d : Int} {w w' : World}
theorem RS.lt (h : RS ts aL n cap q s d w) : q < w.heap.size := h.bo.lt
theorem RS.mem (h : RS ts aL n cap q s d w) : MemW w (.s 5 (tkRows ts)) (.slice aL n cap) := h.tk.le (Nat.le_of_lt h.lt)
theorem RS.len (h : RS ts aL n cap q s d w) : ts.length = n ∧ n ≤ 9223372036854775807 := by
  have := h.tk.len
  rw [tkRows_len] at this
  exact ⟨this.1, by omega⟩
theorem RS.keep (h : RS ts aL n cap q s d w) (hb : Below w.heap.size w w') : RS ts aL n cap q s d w' :=
  ⟨h.bo.keep hb, h.tk.mono (fun _ hb => hb) fun b hbq => hb.block b (Nat.lt_trans hbq h.lt), h.sm⟩
theorem RS.alloc (h : RS ts aL n cap q s d w) (o : Obj) : RS ts aL n cap q s d (w.alloc o) := h.keep (below_new w o)
theorem RS.drew (h : RS ts aL n cap q s d w) : RS ts aL n cap q s d w.drew := h.keep (below_drew w)
theorem RS.of (h : RS ts aL n cap q s d w) {s' : MS} {d' : Int} (hf : FarQ q w w') (hb : Bo w' q 82 #[.slice aL n cap, .int .i64 (s'.i : Int), .int .i64 d', .int .i64 (eB s'.b), .int .i64 (lB s'.b), .int .i64 (cB s'.b)]) : RS ts aL n cap q s' d' w' :=
  ⟨hb, h.tk.mono (fun _ hb => hb) fun b hbq => hf.block b (Nat.lt_trans hbq h.lt) (Nat.ne_of_lt hbq), h.sm⟩
theorem RS.setI (h : RS ts aL n cap q s d w) {v : Int} {k : Nat} (hv : v = (k : Int)) : RS ts aL n cap q ⟨k, s.b⟩ d (w.setCell ⟨q, 1, none⟩ (.int .i64 v)) := by subst hv; exact h.of (FarQ.set _ _ _) (h.bo.set 1 _)
theorem RS.setD (h : RS ts aL n cap q s d w) {v k : Int} (hv : v = k) : RS ts aL n cap q s k (w.setCell ⟨q, 2, none⟩ (.int .i64 v)) := by subst hv; exact h.of (FarQ.set _ _ _) (h.bo.set 2 _)
theorem RS.off (h : RS ts aL n cap q s d w) {g : Nat} (hg : q < g) (j : Nat) (v : Value) : RS ts aL n cap q s d (w.setCell ⟨g, j, none⟩ v) :=
  ⟨h.bo.far j v (Nat.ne_of_lt hg), h.tk.mono (fun _ hb => hb) fun b hbq => heap_setCell_other w ⟨g, j, none⟩ b v (Nat.ne_of_lt (Nat.lt_trans hbq hg)), h.sm⟩
theorem RS.grown {r : Option Nat} (h : RS ts aL n cap q s d w) (hg : w.grownBy w' r) (hr : ∀ k, r = some k → q < k) : RS ts aL n cap q s d w' :=
  ⟨h.bo.grown hg fun k hk e => by have := hr k hk; omega, h.tk.mono (fun _ hb => hb) fun b hb => hg.block b (Nat.lt_trans hb h.lt) (fun e => by have := hr b e.symm; have : b < q := hb; omega), h.sm⟩
theorem RS.setIE (h : RS ts aL n cap q s d w) {k : Nat} {v : Int} (e : w.setCell ⟨q, 1, none⟩ (.int .i64 v) = w') (hv : v = (k : Int)) : RS ts aL n cap q ⟨k, s.b⟩ d w' := e ▸ h.setI hv
theorem RS.setDE (h : RS ts aL n cap q s d w) {k v : Int} (e : w.setCell ⟨q, 2, none⟩ (.int .i64 v) = w') (hv : v = k) : RS ts aL n cap q s k w' := e ▸ h.setD hv
end
section
variable {w w' a : World} {q g j B : Nat} {t : TypeId}
end
end Go.Proofs.Ytcoiagfeoonpbaa
