/-
  Constructors, data and rules in memory: their rows, read and built. Plain lemmas. No condition.
-/
import Derived.Test.YtcoiagfeoonpbaaSe19
import Derived.Test.YtcoiagfeoonpbaaSe7
import Derived.Test.YtcoiagfeoonpbaaSe17
import Derived.Test.YtcoiagfeoonpbaaSe18
namespace Go.Proofs.Ytcoiagfeoonpbaa
open Go.RowKit
def strRow (s : ByteArray) : List At := [.v (.string s)]
def Cn.row (c : Cn) : List At := [.v (.string c.name), .s 4 (Tm.rows c.types), .v (.int .i64 c.l), .v (.int .i64 c.c)]
def Da.row (d : Da) : List At := [.v (.string d.name), .s 1 (d.vars.map strRow), .s 4 (d.cons.map Cn.row), .v (.int .i64 d.l), .v (.int .i64 d.c)]
def Ru.row (r : Ru) : List At := [.v (.string r.name), .s 6 (Ex.rows r.pats), .s 6 (Ex.rows r.guard), .v (.int .i64 r.body.kind), .v (.string r.body.name), .v (.int .i64 r.body.n), .s 6 (Ex.rows r.body.args), .v (.int .i64 r.body.line), .v (.int .i64 r.body.col), .v (.int .i64 r.l), .v (.int .i64 r.c)]
section
variable {S : Nat → Prop} {w : World}
theorem mem_slice {sz : Nat} {rs : List (List At)} {v : Value} (h : Mem S w (.s sz rs) v) : ∃ a n c, v = .slice a n c := by
  cases h with
  | e a cap sz hc => exact ⟨_, _, _, rfl⟩
  | s => exact ⟨_, _, _, rfl⟩
end
section
variable {w w' : World} {base : Nat}
theorem row_new {t : TypeId} {sz : Nat} {r : List At} {cs : Array Value} (hr : All2 (Mem (Nw 0 base w.heap.size) w) r cs.toList) (hs : cs.toList.length = sz) (hb : base ≤ w.heap.size) : OwnD 0 base t sz (w.alloc (.cells cs t)) (.slice (some ⟨w.heap.size, 0, none⟩) 1 1) [r] :=
  OwnD.built (css := [cs.toList]) (.cons ⟨hs, hr⟩ .nil) hb 1 rfl (by decide) cs (by simp)
theorem row_app {t : TypeId} {sz : Nat} {y : Value} {rs : List (List At)} {W : World} {r : List At} {cs : Array Value} (h : OwnD 0 base t sz W y rs) (hb : base ≤ W.heap.size) (hs : W.heap.size ≤ w.heap.size) (hr : All2 (Mem (Nw 0 W.heap.size w.heap.size) w) r cs.toList) (hsz : cs.toList.length = sz) :
    Mem (fun b => Nw 0 base (w.alloc (.cells cs t)).heap.size b ∧ y.ownBlock ≠ some b) (w.alloc (.cells cs t)) (.s sz [r]) (.slice (some ⟨w.heap.size, 0, none⟩) 1 1) :=
  h.apart (Nat.zero_le _) hb (row_new hr hsz hs).mem
end
end Go.Proofs.Ytcoiagfeoonpbaa

/-
  The module reader's small steps: ok, fail, is, take, name, starts. No condition but how the reader and the tokens lie.
-/
namespace Go.Proofs.Ytcoiagfeoonpbaa
open Go.RowKit
section
variable {ts : List Tk} {aL : Option Addr} {n cap q : Nat} {s : MS} {d : Int}
attribute [local go_sem] tk_pos
end
end Go.Proofs.Ytcoiagfeoonpbaa

/-
 The parser's pat: a Pat. Under what the other reading functions do with less fuel.
-/
namespace Go.Proofs.Ytcoiagfeoonpbaa
open Go.RowKit
theorem tk_kind (k n l c : Int) (s : ByteArray) (w : World) : Sem.run Try.prog (Instr.field 71 (.agg #[.int .i64 k, .string s, .int .i64 n, .int .i64 l, .int .i64 c]) 0) w = .ok (.int .i64 k) w := by kernel_rfl
attribute [local go_sem] tk_pos tk_kind
section
variable {ts : List Tk} {aL : Option Addr} {n cap q : Nat}
end
end Go.Proofs.Ytcoiagfeoonpbaa

/-
 expr.run: a reading function at a place; what is thrown is told. (Pat.) Under no condition but how the tokens lie.
-/
namespace Go.Proofs.Ytcoiagfeoonpbaa
open Go.RowKit
section
variable {ts : List Tk} {aL : Option Addr} {n cap q : Nat}
end
end Go.Proofs.Ytcoiagfeoonpbaa
