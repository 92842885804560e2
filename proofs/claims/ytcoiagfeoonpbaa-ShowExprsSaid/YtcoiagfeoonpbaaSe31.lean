/-
 The module reader's atom, typ and atoms: types. Under what they do with less fuel. No condition but how the reader and the tokens lie.
-/
import Derived.Test.YtcoiagfeoonpbaaSe20
import Derived.Deep.Cut
import Derived.Test.YtcoiagfeoonpbaaSe18
namespace Go.Proofs.Ytcoiagfeoonpbaa
open Go.RowKit
section
variable (ts : List Tk) (aL : Option Addr) (n cap q : Nat)
end
section
variable {ts : List Tk} {aL : Option Addr} {n cap q : Nat}
end
end Go.Proofs.Ytcoiagfeoonpbaa

/-
 The module reader's con: a constructor. No condition but how the reader and the tokens lie.
-/
namespace Go.Proofs.Ytcoiagfeoonpbaa
open Go.RowKit
section
variable {ts : List Tk} {aL : Option Addr} {n cap q : Nat}
attribute [local go_sem] tk_pos
end
end Go.Proofs.Ytcoiagfeoonpbaa

/-
  The module reader's data: a type and its constructors. No condition but how the reader and the tokens lie.
-/
namespace Go.Proofs.Ytcoiagfeoonpbaa
open Go.RowKit
section
variable {ts : List Tk} {aL : Option Addr} {n cap q : Nat}
theorem tk_kindM (k n l c : Int) (s : ByteArray) (w : World) : Sem.run Try.prog (Instr.field 71 (.agg #[.int .i64 k, .string s, .int .i64 n, .int .i64 l, .int .i64 c]) 0) w = .ok (.int .i64 k) w := by kernel_rfl
attribute [local go_sem] tk_pos tk_kindM
end
end Go.Proofs.Ytcoiagfeoonpbaa
