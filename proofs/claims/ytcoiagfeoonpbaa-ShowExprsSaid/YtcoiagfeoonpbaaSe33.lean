/-
  The module reader's rule: patterns, a guard, a body. No condition but how the reader and the tokens lie.
-/
import Derived.Test.YtcoiagfeoonpbaaSe31
import Derived.Test.YtcoiagfeoonpbaaSe32
import Derived.Test.YtcoiagfeoonpbaaSe21
namespace Go.Proofs.Ytcoiagfeoonpbaa
open Go.RowKit
section
variable {ts : List Tk} {aL : Option Addr} {n cap q : Nat}
attribute [local go_sem] tk_pos tk_kindM
end
end Go.Proofs.Ytcoiagfeoonpbaa
