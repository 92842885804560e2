/-
  module.Parse: the module of a text. No condition but sizes.
-/
import Derived.Test.YtcoiagfeoonpbaaSe33
import Derived.Test.YtcoiagfeoonpbaaSe21
import Derived.Test.YtcoiagfeoonpbaaSe22
import Derived.Test.YtcoiagfeoonpbaaSe10
namespace Go.Proofs.Ytcoiagfeoonpbaa
open Go.RowKit
attribute [local go_sem] tk_pos tk_kindM
end Go.Proofs.Ytcoiagfeoonpbaa

/-
  module.Size: rules, and what is constructed. No condition but how the module lies, and how great it is.
-/
namespace Go.Proofs.Ytcoiagfeoonpbaa
open Go.RowKit
end Go.Proofs.Ytcoiagfeoonpbaa
