/-
  All: a type (a term), and all that is in it, as a list. No condition but how it lies, and how many there are.
-/
import Derived.Test.YtcoiagfeoonpbaaSe6
import Derived.StillTailTactics
namespace Go.Proofs.Ytcoiagfeoonpbaa
open Go.RowKit
end Go.Proofs.Ytcoiagfeoonpbaa
