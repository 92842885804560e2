/-
  Lists of texts in memory; where a text stands in one. No condition but how they lie.
-/
import Derived.Test.YtcoiagfeoonpbaaMt2
namespace Go.Proofs.Ytcoiagfeoonpbaa
open Go.RowKit
attribute [local go_sem] toList_beq
end Go.Proofs.Ytcoiagfeoonpbaa
