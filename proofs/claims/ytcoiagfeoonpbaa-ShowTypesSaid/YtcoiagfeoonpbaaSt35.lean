/-
  SameExpr: two expressions that are alike (places too, where they are asked for) are told to be. No condition but how they lie.
-/
import Derived.Test.YtcoiagfeoonpbaaSt14
import Derived.Test.YtcoiagfeoonpbaaSt7
import Derived.StillTailTactics
namespace Go.Proofs.Ytcoiagfeoonpbaa
open Go.RowKit
attribute [local go_sem] toList_beq
theorem neq_toListE (a b : ByteArray) : (a.toList != b.toList) = (a != b) := by rw [bne, bne, toList_beq]
attribute [local go_sem] neq_toListE
end Go.Proofs.Ytcoiagfeoonpbaa
