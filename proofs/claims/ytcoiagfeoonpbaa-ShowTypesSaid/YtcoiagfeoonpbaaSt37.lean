/-
  ast.SameRule: true on rules that are alike. No condition but how they lie.
-/
import Derived.Test.YtcoiagfeoonpbaaSt36
namespace Go.Proofs.Ytcoiagfeoonpbaa
open Go.RowKit
attribute [local go_sem] toList_beq neq_toListE
end Go.Proofs.Ytcoiagfeoonpbaa

/-
  module.Same: true on modules that are alike. No condition but how they lie.
-/
namespace Go.Proofs.Ytcoiagfeoonpbaa
open Go.RowKit
end Go.Proofs.Ytcoiagfeoonpbaa
