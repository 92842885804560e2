/-
  NARROWER THAN 'FOR EVERY INPUT', by the rows' own cells (each row's printed sentence says how): ModuleTypes: loops.
  DERIVED. THE GIVEN ROWS OF THIS SEAT. 4 by the template 'for every input the law returns true; each argument reads behind the call as it read before'; 0 by the template 'total and deterministic' (their statements: YtcoiagfeoonpbaaTotals.lean).
  GIVEN WITH THE SEED: the statements are not yours to turn. If you find one false, say at which input.
  Laid BY PROGRAM, IN A SANDBOX (cutbox-rows.mjs): the forced cells as the released guide's own fill.sh prints them over the translation b48db8b6ed35c76b… (all of the seat's roots in one cut). By AI agents, Wed Nov 11 2026. No macro, syntax, notation, axiom, sorry.
-/
import Derived.Test.YtcoiagfeoonpbaaChecked
import GoSem.Claim
import GoSem.ClaimJoined
import GoSem.ClaimMapViews
import Derived.JoinedTies
import Derived.KernelRfl
namespace Go.Proofs.Ytcoiagfeoonpbaa
/- THE CELL 'sum', in the pinned program and in every row, IS THE sha256 OF THE DUMP (.gsa) THAT YtcoiagfeoonpbaaProg.lean LOADS. Nothing in Lean hashes anything: it is a label: what it is worth is what the hold of that sum in a sandbox is worth. -/
noncomputable def Try.pinned : Pinned := { name := "ytcoiagfeoonpbaa", sum := "b48db8b6ed35c76bb0c76babc990c6118371718d58fe96bd6f740f5e4b56b306", checked := Try.checked }
namespace Rows
def none {H : Type} : Left H := { results := [], args := [] }

/-- 'whimbrellaw08.ShowExprs': WHATEVER THE INPUT: true; the input reads as it did. -/
def showExprsSpec : ChangeSpec := { name := "showExprs", fn := fun _ => fun
  | [d] => { results := [.lit (.bool true)], args := [d] }
  | _ => none }
def showExprsRow : OpenClaim := { program := "ytcoiagfeoonpbaa", sum := "b48db8b6ed35c76bb0c76babc990c6118371718d58fe96bd6f740f5e4b56b306", func := "whimbrel/whimbrellaw08.ShowExprs", spec := "showExprs", inPlace := ["internal/bytealg.IndexByteString", "internal/abi.NoEscape", "internal/bytealg.MakeNoZero"], unfollowed := true, recurses := true, apart := false }
def ShowExprsSaid : Prop := showExprsRow.holds Try.pinned (OpenSpec.ofChange showExprsSpec)

/-- ITS FALSE NEIGHBOUR: 'it returns false'. Refute it at one input. -/
def showExprsWrong : ChangeSpec := { name := "showExprs", fn := fun _ => fun
  | [d] => { results := [.lit (.bool false)], args := [d] }
  | _ => none }
def ShowExprsWrongFalsely : Prop := showExprsRow.holds Try.pinned (OpenSpec.ofChange showExprsWrong)

/-- 'whimbrellaw07.ModuleTypes': WHATEVER THE INPUT: true; the input reads as it did. -/
def moduleTypesSpec : ChangeSpec := { name := "moduleTypes", fn := fun _ => fun
  | [d1, d2, d3, d4] => { results := [.lit (.bool true)], args := [d1, d2, d3, d4] }
  | _ => none }
def moduleTypesRow : OpenClaim := { program := "ytcoiagfeoonpbaa", sum := "b48db8b6ed35c76bb0c76babc990c6118371718d58fe96bd6f740f5e4b56b306", func := "whimbrel/whimbrellaw07.ModuleTypes", spec := "moduleTypes", inPlace := ["internal/bytealg.IndexByteString"], unfollowed := true, recurses := true, loops := true, apart := false }
def ModuleTypesSaid : Prop := moduleTypesRow.holds Try.pinned (OpenSpec.ofChange moduleTypesSpec)

/-- ITS FALSE NEIGHBOUR: 'it returns false'. Refute it at one input. -/
def moduleTypesWrong : ChangeSpec := { name := "moduleTypes", fn := fun _ => fun
  | [d1, d2, d3, d4] => { results := [.lit (.bool false)], args := [d1, d2, d3, d4] }
  | _ => none }
def ModuleTypesWrongFalsely : Prop := moduleTypesRow.holds Try.pinned (OpenSpec.ofChange moduleTypesWrong)

/-- 'whimbrellaw07.ModuleJoins': WHATEVER THE INPUT: true; the input reads as it did. -/
def moduleJoinsSpec : ChangeSpec := { name := "moduleJoins", fn := fun _ => fun
  | [d1, d2] => { results := [.lit (.bool true)], args := [d1, d2] }
  | _ => none }
def moduleJoinsRow : OpenClaim := { program := "ytcoiagfeoonpbaa", sum := "b48db8b6ed35c76bb0c76babc990c6118371718d58fe96bd6f740f5e4b56b306", func := "whimbrel/whimbrellaw07.ModuleJoins", spec := "moduleJoins", inPlace := ["internal/bytealg.IndexByteString"], unfollowed := true, recurses := true, apart := false }
def ModuleJoinsSaid : Prop := moduleJoinsRow.holds Try.pinned (OpenSpec.ofChange moduleJoinsSpec)

/-- ITS FALSE NEIGHBOUR: 'it returns false'. Refute it at one input. -/
def moduleJoinsWrong : ChangeSpec := { name := "moduleJoins", fn := fun _ => fun
  | [d1, d2] => { results := [.lit (.bool false)], args := [d1, d2] }
  | _ => none }
def ModuleJoinsWrongFalsely : Prop := moduleJoinsRow.holds Try.pinned (OpenSpec.ofChange moduleJoinsWrong)

/-- 'whimbrellaw08.ShowTypes': WHATEVER THE INPUT: true; the input reads as it did. -/
def showTypesSpec : ChangeSpec := { name := "showTypes", fn := fun _ => fun
  | [d] => { results := [.lit (.bool true)], args := [d] }
  | _ => none }
def showTypesRow : OpenClaim := { program := "ytcoiagfeoonpbaa", sum := "b48db8b6ed35c76bb0c76babc990c6118371718d58fe96bd6f740f5e4b56b306", func := "whimbrel/whimbrellaw08.ShowTypes", spec := "showTypes", inPlace := ["internal/bytealg.IndexByteString", "internal/abi.NoEscape", "internal/bytealg.MakeNoZero"], unfollowed := true, recurses := true, apart := false }
def ShowTypesSaid : Prop := showTypesRow.holds Try.pinned (OpenSpec.ofChange showTypesSpec)

/-- ITS FALSE NEIGHBOUR: 'it returns false'. Refute it at one input. -/
def showTypesWrong : ChangeSpec := { name := "showTypes", fn := fun _ => fun
  | [d] => { results := [.lit (.bool false)], args := [d] }
  | _ => none }
def ShowTypesWrongFalsely : Prop := showTypesRow.holds Try.pinned (OpenSpec.ofChange showTypesWrong)

/- THE SECOND FORM. 'bulk': how many values and letters a reading holds, each counted each time it is reached (what is shared counts as often as it is met; a slice's spare places count too). A statement '..UptoSaid' is the law's where the arguments, and the package variables that the reading takes, are together of bulk at most 1048576: NARROWER than '..Said'. Prove '..Said' where nothing that the law and all that it calls make is longer than what came in: it says more and counts as full. Else prove '..UptoSaid'. A law counts once. -/
mutual
def uptoBulk {H : Type} : DataW H → Nat
  | .lit (.string bytes) => bytes.length + 1
  | .lit _ => 1
  | .nil => 1
  | .ptr d => uptoBulk d + 1
  | .slice elems spare => uptoBulkAll elems + uptoBulkAll spare + 1
  | .agg parts => uptoBulkAll parts + 1
  | .iface _ d => uptoBulk d + 1
  | .map entries => uptoBulkEntries entries + 1
  | .held _ => 1
def uptoBulkAll {H : Type} : List (DataW H) → Nat
  | [] => 0
  | d :: r => uptoBulk d + uptoBulkAll r
def uptoBulkEntries {H : Type} : List (Lit × DataW H) → Nat
  | [] => 0
  | x :: r => uptoBulkEntry x + uptoBulkEntries r
def uptoBulkEntry {H : Type} : Lit × DataW H → Nat
  | (.string bytes, d) => bytes.length + uptoBulk d + 1
  | (_, d) => uptoBulk d + 1
 end
def uptoSmall : (H : Type) → List (DataW H) → Bool := fun _ ds => decide (uptoBulkAll ds ≤ 1048576)
def OpenSpec.upto (s : _root_.Go.ChangeSpec) : _root_.Go.OpenSpec := { _root_.Go.OpenSpec.ofChange s with cond := some uptoSmall }

/-- 'whimbrellaw08.ShowExprs', WHERE WHAT IT READS IS OF BULK AT MOST 1048576: true; the input reads as it did. -/
def showExprsUptoRow : OpenClaim := { program := "ytcoiagfeoonpbaa", sum := "b48db8b6ed35c76bb0c76babc990c6118371718d58fe96bd6f740f5e4b56b306", func := "whimbrel/whimbrellaw08.ShowExprs", spec := "showExprs", inPlace := ["internal/bytealg.IndexByteString", "internal/abi.NoEscape", "internal/bytealg.MakeNoZero"], unfollowed := true, recurses := true, apart := false, narrowed := true }
def ShowExprsUptoSaid : Prop := showExprsUptoRow.holds Try.pinned (OpenSpec.upto showExprsSpec)

/-- 'whimbrellaw07.ModuleTypes', WHERE WHAT IT READS IS OF BULK AT MOST 1048576: true; the input reads as it did. -/
def moduleTypesUptoRow : OpenClaim := { program := "ytcoiagfeoonpbaa", sum := "b48db8b6ed35c76bb0c76babc990c6118371718d58fe96bd6f740f5e4b56b306", func := "whimbrel/whimbrellaw07.ModuleTypes", spec := "moduleTypes", inPlace := ["internal/bytealg.IndexByteString"], unfollowed := true, recurses := true, loops := true, apart := false, narrowed := true }
def ModuleTypesUptoSaid : Prop := moduleTypesUptoRow.holds Try.pinned (OpenSpec.upto moduleTypesSpec)

/-- 'whimbrellaw07.ModuleJoins', WHERE WHAT IT READS IS OF BULK AT MOST 1048576: true; the input reads as it did. -/
def moduleJoinsUptoRow : OpenClaim := { program := "ytcoiagfeoonpbaa", sum := "b48db8b6ed35c76bb0c76babc990c6118371718d58fe96bd6f740f5e4b56b306", func := "whimbrel/whimbrellaw07.ModuleJoins", spec := "moduleJoins", inPlace := ["internal/bytealg.IndexByteString"], unfollowed := true, recurses := true, apart := false, narrowed := true }
def ModuleJoinsUptoSaid : Prop := moduleJoinsUptoRow.holds Try.pinned (OpenSpec.upto moduleJoinsSpec)

/-- 'whimbrellaw08.ShowTypes', WHERE WHAT IT READS IS OF BULK AT MOST 1048576: true; the input reads as it did. -/
def showTypesUptoRow : OpenClaim := { program := "ytcoiagfeoonpbaa", sum := "b48db8b6ed35c76bb0c76babc990c6118371718d58fe96bd6f740f5e4b56b306", func := "whimbrel/whimbrellaw08.ShowTypes", spec := "showTypes", inPlace := ["internal/bytealg.IndexByteString", "internal/abi.NoEscape", "internal/bytealg.MakeNoZero"], unfollowed := true, recurses := true, apart := false, narrowed := true }
def ShowTypesUptoSaid : Prop := showTypesUptoRow.holds Try.pinned (OpenSpec.upto showTypesSpec)

end Rows
end Go.Proofs.Ytcoiagfeoonpbaa
