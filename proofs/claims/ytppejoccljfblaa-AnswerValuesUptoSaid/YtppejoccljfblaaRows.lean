/-
  NARROWER THAN 'FOR EVERY INPUT', by the rows' own cells (each row's printed sentence says how): UnifyAgree: loops · UnifyHolds: loops · TermSorts: loops · TermMakes: loops · AnswerValues: loops.
  DERIVED. THE GIVEN ROWS OF THIS SEAT. 11 by the template 'for every input the law returns true; each argument reads behind the call as it read before'; 0 by the template 'total and deterministic' (their statements: YtppejoccljfblaaTotals.lean).
  GIVEN WITH THE SEED: the statements are not yours to turn. If you find one false, say at which input.
  Laid BY PROGRAM, IN A SANDBOX (cutbox-rows.mjs): the forced cells as the released guide's own fill.sh prints them over the translation d508175f19dd7471… (all of the seat's roots in one cut). By AI agents, Wed Nov 11 2026. No macro, syntax, notation, axiom, sorry.
-/
import Derived.Test.YtppejoccljfblaaChecked
import GoSem.Claim
import GoSem.ClaimJoined
import GoSem.ClaimMapViews
import Derived.JoinedTies
import Derived.KernelRfl
namespace Go.Proofs.Ytppejoccljfblaa
/- THE CELL 'sum', in the pinned program and in every row, IS THE sha256 OF THE DUMP (.gsa) THAT YtppejoccljfblaaProg.lean LOADS. Nothing in Lean hashes anything: it is a label: what it is worth is what the hold of that sum in a sandbox is worth. -/
noncomputable def Try.pinned : Pinned := { name := "ytppejoccljfblaa", sum := "d508175f19dd74715e6904eafd31fe55ae2c81b7607eb0c9188fe7b85e2a98ef", checked := Try.checked }
namespace Rows
def none {H : Type} : Left H := { results := [], args := [] }

/-- 'whimbrellaw37.ScriptCuts': WHATEVER THE INPUT: true; the input reads as it did. -/
def scriptCutsSpec : ChangeSpec := { name := "scriptCuts", fn := fun _ => fun
  | [d1, d2] => { results := [.lit (.bool true)], args := [d1, d2] }
  | _ => none }
def scriptCutsRow : OpenClaim := { program := "ytppejoccljfblaa", sum := "d508175f19dd74715e6904eafd31fe55ae2c81b7607eb0c9188fe7b85e2a98ef", func := "whimbrel/whimbrellaw37.ScriptCuts", spec := "scriptCuts", inPlace := ["internal/abi.NoEscape", "internal/bytealg.MakeNoZero"], unfollowed := true, recurses := true, apart := false }
def ScriptCutsSaid : Prop := scriptCutsRow.holds Try.pinned (OpenSpec.ofChange scriptCutsSpec)

/-- ITS FALSE NEIGHBOUR: 'it returns false'. Refute it at one input. -/
def scriptCutsWrong : ChangeSpec := { name := "scriptCuts", fn := fun _ => fun
  | [d1, d2] => { results := [.lit (.bool false)], args := [d1, d2] }
  | _ => none }
def ScriptCutsWrongFalsely : Prop := scriptCutsRow.holds Try.pinned (OpenSpec.ofChange scriptCutsWrong)

/-- 'whimbrellaw02.LexScans': WHATEVER THE INPUT: true; the input reads as it did. -/
def lexScansSpec : ChangeSpec := { name := "lexScans", fn := fun _ => fun
  | [d] => { results := [.lit (.bool true)], args := [d] }
  | _ => none }
def lexScansRow : OpenClaim := { program := "ytppejoccljfblaa", sum := "d508175f19dd74715e6904eafd31fe55ae2c81b7607eb0c9188fe7b85e2a98ef", func := "whimbrel/whimbrellaw02.LexScans", spec := "lexScans", inPlace := ["internal/bytealg.IndexByteString"], apart := false }
def LexScansSaid : Prop := lexScansRow.holds Try.pinned (OpenSpec.ofChange lexScansSpec)

/-- ITS FALSE NEIGHBOUR: 'it returns false'. Refute it at one input. -/
def lexScansWrong : ChangeSpec := { name := "lexScans", fn := fun _ => fun
  | [d] => { results := [.lit (.bool false)], args := [d] }
  | _ => none }
def LexScansWrongFalsely : Prop := lexScansRow.holds Try.pinned (OpenSpec.ofChange lexScansWrong)

/-- 'whimbrellaw02.LexLines': WHATEVER THE INPUT: true; the input reads as it did. -/
def lexLinesSpec : ChangeSpec := { name := "lexLines", fn := fun _ => fun
  | [d1, d2] => { results := [.lit (.bool true)], args := [d1, d2] }
  | _ => none }
def lexLinesRow : OpenClaim := { program := "ytppejoccljfblaa", sum := "d508175f19dd74715e6904eafd31fe55ae2c81b7607eb0c9188fe7b85e2a98ef", func := "whimbrel/whimbrellaw02.LexLines", spec := "lexLines", inPlace := ["internal/bytealg.IndexByteString"], apart := false }
def LexLinesSaid : Prop := lexLinesRow.holds Try.pinned (OpenSpec.ofChange lexLinesSpec)

/-- ITS FALSE NEIGHBOUR: 'it returns false'. Refute it at one input. -/
def lexLinesWrong : ChangeSpec := { name := "lexLines", fn := fun _ => fun
  | [d1, d2] => { results := [.lit (.bool false)], args := [d1, d2] }
  | _ => none }
def LexLinesWrongFalsely : Prop := lexLinesRow.holds Try.pinned (OpenSpec.ofChange lexLinesWrong)

/-- 'whimbrellaw37.ScriptPacks': WHATEVER THE INPUT: true; the input reads as it did. -/
def scriptPacksSpec : ChangeSpec := { name := "scriptPacks", fn := fun _ => fun
  | [d1, d2] => { results := [.lit (.bool true)], args := [d1, d2] }
  | _ => none }
def scriptPacksRow : OpenClaim := { program := "ytppejoccljfblaa", sum := "d508175f19dd74715e6904eafd31fe55ae2c81b7607eb0c9188fe7b85e2a98ef", func := "whimbrel/whimbrellaw37.ScriptPacks", spec := "scriptPacks", inPlace := ["internal/abi.NoEscape", "internal/bytealg.MakeNoZero"], unfollowed := true, recurses := true, apart := false }
def ScriptPacksSaid : Prop := scriptPacksRow.holds Try.pinned (OpenSpec.ofChange scriptPacksSpec)

/-- ITS FALSE NEIGHBOUR: 'it returns false'. Refute it at one input. -/
def scriptPacksWrong : ChangeSpec := { name := "scriptPacks", fn := fun _ => fun
  | [d1, d2] => { results := [.lit (.bool false)], args := [d1, d2] }
  | _ => none }
def ScriptPacksWrongFalsely : Prop := scriptPacksRow.holds Try.pinned (OpenSpec.ofChange scriptPacksWrong)

/-- 'whimbrellaw40.GenDraws': WHATEVER THE INPUT: true; the input reads as it did. -/
def genDrawsSpec : ChangeSpec := { name := "genDraws", fn := fun _ => fun
  | [d1, d2] => { results := [.lit (.bool true)], args := [d1, d2] }
  | _ => none }
def genDrawsRow : OpenClaim := { program := "ytppejoccljfblaa", sum := "d508175f19dd74715e6904eafd31fe55ae2c81b7607eb0c9188fe7b85e2a98ef", func := "whimbrel/whimbrellaw40.GenDraws", spec := "genDraws", inPlace := ["internal/abi.NoEscape", "internal/bytealg.IndexByteString", "internal/bytealg.IndexString"], unfollowed := true, recurses := true, named := ["internal/bytealg.MaxLen"], apart := false }
def GenDrawsSaid : Prop := genDrawsRow.holds Try.pinned (OpenSpec.ofChange genDrawsSpec)

/-- ITS FALSE NEIGHBOUR: 'it returns false'. Refute it at one input. -/
def genDrawsWrong : ChangeSpec := { name := "genDraws", fn := fun _ => fun
  | [d1, d2] => { results := [.lit (.bool false)], args := [d1, d2] }
  | _ => none }
def GenDrawsWrongFalsely : Prop := genDrawsRow.holds Try.pinned (OpenSpec.ofChange genDrawsWrong)

/-- 'whimbrellaw12.UnifyAgree': WHATEVER THE INPUT: true; the input reads as it did. -/
def unifyAgreeSpec : ChangeSpec := { name := "unifyAgree", fn := fun _ => fun
  | [d1, d2] => { results := [.lit (.bool true)], args := [d1, d2] }
  | _ => none }
def unifyAgreeRow : OpenClaim := { program := "ytppejoccljfblaa", sum := "d508175f19dd74715e6904eafd31fe55ae2c81b7607eb0c9188fe7b85e2a98ef", func := "whimbrel/whimbrellaw12.UnifyAgree", spec := "unifyAgree", inPlace := ["maps.clone"], unfollowed := true, recurses := true, loops := true, apart := false }
def UnifyAgreeSaid : Prop := unifyAgreeRow.holds Try.pinned (OpenSpec.ofChange unifyAgreeSpec)

/-- ITS FALSE NEIGHBOUR: 'it returns false'. Refute it at one input. -/
def unifyAgreeWrong : ChangeSpec := { name := "unifyAgree", fn := fun _ => fun
  | [d1, d2] => { results := [.lit (.bool false)], args := [d1, d2] }
  | _ => none }
def UnifyAgreeWrongFalsely : Prop := unifyAgreeRow.holds Try.pinned (OpenSpec.ofChange unifyAgreeWrong)

/-- 'whimbrellaw12.UnifyHolds': WHATEVER THE INPUT: true; the input reads as it did. -/
def unifyHoldsSpec : ChangeSpec := { name := "unifyHolds", fn := fun _ => fun
  | [d1, d2, d3] => { results := [.lit (.bool true)], args := [d1, d2, d3] }
  | _ => none }
def unifyHoldsRow : OpenClaim := { program := "ytppejoccljfblaa", sum := "d508175f19dd74715e6904eafd31fe55ae2c81b7607eb0c9188fe7b85e2a98ef", func := "whimbrel/whimbrellaw12.UnifyHolds", spec := "unifyHolds", inPlace := ["maps.clone"], unfollowed := true, recurses := true, loops := true, apart := false }
def UnifyHoldsSaid : Prop := unifyHoldsRow.holds Try.pinned (OpenSpec.ofChange unifyHoldsSpec)

/-- ITS FALSE NEIGHBOUR: 'it returns false'. Refute it at one input. -/
def unifyHoldsWrong : ChangeSpec := { name := "unifyHolds", fn := fun _ => fun
  | [d1, d2, d3] => { results := [.lit (.bool false)], args := [d1, d2, d3] }
  | _ => none }
def UnifyHoldsWrongFalsely : Prop := unifyHoldsRow.holds Try.pinned (OpenSpec.ofChange unifyHoldsWrong)

/-- 'whimbrellaw02.LexBack': WHATEVER THE INPUT: true; the input reads as it did. -/
def lexBackSpec : ChangeSpec := { name := "lexBack", fn := fun _ => fun
  | [d] => { results := [.lit (.bool true)], args := [d] }
  | _ => none }
def lexBackRow : OpenClaim := { program := "ytppejoccljfblaa", sum := "d508175f19dd74715e6904eafd31fe55ae2c81b7607eb0c9188fe7b85e2a98ef", func := "whimbrel/whimbrellaw02.LexBack", spec := "lexBack", inPlace := ["internal/bytealg.IndexByteString", "internal/abi.NoEscape"], apart := false }
def LexBackSaid : Prop := lexBackRow.holds Try.pinned (OpenSpec.ofChange lexBackSpec)

/-- ITS FALSE NEIGHBOUR: 'it returns false'. Refute it at one input. -/
def lexBackWrong : ChangeSpec := { name := "lexBack", fn := fun _ => fun
  | [d] => { results := [.lit (.bool false)], args := [d] }
  | _ => none }
def LexBackWrongFalsely : Prop := lexBackRow.holds Try.pinned (OpenSpec.ofChange lexBackWrong)

/-- 'whimbrellaw03.TermSorts': WHATEVER THE INPUT: true; the input reads as it did. -/
def termSortsSpec : ChangeSpec := { name := "termSorts", fn := fun _ => fun
  | [d] => { results := [.lit (.bool true)], args := [d] }
  | _ => none }
def termSortsRow : OpenClaim := { program := "ytppejoccljfblaa", sum := "d508175f19dd74715e6904eafd31fe55ae2c81b7607eb0c9188fe7b85e2a98ef", func := "whimbrel/whimbrellaw03.TermSorts", spec := "termSorts", unfollowed := true, recurses := true, loops := true, apart := false }
def TermSortsSaid : Prop := termSortsRow.holds Try.pinned (OpenSpec.ofChange termSortsSpec)

/-- ITS FALSE NEIGHBOUR: 'it returns false'. Refute it at one input. -/
def termSortsWrong : ChangeSpec := { name := "termSorts", fn := fun _ => fun
  | [d] => { results := [.lit (.bool false)], args := [d] }
  | _ => none }
def TermSortsWrongFalsely : Prop := termSortsRow.holds Try.pinned (OpenSpec.ofChange termSortsWrong)

/-- 'whimbrellaw03.TermMakes': WHATEVER THE INPUT: true; the input reads as it did. -/
def termMakesSpec : ChangeSpec := { name := "termMakes", fn := fun _ => fun
  | [d1, d2] => { results := [.lit (.bool true)], args := [d1, d2] }
  | _ => none }
def termMakesRow : OpenClaim := { program := "ytppejoccljfblaa", sum := "d508175f19dd74715e6904eafd31fe55ae2c81b7607eb0c9188fe7b85e2a98ef", func := "whimbrel/whimbrellaw03.TermMakes", spec := "termMakes", unfollowed := true, recurses := true, loops := true, apart := false }
def TermMakesSaid : Prop := termMakesRow.holds Try.pinned (OpenSpec.ofChange termMakesSpec)

/-- ITS FALSE NEIGHBOUR: 'it returns false'. Refute it at one input. -/
def termMakesWrong : ChangeSpec := { name := "termMakes", fn := fun _ => fun
  | [d1, d2] => { results := [.lit (.bool false)], args := [d1, d2] }
  | _ => none }
def TermMakesWrongFalsely : Prop := termMakesRow.holds Try.pinned (OpenSpec.ofChange termMakesWrong)

/-- 'whimbrellaw30.AnswerValues': WHATEVER THE INPUT: true; the input reads as it did. -/
def answerValuesSpec : ChangeSpec := { name := "answerValues", fn := fun _ => fun
  | [d1, d2] => { results := [.lit (.bool true)], args := [d1, d2] }
  | _ => none }
def answerValuesRow : OpenClaim := { program := "ytppejoccljfblaa", sum := "d508175f19dd74715e6904eafd31fe55ae2c81b7607eb0c9188fe7b85e2a98ef", func := "whimbrel/whimbrellaw30.AnswerValues", spec := "answerValues", unfollowed := true, recurses := true, loops := true, apart := false }
def AnswerValuesSaid : Prop := answerValuesRow.holds Try.pinned (OpenSpec.ofChange answerValuesSpec)

/-- ITS FALSE NEIGHBOUR: 'it returns false'. Refute it at one input. -/
def answerValuesWrong : ChangeSpec := { name := "answerValues", fn := fun _ => fun
  | [d1, d2] => { results := [.lit (.bool false)], args := [d1, d2] }
  | _ => none }
def AnswerValuesWrongFalsely : Prop := answerValuesRow.holds Try.pinned (OpenSpec.ofChange answerValuesWrong)

/- THE SECOND FORM. 'bulk': how many values and letters a reading holds, each counted each time it is reached (what is shared counts as often as it is met; a slice's spare places count too). A statement '..UptoSaid' is the law's where the arguments, and the package variables that the reading takes, are together of bulk at most 1048576: NARROWER than '..Said'. Prove '..Said' where nothing that the law and all that it calls make is longer than what came in: it says more and counts as full. Else prove '..UptoSaid'. A law counts once. -/
mutual
def uptoBulk {H : Type} : DataW H → Nat
  | .lit (.string bytes) => bytes.length + 1
  | .lit _ => 1
  | .nil => 1
  | .ptr d => uptoBulk d + 1
  | .slice elems spare => uptoBulkAll elems + uptoBulkAll spare + 1
  | .agg parts => uptoBulkAll parts + 1
  | .iface _ d => uptoBulk d + 1
  | .map entries => uptoBulkEntries entries + 1
  | .held _ => 1
def uptoBulkAll {H : Type} : List (DataW H) → Nat
  | [] => 0
  | d :: r => uptoBulk d + uptoBulkAll r
def uptoBulkEntries {H : Type} : List (Lit × DataW H) → Nat
  | [] => 0
  | x :: r => uptoBulkEntry x + uptoBulkEntries r
def uptoBulkEntry {H : Type} : Lit × DataW H → Nat
  | (.string bytes, d) => bytes.length + uptoBulk d + 1
  | (_, d) => uptoBulk d + 1
 end
def uptoSmall : (H : Type) → List (DataW H) → Bool := fun _ ds => decide (uptoBulkAll ds ≤ 1048576)
def OpenSpec.upto (s : _root_.Go.ChangeSpec) : _root_.Go.OpenSpec := { _root_.Go.OpenSpec.ofChange s with cond := some uptoSmall }

/-- 'whimbrellaw37.ScriptCuts', WHERE WHAT IT READS IS OF BULK AT MOST 1048576: true; the input reads as it did. -/
def scriptCutsUptoRow : OpenClaim := { program := "ytppejoccljfblaa", sum := "d508175f19dd74715e6904eafd31fe55ae2c81b7607eb0c9188fe7b85e2a98ef", func := "whimbrel/whimbrellaw37.ScriptCuts", spec := "scriptCuts", inPlace := ["internal/abi.NoEscape", "internal/bytealg.MakeNoZero"], unfollowed := true, recurses := true, apart := false, narrowed := true }
def ScriptCutsUptoSaid : Prop := scriptCutsUptoRow.holds Try.pinned (OpenSpec.upto scriptCutsSpec)

/-- 'whimbrellaw02.LexScans', WHERE WHAT IT READS IS OF BULK AT MOST 1048576: true; the input reads as it did. -/
def lexScansUptoRow : OpenClaim := { program := "ytppejoccljfblaa", sum := "d508175f19dd74715e6904eafd31fe55ae2c81b7607eb0c9188fe7b85e2a98ef", func := "whimbrel/whimbrellaw02.LexScans", spec := "lexScans", inPlace := ["internal/bytealg.IndexByteString"], apart := false, narrowed := true }
def LexScansUptoSaid : Prop := lexScansUptoRow.holds Try.pinned (OpenSpec.upto lexScansSpec)

/-- 'whimbrellaw02.LexLines', WHERE WHAT IT READS IS OF BULK AT MOST 1048576: true; the input reads as it did. -/
def lexLinesUptoRow : OpenClaim := { program := "ytppejoccljfblaa", sum := "d508175f19dd74715e6904eafd31fe55ae2c81b7607eb0c9188fe7b85e2a98ef", func := "whimbrel/whimbrellaw02.LexLines", spec := "lexLines", inPlace := ["internal/bytealg.IndexByteString"], apart := false, narrowed := true }
def LexLinesUptoSaid : Prop := lexLinesUptoRow.holds Try.pinned (OpenSpec.upto lexLinesSpec)

/-- 'whimbrellaw37.ScriptPacks', WHERE WHAT IT READS IS OF BULK AT MOST 1048576: true; the input reads as it did. -/
def scriptPacksUptoRow : OpenClaim := { program := "ytppejoccljfblaa", sum := "d508175f19dd74715e6904eafd31fe55ae2c81b7607eb0c9188fe7b85e2a98ef", func := "whimbrel/whimbrellaw37.ScriptPacks", spec := "scriptPacks", inPlace := ["internal/abi.NoEscape", "internal/bytealg.MakeNoZero"], unfollowed := true, recurses := true, apart := false, narrowed := true }
def ScriptPacksUptoSaid : Prop := scriptPacksUptoRow.holds Try.pinned (OpenSpec.upto scriptPacksSpec)

/-- 'whimbrellaw40.GenDraws', WHERE WHAT IT READS IS OF BULK AT MOST 1048576: true; the input reads as it did. -/
def genDrawsUptoRow : OpenClaim := { program := "ytppejoccljfblaa", sum := "d508175f19dd74715e6904eafd31fe55ae2c81b7607eb0c9188fe7b85e2a98ef", func := "whimbrel/whimbrellaw40.GenDraws", spec := "genDraws", inPlace := ["internal/abi.NoEscape", "internal/bytealg.IndexByteString", "internal/bytealg.IndexString"], unfollowed := true, recurses := true, named := ["internal/bytealg.MaxLen"], apart := false, narrowed := true }
def GenDrawsUptoSaid : Prop := genDrawsUptoRow.holds Try.pinned (OpenSpec.upto genDrawsSpec)

/-- 'whimbrellaw12.UnifyAgree', WHERE WHAT IT READS IS OF BULK AT MOST 1048576: true; the input reads as it did. -/
def unifyAgreeUptoRow : OpenClaim := { program := "ytppejoccljfblaa", sum := "d508175f19dd74715e6904eafd31fe55ae2c81b7607eb0c9188fe7b85e2a98ef", func := "whimbrel/whimbrellaw12.UnifyAgree", spec := "unifyAgree", inPlace := ["maps.clone"], unfollowed := true, recurses := true, loops := true, apart := false, narrowed := true }
def UnifyAgreeUptoSaid : Prop := unifyAgreeUptoRow.holds Try.pinned (OpenSpec.upto unifyAgreeSpec)

/-- 'whimbrellaw12.UnifyHolds', WHERE WHAT IT READS IS OF BULK AT MOST 1048576: true; the input reads as it did. -/
def unifyHoldsUptoRow : OpenClaim := { program := "ytppejoccljfblaa", sum := "d508175f19dd74715e6904eafd31fe55ae2c81b7607eb0c9188fe7b85e2a98ef", func := "whimbrel/whimbrellaw12.UnifyHolds", spec := "unifyHolds", inPlace := ["maps.clone"], unfollowed := true, recurses := true, loops := true, apart := false, narrowed := true }
def UnifyHoldsUptoSaid : Prop := unifyHoldsUptoRow.holds Try.pinned (OpenSpec.upto unifyHoldsSpec)

/-- 'whimbrellaw02.LexBack', WHERE WHAT IT READS IS OF BULK AT MOST 1048576: true; the input reads as it did. -/
def lexBackUptoRow : OpenClaim := { program := "ytppejoccljfblaa", sum := "d508175f19dd74715e6904eafd31fe55ae2c81b7607eb0c9188fe7b85e2a98ef", func := "whimbrel/whimbrellaw02.LexBack", spec := "lexBack", inPlace := ["internal/bytealg.IndexByteString", "internal/abi.NoEscape"], apart := false, narrowed := true }
def LexBackUptoSaid : Prop := lexBackUptoRow.holds Try.pinned (OpenSpec.upto lexBackSpec)

/-- 'whimbrellaw03.TermSorts', WHERE WHAT IT READS IS OF BULK AT MOST 1048576: true; the input reads as it did. -/
def termSortsUptoRow : OpenClaim := { program := "ytppejoccljfblaa", sum := "d508175f19dd74715e6904eafd31fe55ae2c81b7607eb0c9188fe7b85e2a98ef", func := "whimbrel/whimbrellaw03.TermSorts", spec := "termSorts", unfollowed := true, recurses := true, loops := true, apart := false, narrowed := true }
def TermSortsUptoSaid : Prop := termSortsUptoRow.holds Try.pinned (OpenSpec.upto termSortsSpec)

/-- 'whimbrellaw03.TermMakes', WHERE WHAT IT READS IS OF BULK AT MOST 1048576: true; the input reads as it did. -/
def termMakesUptoRow : OpenClaim := { program := "ytppejoccljfblaa", sum := "d508175f19dd74715e6904eafd31fe55ae2c81b7607eb0c9188fe7b85e2a98ef", func := "whimbrel/whimbrellaw03.TermMakes", spec := "termMakes", unfollowed := true, recurses := true, loops := true, apart := false, narrowed := true }
def TermMakesUptoSaid : Prop := termMakesUptoRow.holds Try.pinned (OpenSpec.upto termMakesSpec)

/-- 'whimbrellaw30.AnswerValues', WHERE WHAT IT READS IS OF BULK AT MOST 1048576: true; the input reads as it did. -/
def answerValuesUptoRow : OpenClaim := { program := "ytppejoccljfblaa", sum := "d508175f19dd74715e6904eafd31fe55ae2c81b7607eb0c9188fe7b85e2a98ef", func := "whimbrel/whimbrellaw30.AnswerValues", spec := "answerValues", unfollowed := true, recurses := true, loops := true, apart := false, narrowed := true }
def AnswerValuesUptoSaid : Prop := answerValuesUptoRow.holds Try.pinned (OpenSpec.upto answerValuesSpec)

end Rows
end Go.Proofs.Ytppejoccljfblaa
