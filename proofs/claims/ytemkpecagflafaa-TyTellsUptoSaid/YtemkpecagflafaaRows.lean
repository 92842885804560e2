/-
  NARROWER THAN 'FOR EVERY INPUT', by the rows' own cells (each row's printed sentence says how): TyFuns: loops · TermOrder: loops · TyTells: loops · TyScheme: loops · TermTells: loops.
  DERIVED. THE GIVEN ROWS OF THIS SEAT. 12 by the template 'for every input the law returns true; each argument reads behind the call as it read before'; 0 by the template 'total and deterministic' (their statements: YtemkpecagflafaaTotals.lean).
  GIVEN WITH THE SEED: the statements are not yours to turn. If you find one false, say at which input.
  Laid BY PROGRAM, IN A SANDBOX (cutbox-rows.mjs): the forced cells as the released guide's own fill.sh prints them over the translation d34bbe7edbc568eb… (all of the seat's roots in one cut). By AI agents, Wed Nov 11 2026. No macro, syntax, notation, axiom, sorry.
-/
import Derived.Test.YtemkpecagflafaaChecked
import GoSem.Claim
import GoSem.ClaimJoined
import GoSem.ClaimMapViews
import Derived.JoinedTies
import Derived.KernelRfl
namespace Go.Proofs.Ytemkpecagflafaa
/- THE CELL 'sum', in the pinned program and in every row, IS THE sha256 OF THE DUMP (.gsa) THAT YtemkpecagflafaaProg.lean LOADS. Nothing in Lean hashes anything: it is a label: what it is worth is what the hold of that sum in a sandbox is worth. -/
noncomputable def Try.pinned : Pinned := { name := "ytemkpecagflafaa", sum := "d34bbe7edbc568eb8fe8058307cf1ccd0926e8de443b23078d9a45969e220054", checked := Try.checked }
namespace Rows
def none {H : Type} : Left H := { results := [], args := [] }

/-- 'whimbrellaw27.QueueEnds': WHATEVER THE INPUT: true; the input reads as it did. -/
def queueEndsSpec : ChangeSpec := { name := "queueEnds", fn := fun _ => fun
  | [d1, d2, d3] => { results := [.lit (.bool true)], args := [d1, d2, d3] }
  | _ => none }
def queueEndsRow : OpenClaim := { program := "ytemkpecagflafaa", sum := "d34bbe7edbc568eb8fe8058307cf1ccd0926e8de443b23078d9a45969e220054", func := "whimbrel/whimbrellaw27.QueueEnds", spec := "queueEnds", unfollowed := true, recurses := true, apart := false }
def QueueEndsSaid : Prop := queueEndsRow.holds Try.pinned (OpenSpec.ofChange queueEndsSpec)

/-- ITS FALSE NEIGHBOUR: 'it returns false'. Refute it at one input. -/
def queueEndsWrong : ChangeSpec := { name := "queueEnds", fn := fun _ => fun
  | [d1, d2, d3] => { results := [.lit (.bool false)], args := [d1, d2, d3] }
  | _ => none }
def QueueEndsWrongFalsely : Prop := queueEndsRow.holds Try.pinned (OpenSpec.ofChange queueEndsWrong)

/-- 'whimbrellaw27.QueueDoes': WHATEVER THE INPUT: true; the input reads as it did. -/
def queueDoesSpec : ChangeSpec := { name := "queueDoes", fn := fun _ => fun
  | [d1, d2, d3] => { results := [.lit (.bool true)], args := [d1, d2, d3] }
  | _ => none }
def queueDoesRow : OpenClaim := { program := "ytemkpecagflafaa", sum := "d34bbe7edbc568eb8fe8058307cf1ccd0926e8de443b23078d9a45969e220054", func := "whimbrel/whimbrellaw27.QueueDoes", spec := "queueDoes", unfollowed := true, recurses := true, apart := false }
def QueueDoesSaid : Prop := queueDoesRow.holds Try.pinned (OpenSpec.ofChange queueDoesSpec)

/-- ITS FALSE NEIGHBOUR: 'it returns false'. Refute it at one input. -/
def queueDoesWrong : ChangeSpec := { name := "queueDoes", fn := fun _ => fun
  | [d1, d2, d3] => { results := [.lit (.bool false)], args := [d1, d2, d3] }
  | _ => none }
def QueueDoesWrongFalsely : Prop := queueDoesRow.holds Try.pinned (OpenSpec.ofChange queueDoesWrong)

/-- 'whimbrellaw27.QueueTurns': WHATEVER THE INPUT: true; the input reads as it did. -/
def queueTurnsSpec : ChangeSpec := { name := "queueTurns", fn := fun _ => fun
  | [d1, d2] => { results := [.lit (.bool true)], args := [d1, d2] }
  | _ => none }
def queueTurnsRow : OpenClaim := { program := "ytemkpecagflafaa", sum := "d34bbe7edbc568eb8fe8058307cf1ccd0926e8de443b23078d9a45969e220054", func := "whimbrel/whimbrellaw27.QueueTurns", spec := "queueTurns", unfollowed := true, recurses := true, apart := false }
def QueueTurnsSaid : Prop := queueTurnsRow.holds Try.pinned (OpenSpec.ofChange queueTurnsSpec)

/-- ITS FALSE NEIGHBOUR: 'it returns false'. Refute it at one input. -/
def queueTurnsWrong : ChangeSpec := { name := "queueTurns", fn := fun _ => fun
  | [d1, d2] => { results := [.lit (.bool false)], args := [d1, d2] }
  | _ => none }
def QueueTurnsWrongFalsely : Prop := queueTurnsRow.holds Try.pinned (OpenSpec.ofChange queueTurnsWrong)

/-- 'whimbrellaw01.CharsDigits': WHATEVER THE INPUT: true; the input reads as it did. -/
def charsDigitsSpec : ChangeSpec := { name := "charsDigits", fn := fun _ => fun
  | [d1, d2] => { results := [.lit (.bool true)], args := [d1, d2] }
  | _ => none }
def charsDigitsRow : OpenClaim := { program := "ytemkpecagflafaa", sum := "d34bbe7edbc568eb8fe8058307cf1ccd0926e8de443b23078d9a45969e220054", func := "whimbrel/whimbrellaw01.CharsDigits", spec := "charsDigits", apart := false }
def CharsDigitsSaid : Prop := charsDigitsRow.holds Try.pinned (OpenSpec.ofChange charsDigitsSpec)

/-- ITS FALSE NEIGHBOUR: 'it returns false'. Refute it at one input. -/
def charsDigitsWrong : ChangeSpec := { name := "charsDigits", fn := fun _ => fun
  | [d1, d2] => { results := [.lit (.bool false)], args := [d1, d2] }
  | _ => none }
def CharsDigitsWrongFalsely : Prop := charsDigitsRow.holds Try.pinned (OpenSpec.ofChange charsDigitsWrong)

/-- 'whimbrellaw01.CharsMore': WHATEVER THE INPUT: true; the input reads as it did. -/
def charsMoreSpec : ChangeSpec := { name := "charsMore", fn := fun _ => fun
  | [d1, d2] => { results := [.lit (.bool true)], args := [d1, d2] }
  | _ => none }
def charsMoreRow : OpenClaim := { program := "ytemkpecagflafaa", sum := "d34bbe7edbc568eb8fe8058307cf1ccd0926e8de443b23078d9a45969e220054", func := "whimbrel/whimbrellaw01.CharsMore", spec := "charsMore", apart := false }
def CharsMoreSaid : Prop := charsMoreRow.holds Try.pinned (OpenSpec.ofChange charsMoreSpec)

/-- ITS FALSE NEIGHBOUR: 'it returns false'. Refute it at one input. -/
def charsMoreWrong : ChangeSpec := { name := "charsMore", fn := fun _ => fun
  | [d1, d2] => { results := [.lit (.bool false)], args := [d1, d2] }
  | _ => none }
def CharsMoreWrongFalsely : Prop := charsMoreRow.holds Try.pinned (OpenSpec.ofChange charsMoreWrong)

/-- 'whimbrellaw01.CharsTells': WHATEVER THE INPUT: true; the input reads as it did. -/
def charsTellsSpec : ChangeSpec := { name := "charsTells", fn := fun _ => fun
  | [d1, d2] => { results := [.lit (.bool true)], args := [d1, d2] }
  | _ => none }
def charsTellsRow : OpenClaim := { program := "ytemkpecagflafaa", sum := "d34bbe7edbc568eb8fe8058307cf1ccd0926e8de443b23078d9a45969e220054", func := "whimbrel/whimbrellaw01.CharsTells", spec := "charsTells", apart := false }
def CharsTellsSaid : Prop := charsTellsRow.holds Try.pinned (OpenSpec.ofChange charsTellsSpec)

/-- ITS FALSE NEIGHBOUR: 'it returns false'. Refute it at one input. -/
def charsTellsWrong : ChangeSpec := { name := "charsTells", fn := fun _ => fun
  | [d1, d2] => { results := [.lit (.bool false)], args := [d1, d2] }
  | _ => none }
def CharsTellsWrongFalsely : Prop := charsTellsRow.holds Try.pinned (OpenSpec.ofChange charsTellsWrong)

/-- 'whimbrellaw11.TyFuns': WHATEVER THE INPUT: true; the input reads as it did. -/
def tyFunsSpec : ChangeSpec := { name := "tyFuns", fn := fun _ => fun
  | [d1, d2, d3, d4, d5] => { results := [.lit (.bool true)], args := [d1, d2, d3, d4, d5] }
  | _ => none }
def tyFunsRow : OpenClaim := { program := "ytemkpecagflafaa", sum := "d34bbe7edbc568eb8fe8058307cf1ccd0926e8de443b23078d9a45969e220054", func := "whimbrel/whimbrellaw11.TyFuns", spec := "tyFuns", unfollowed := true, recurses := true, loops := true, apart := false }
def TyFunsSaid : Prop := tyFunsRow.holds Try.pinned (OpenSpec.ofChange tyFunsSpec)

/-- ITS FALSE NEIGHBOUR: 'it returns false'. Refute it at one input. -/
def tyFunsWrong : ChangeSpec := { name := "tyFuns", fn := fun _ => fun
  | [d1, d2, d3, d4, d5] => { results := [.lit (.bool false)], args := [d1, d2, d3, d4, d5] }
  | _ => none }
def TyFunsWrongFalsely : Prop := tyFunsRow.holds Try.pinned (OpenSpec.ofChange tyFunsWrong)

/-- 'whimbrellaw03.TermOrder': WHATEVER THE INPUT: true; the input reads as it did. -/
def termOrderSpec : ChangeSpec := { name := "termOrder", fn := fun _ => fun
  | [d1, d2, d3] => { results := [.lit (.bool true)], args := [d1, d2, d3] }
  | _ => none }
def termOrderRow : OpenClaim := { program := "ytemkpecagflafaa", sum := "d34bbe7edbc568eb8fe8058307cf1ccd0926e8de443b23078d9a45969e220054", func := "whimbrel/whimbrellaw03.TermOrder", spec := "termOrder", unfollowed := true, recurses := true, loops := true, apart := false }
def TermOrderSaid : Prop := termOrderRow.holds Try.pinned (OpenSpec.ofChange termOrderSpec)

/-- ITS FALSE NEIGHBOUR: 'it returns false'. Refute it at one input. -/
def termOrderWrong : ChangeSpec := { name := "termOrder", fn := fun _ => fun
  | [d1, d2, d3] => { results := [.lit (.bool false)], args := [d1, d2, d3] }
  | _ => none }
def TermOrderWrongFalsely : Prop := termOrderRow.holds Try.pinned (OpenSpec.ofChange termOrderWrong)

/-- 'whimbrellaw11.TyTells': WHATEVER THE INPUT: true; the input reads as it did. -/
def tyTellsSpec : ChangeSpec := { name := "tyTells", fn := fun _ => fun
  | [d1, d2, d3] => { results := [.lit (.bool true)], args := [d1, d2, d3] }
  | _ => none }
def tyTellsRow : OpenClaim := { program := "ytemkpecagflafaa", sum := "d34bbe7edbc568eb8fe8058307cf1ccd0926e8de443b23078d9a45969e220054", func := "whimbrel/whimbrellaw11.TyTells", spec := "tyTells", unfollowed := true, recurses := true, loops := true, apart := false }
def TyTellsSaid : Prop := tyTellsRow.holds Try.pinned (OpenSpec.ofChange tyTellsSpec)

/-- ITS FALSE NEIGHBOUR: 'it returns false'. Refute it at one input. -/
def tyTellsWrong : ChangeSpec := { name := "tyTells", fn := fun _ => fun
  | [d1, d2, d3] => { results := [.lit (.bool false)], args := [d1, d2, d3] }
  | _ => none }
def TyTellsWrongFalsely : Prop := tyTellsRow.holds Try.pinned (OpenSpec.ofChange tyTellsWrong)

/-- 'whimbrellaw11.TyScheme': WHATEVER THE INPUT: true; the input reads as it did. -/
def tySchemeSpec : ChangeSpec := { name := "tyScheme", fn := fun _ => fun
  | [d] => { results := [.lit (.bool true)], args := [d] }
  | _ => none }
def tySchemeRow : OpenClaim := { program := "ytemkpecagflafaa", sum := "d34bbe7edbc568eb8fe8058307cf1ccd0926e8de443b23078d9a45969e220054", func := "whimbrel/whimbrellaw11.TyScheme", spec := "tyScheme", unfollowed := true, recurses := true, loops := true, apart := false }
def TySchemeSaid : Prop := tySchemeRow.holds Try.pinned (OpenSpec.ofChange tySchemeSpec)

/-- ITS FALSE NEIGHBOUR: 'it returns false'. Refute it at one input. -/
def tySchemeWrong : ChangeSpec := { name := "tyScheme", fn := fun _ => fun
  | [d] => { results := [.lit (.bool false)], args := [d] }
  | _ => none }
def TySchemeWrongFalsely : Prop := tySchemeRow.holds Try.pinned (OpenSpec.ofChange tySchemeWrong)

/-- 'whimbrellaw03.TermTells': WHATEVER THE INPUT: true; the input reads as it did. -/
def termTellsSpec : ChangeSpec := { name := "termTells", fn := fun _ => fun
  | [d1, d2, d3] => { results := [.lit (.bool true)], args := [d1, d2, d3] }
  | _ => none }
def termTellsRow : OpenClaim := { program := "ytemkpecagflafaa", sum := "d34bbe7edbc568eb8fe8058307cf1ccd0926e8de443b23078d9a45969e220054", func := "whimbrel/whimbrellaw03.TermTells", spec := "termTells", unfollowed := true, recurses := true, loops := true, apart := false }
def TermTellsSaid : Prop := termTellsRow.holds Try.pinned (OpenSpec.ofChange termTellsSpec)

/-- ITS FALSE NEIGHBOUR: 'it returns false'. Refute it at one input. -/
def termTellsWrong : ChangeSpec := { name := "termTells", fn := fun _ => fun
  | [d1, d2, d3] => { results := [.lit (.bool false)], args := [d1, d2, d3] }
  | _ => none }
def TermTellsWrongFalsely : Prop := termTellsRow.holds Try.pinned (OpenSpec.ofChange termTellsWrong)

/-- 'whimbrellaw37.ScriptCuts': WHATEVER THE INPUT: true; the input reads as it did. -/
def scriptCutsSpec : ChangeSpec := { name := "scriptCuts", fn := fun _ => fun
  | [d1, d2] => { results := [.lit (.bool true)], args := [d1, d2] }
  | _ => none }
def scriptCutsRow : OpenClaim := { program := "ytemkpecagflafaa", sum := "d34bbe7edbc568eb8fe8058307cf1ccd0926e8de443b23078d9a45969e220054", func := "whimbrel/whimbrellaw37.ScriptCuts", spec := "scriptCuts", inPlace := ["internal/abi.NoEscape", "internal/bytealg.MakeNoZero"], unfollowed := true, recurses := true, apart := false }
def ScriptCutsSaid : Prop := scriptCutsRow.holds Try.pinned (OpenSpec.ofChange scriptCutsSpec)

/-- ITS FALSE NEIGHBOUR: 'it returns false'. Refute it at one input. -/
def scriptCutsWrong : ChangeSpec := { name := "scriptCuts", fn := fun _ => fun
  | [d1, d2] => { results := [.lit (.bool false)], args := [d1, d2] }
  | _ => none }
def ScriptCutsWrongFalsely : Prop := scriptCutsRow.holds Try.pinned (OpenSpec.ofChange scriptCutsWrong)

/- THE SECOND FORM. 'bulk': how many values and letters a reading holds, each counted each time it is reached (what is shared counts as often as it is met; a slice's spare places count too). A statement '..UptoSaid' is the law's where the arguments, and the package variables that the reading takes, are together of bulk at most 1048576: NARROWER than '..Said'. Prove '..Said' where nothing that the law and all that it calls make is longer than what came in: it says more and counts as full. Else prove '..UptoSaid'. A law counts once. -/
mutual
def uptoBulk {H : Type} : DataW H → Nat
  | .lit (.string bytes) => bytes.length + 1
  | .lit _ => 1
  | .nil => 1
  | .ptr d => uptoBulk d + 1
  | .slice elems spare => uptoBulkAll elems + uptoBulkAll spare + 1
  | .agg parts => uptoBulkAll parts + 1
  | .iface _ d => uptoBulk d + 1
  | .map entries => uptoBulkEntries entries + 1
  | .held _ => 1
def uptoBulkAll {H : Type} : List (DataW H) → Nat
  | [] => 0
  | d :: r => uptoBulk d + uptoBulkAll r
def uptoBulkEntries {H : Type} : List (Lit × DataW H) → Nat
  | [] => 0
  | x :: r => uptoBulkEntry x + uptoBulkEntries r
def uptoBulkEntry {H : Type} : Lit × DataW H → Nat
  | (.string bytes, d) => bytes.length + uptoBulk d + 1
  | (_, d) => uptoBulk d + 1
 end
def uptoSmall : (H : Type) → List (DataW H) → Bool := fun _ ds => decide (uptoBulkAll ds ≤ 1048576)
def OpenSpec.upto (s : _root_.Go.ChangeSpec) : _root_.Go.OpenSpec := { _root_.Go.OpenSpec.ofChange s with cond := some uptoSmall }

/-- 'whimbrellaw27.QueueEnds', WHERE WHAT IT READS IS OF BULK AT MOST 1048576: true; the input reads as it did. -/
def queueEndsUptoRow : OpenClaim := { program := "ytemkpecagflafaa", sum := "d34bbe7edbc568eb8fe8058307cf1ccd0926e8de443b23078d9a45969e220054", func := "whimbrel/whimbrellaw27.QueueEnds", spec := "queueEnds", unfollowed := true, recurses := true, apart := false, narrowed := true }
def QueueEndsUptoSaid : Prop := queueEndsUptoRow.holds Try.pinned (OpenSpec.upto queueEndsSpec)

/-- 'whimbrellaw27.QueueDoes', WHERE WHAT IT READS IS OF BULK AT MOST 1048576: true; the input reads as it did. -/
def queueDoesUptoRow : OpenClaim := { program := "ytemkpecagflafaa", sum := "d34bbe7edbc568eb8fe8058307cf1ccd0926e8de443b23078d9a45969e220054", func := "whimbrel/whimbrellaw27.QueueDoes", spec := "queueDoes", unfollowed := true, recurses := true, apart := false, narrowed := true }
def QueueDoesUptoSaid : Prop := queueDoesUptoRow.holds Try.pinned (OpenSpec.upto queueDoesSpec)

/-- 'whimbrellaw27.QueueTurns', WHERE WHAT IT READS IS OF BULK AT MOST 1048576: true; the input reads as it did. -/
def queueTurnsUptoRow : OpenClaim := { program := "ytemkpecagflafaa", sum := "d34bbe7edbc568eb8fe8058307cf1ccd0926e8de443b23078d9a45969e220054", func := "whimbrel/whimbrellaw27.QueueTurns", spec := "queueTurns", unfollowed := true, recurses := true, apart := false, narrowed := true }
def QueueTurnsUptoSaid : Prop := queueTurnsUptoRow.holds Try.pinned (OpenSpec.upto queueTurnsSpec)

/-- 'whimbrellaw01.CharsDigits', WHERE WHAT IT READS IS OF BULK AT MOST 1048576: true; the input reads as it did. -/
def charsDigitsUptoRow : OpenClaim := { program := "ytemkpecagflafaa", sum := "d34bbe7edbc568eb8fe8058307cf1ccd0926e8de443b23078d9a45969e220054", func := "whimbrel/whimbrellaw01.CharsDigits", spec := "charsDigits", apart := false, narrowed := true }
def CharsDigitsUptoSaid : Prop := charsDigitsUptoRow.holds Try.pinned (OpenSpec.upto charsDigitsSpec)

/-- 'whimbrellaw01.CharsMore', WHERE WHAT IT READS IS OF BULK AT MOST 1048576: true; the input reads as it did. -/
def charsMoreUptoRow : OpenClaim := { program := "ytemkpecagflafaa", sum := "d34bbe7edbc568eb8fe8058307cf1ccd0926e8de443b23078d9a45969e220054", func := "whimbrel/whimbrellaw01.CharsMore", spec := "charsMore", apart := false, narrowed := true }
def CharsMoreUptoSaid : Prop := charsMoreUptoRow.holds Try.pinned (OpenSpec.upto charsMoreSpec)

/-- 'whimbrellaw01.CharsTells', WHERE WHAT IT READS IS OF BULK AT MOST 1048576: true; the input reads as it did. -/
def charsTellsUptoRow : OpenClaim := { program := "ytemkpecagflafaa", sum := "d34bbe7edbc568eb8fe8058307cf1ccd0926e8de443b23078d9a45969e220054", func := "whimbrel/whimbrellaw01.CharsTells", spec := "charsTells", apart := false, narrowed := true }
def CharsTellsUptoSaid : Prop := charsTellsUptoRow.holds Try.pinned (OpenSpec.upto charsTellsSpec)

/-- 'whimbrellaw11.TyFuns', WHERE WHAT IT READS IS OF BULK AT MOST 1048576: true; the input reads as it did. -/
def tyFunsUptoRow : OpenClaim := { program := "ytemkpecagflafaa", sum := "d34bbe7edbc568eb8fe8058307cf1ccd0926e8de443b23078d9a45969e220054", func := "whimbrel/whimbrellaw11.TyFuns", spec := "tyFuns", unfollowed := true, recurses := true, loops := true, apart := false, narrowed := true }
def TyFunsUptoSaid : Prop := tyFunsUptoRow.holds Try.pinned (OpenSpec.upto tyFunsSpec)

/-- 'whimbrellaw03.TermOrder', WHERE WHAT IT READS IS OF BULK AT MOST 1048576: true; the input reads as it did. -/
def termOrderUptoRow : OpenClaim := { program := "ytemkpecagflafaa", sum := "d34bbe7edbc568eb8fe8058307cf1ccd0926e8de443b23078d9a45969e220054", func := "whimbrel/whimbrellaw03.TermOrder", spec := "termOrder", unfollowed := true, recurses := true, loops := true, apart := false, narrowed := true }
def TermOrderUptoSaid : Prop := termOrderUptoRow.holds Try.pinned (OpenSpec.upto termOrderSpec)

/-- 'whimbrellaw11.TyTells', WHERE WHAT IT READS IS OF BULK AT MOST 1048576: true; the input reads as it did. -/
def tyTellsUptoRow : OpenClaim := { program := "ytemkpecagflafaa", sum := "d34bbe7edbc568eb8fe8058307cf1ccd0926e8de443b23078d9a45969e220054", func := "whimbrel/whimbrellaw11.TyTells", spec := "tyTells", unfollowed := true, recurses := true, loops := true, apart := false, narrowed := true }
def TyTellsUptoSaid : Prop := tyTellsUptoRow.holds Try.pinned (OpenSpec.upto tyTellsSpec)

/-- 'whimbrellaw11.TyScheme', WHERE WHAT IT READS IS OF BULK AT MOST 1048576: true; the input reads as it did. -/
def tySchemeUptoRow : OpenClaim := { program := "ytemkpecagflafaa", sum := "d34bbe7edbc568eb8fe8058307cf1ccd0926e8de443b23078d9a45969e220054", func := "whimbrel/whimbrellaw11.TyScheme", spec := "tyScheme", unfollowed := true, recurses := true, loops := true, apart := false, narrowed := true }
def TySchemeUptoSaid : Prop := tySchemeUptoRow.holds Try.pinned (OpenSpec.upto tySchemeSpec)

/-- 'whimbrellaw03.TermTells', WHERE WHAT IT READS IS OF BULK AT MOST 1048576: true; the input reads as it did. -/
def termTellsUptoRow : OpenClaim := { program := "ytemkpecagflafaa", sum := "d34bbe7edbc568eb8fe8058307cf1ccd0926e8de443b23078d9a45969e220054", func := "whimbrel/whimbrellaw03.TermTells", spec := "termTells", unfollowed := true, recurses := true, loops := true, apart := false, narrowed := true }
def TermTellsUptoSaid : Prop := termTellsUptoRow.holds Try.pinned (OpenSpec.upto termTellsSpec)

/-- 'whimbrellaw37.ScriptCuts', WHERE WHAT IT READS IS OF BULK AT MOST 1048576: true; the input reads as it did. -/
def scriptCutsUptoRow : OpenClaim := { program := "ytemkpecagflafaa", sum := "d34bbe7edbc568eb8fe8058307cf1ccd0926e8de443b23078d9a45969e220054", func := "whimbrel/whimbrellaw37.ScriptCuts", spec := "scriptCuts", inPlace := ["internal/abi.NoEscape", "internal/bytealg.MakeNoZero"], unfollowed := true, recurses := true, apart := false, narrowed := true }
def ScriptCutsUptoSaid : Prop := scriptCutsUptoRow.holds Try.pinned (OpenSpec.upto scriptCutsSpec)

end Rows
end Go.Proofs.Ytemkpecagflafaa
