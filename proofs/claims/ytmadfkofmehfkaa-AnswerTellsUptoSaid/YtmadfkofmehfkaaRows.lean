/-
  NARROWER THAN 'FOR EVERY INPUT', by the rows' own cells (each row's printed sentence says how): SubstOrder: loops · SubstBack: loops · AnswerCovers: loops · AnswerTells: loops.
  DERIVED. THE GIVEN ROWS OF THIS SEAT. 4 by the template 'for every input the law returns true; each argument reads behind the call as it read before'; 0 by the template 'total and deterministic' (their statements: YtmadfkofmehfkaaTotals.lean).
  GIVEN WITH THE SEED: the statements are not yours to turn. If you find one false, say at which input.
  Laid BY PROGRAM, IN A SANDBOX (cutbox-rows.mjs): the forced cells as the released guide's own fill.sh prints them over the translation c4e742af5eb995d4… (all of the seat's roots in one cut). By AI agents, Wed Nov 11 2026. No macro, syntax, notation, axiom, sorry.
-/
import Derived.Test.YtmadfkofmehfkaaChecked
import GoSem.Claim
import GoSem.ClaimJoined
import GoSem.ClaimMapViews
import Derived.JoinedTies
import Derived.KernelRfl
namespace Go.Proofs.Ytmadfkofmehfkaa
/- THE CELL 'sum', in the pinned program and in every row, IS THE sha256 OF THE DUMP (.gsa) THAT YtmadfkofmehfkaaProg.lean LOADS. Nothing in Lean hashes anything: it is a label: what it is worth is what the hold of that sum in a sandbox is worth. -/
noncomputable def Try.pinned : Pinned := { name := "ytmadfkofmehfkaa", sum := "c4e742af5eb995d488e94c94fe2af5a500e20bdcb0a61810dcc05fe7dccd5039", checked := Try.checked }
namespace Rows
def none {H : Type} : Left H := { results := [], args := [] }

/-- 'whimbrellaw04.SubstOrder': WHATEVER THE INPUT: true; the input reads as it did. -/
def substOrderSpec : ChangeSpec := { name := "substOrder", fn := fun _ => fun
  | [d1, d2, d3] => { results := [.lit (.bool true)], args := [d1, d2, d3] }
  | _ => none }
def substOrderRow : OpenClaim := { program := "ytmadfkofmehfkaa", sum := "c4e742af5eb995d488e94c94fe2af5a500e20bdcb0a61810dcc05fe7dccd5039", func := "whimbrel/whimbrellaw04.SubstOrder", spec := "substOrder", unfollowed := true, recurses := true, loops := true, apart := false }
def SubstOrderSaid : Prop := substOrderRow.holds Try.pinned (OpenSpec.ofChange substOrderSpec)

/-- ITS FALSE NEIGHBOUR: 'it returns false'. Refute it at one input. -/
def substOrderWrong : ChangeSpec := { name := "substOrder", fn := fun _ => fun
  | [d1, d2, d3] => { results := [.lit (.bool false)], args := [d1, d2, d3] }
  | _ => none }
def SubstOrderWrongFalsely : Prop := substOrderRow.holds Try.pinned (OpenSpec.ofChange substOrderWrong)

/-- 'whimbrellaw04.SubstBack': WHATEVER THE INPUT: true; the input reads as it did. -/
def substBackSpec : ChangeSpec := { name := "substBack", fn := fun _ => fun
  | [d1, d2, d3] => { results := [.lit (.bool true)], args := [d1, d2, d3] }
  | _ => none }
def substBackRow : OpenClaim := { program := "ytmadfkofmehfkaa", sum := "c4e742af5eb995d488e94c94fe2af5a500e20bdcb0a61810dcc05fe7dccd5039", func := "whimbrel/whimbrellaw04.SubstBack", spec := "substBack", unfollowed := true, recurses := true, loops := true, apart := false }
def SubstBackSaid : Prop := substBackRow.holds Try.pinned (OpenSpec.ofChange substBackSpec)

/-- ITS FALSE NEIGHBOUR: 'it returns false'. Refute it at one input. -/
def substBackWrong : ChangeSpec := { name := "substBack", fn := fun _ => fun
  | [d1, d2, d3] => { results := [.lit (.bool false)], args := [d1, d2, d3] }
  | _ => none }
def SubstBackWrongFalsely : Prop := substBackRow.holds Try.pinned (OpenSpec.ofChange substBackWrong)

/-- 'whimbrellaw30.AnswerCovers': WHATEVER THE INPUT: true; the input reads as it did. -/
def answerCoversSpec : ChangeSpec := { name := "answerCovers", fn := fun _ => fun
  | [d1, d2, d3] => { results := [.lit (.bool true)], args := [d1, d2, d3] }
  | _ => none }
def answerCoversRow : OpenClaim := { program := "ytmadfkofmehfkaa", sum := "c4e742af5eb995d488e94c94fe2af5a500e20bdcb0a61810dcc05fe7dccd5039", func := "whimbrel/whimbrellaw30.AnswerCovers", spec := "answerCovers", unfollowed := true, recurses := true, loops := true, apart := false }
def AnswerCoversSaid : Prop := answerCoversRow.holds Try.pinned (OpenSpec.ofChange answerCoversSpec)

/-- ITS FALSE NEIGHBOUR: 'it returns false'. Refute it at one input. -/
def answerCoversWrong : ChangeSpec := { name := "answerCovers", fn := fun _ => fun
  | [d1, d2, d3] => { results := [.lit (.bool false)], args := [d1, d2, d3] }
  | _ => none }
def AnswerCoversWrongFalsely : Prop := answerCoversRow.holds Try.pinned (OpenSpec.ofChange answerCoversWrong)

/-- 'whimbrellaw30.AnswerTells': WHATEVER THE INPUT: true; the input reads as it did. -/
def answerTellsSpec : ChangeSpec := { name := "answerTells", fn := fun _ => fun
  | [d1, d2, d3] => { results := [.lit (.bool true)], args := [d1, d2, d3] }
  | _ => none }
def answerTellsRow : OpenClaim := { program := "ytmadfkofmehfkaa", sum := "c4e742af5eb995d488e94c94fe2af5a500e20bdcb0a61810dcc05fe7dccd5039", func := "whimbrel/whimbrellaw30.AnswerTells", spec := "answerTells", unfollowed := true, recurses := true, loops := true, apart := false }
def AnswerTellsSaid : Prop := answerTellsRow.holds Try.pinned (OpenSpec.ofChange answerTellsSpec)

/-- ITS FALSE NEIGHBOUR: 'it returns false'. Refute it at one input. -/
def answerTellsWrong : ChangeSpec := { name := "answerTells", fn := fun _ => fun
  | [d1, d2, d3] => { results := [.lit (.bool false)], args := [d1, d2, d3] }
  | _ => none }
def AnswerTellsWrongFalsely : Prop := answerTellsRow.holds Try.pinned (OpenSpec.ofChange answerTellsWrong)

/- THE SECOND FORM. 'bulk': how many values and letters a reading holds, each counted each time it is reached (what is shared counts as often as it is met; a slice's spare places count too). A statement '..UptoSaid' is the law's where the arguments, and the package variables that the reading takes, are together of bulk at most 1048576: NARROWER than '..Said'. Prove '..Said' where nothing that the law and all that it calls make is longer than what came in: it says more and counts as full. Else prove '..UptoSaid'. A law counts once. -/
mutual
def uptoBulk {H : Type} : DataW H → Nat
  | .lit (.string bytes) => bytes.length + 1
  | .lit _ => 1
  | .nil => 1
  | .ptr d => uptoBulk d + 1
  | .slice elems spare => uptoBulkAll elems + uptoBulkAll spare + 1
  | .agg parts => uptoBulkAll parts + 1
  | .iface _ d => uptoBulk d + 1
  | .map entries => uptoBulkEntries entries + 1
  | .held _ => 1
def uptoBulkAll {H : Type} : List (DataW H) → Nat
  | [] => 0
  | d :: r => uptoBulk d + uptoBulkAll r
def uptoBulkEntries {H : Type} : List (Lit × DataW H) → Nat
  | [] => 0
  | x :: r => uptoBulkEntry x + uptoBulkEntries r
def uptoBulkEntry {H : Type} : Lit × DataW H → Nat
  | (.string bytes, d) => bytes.length + uptoBulk d + 1
  | (_, d) => uptoBulk d + 1
 end
def uptoSmall : (H : Type) → List (DataW H) → Bool := fun _ ds => decide (uptoBulkAll ds ≤ 1048576)
def OpenSpec.upto (s : _root_.Go.ChangeSpec) : _root_.Go.OpenSpec := { _root_.Go.OpenSpec.ofChange s with cond := some uptoSmall }

/-- 'whimbrellaw04.SubstOrder', WHERE WHAT IT READS IS OF BULK AT MOST 1048576: true; the input reads as it did. -/
def substOrderUptoRow : OpenClaim := { program := "ytmadfkofmehfkaa", sum := "c4e742af5eb995d488e94c94fe2af5a500e20bdcb0a61810dcc05fe7dccd5039", func := "whimbrel/whimbrellaw04.SubstOrder", spec := "substOrder", unfollowed := true, recurses := true, loops := true, apart := false, narrowed := true }
def SubstOrderUptoSaid : Prop := substOrderUptoRow.holds Try.pinned (OpenSpec.upto substOrderSpec)

/-- 'whimbrellaw04.SubstBack', WHERE WHAT IT READS IS OF BULK AT MOST 1048576: true; the input reads as it did. -/
def substBackUptoRow : OpenClaim := { program := "ytmadfkofmehfkaa", sum := "c4e742af5eb995d488e94c94fe2af5a500e20bdcb0a61810dcc05fe7dccd5039", func := "whimbrel/whimbrellaw04.SubstBack", spec := "substBack", unfollowed := true, recurses := true, loops := true, apart := false, narrowed := true }
def SubstBackUptoSaid : Prop := substBackUptoRow.holds Try.pinned (OpenSpec.upto substBackSpec)

/-- 'whimbrellaw30.AnswerCovers', WHERE WHAT IT READS IS OF BULK AT MOST 1048576: true; the input reads as it did. -/
def answerCoversUptoRow : OpenClaim := { program := "ytmadfkofmehfkaa", sum := "c4e742af5eb995d488e94c94fe2af5a500e20bdcb0a61810dcc05fe7dccd5039", func := "whimbrel/whimbrellaw30.AnswerCovers", spec := "answerCovers", unfollowed := true, recurses := true, loops := true, apart := false, narrowed := true }
def AnswerCoversUptoSaid : Prop := answerCoversUptoRow.holds Try.pinned (OpenSpec.upto answerCoversSpec)

/-- 'whimbrellaw30.AnswerTells', WHERE WHAT IT READS IS OF BULK AT MOST 1048576: true; the input reads as it did. -/
def answerTellsUptoRow : OpenClaim := { program := "ytmadfkofmehfkaa", sum := "c4e742af5eb995d488e94c94fe2af5a500e20bdcb0a61810dcc05fe7dccd5039", func := "whimbrel/whimbrellaw30.AnswerTells", spec := "answerTells", unfollowed := true, recurses := true, loops := true, apart := false, narrowed := true }
def AnswerTellsUptoSaid : Prop := answerTellsUptoRow.holds Try.pinned (OpenSpec.upto answerTellsSpec)

end Rows
end Go.Proofs.Ytmadfkofmehfkaa
