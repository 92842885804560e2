/-
  The module reader's part: an expression or a pattern, by the parser. No condition but how the reader and the tokens lie.
-/
import Derived.Test.YtcoiagfeoonpbaaSe31
import Derived.Test.YtcoiagfeoonpbaaSe18
import Derived.Test.YtcoiagfeoonpbaaSe20
import Derived.StillTailTactics
namespace Go.Proofs.Ytcoiagfeoonpbaa
open Go.RowKit
theorem RS.fault {ts : List Tk} {aL : Option Addr} {n cap q : Nat} {s : MS} {d l c : Int} {w : World} (h : RS ts aL n cap q s d w) : RS ts aL n cap q ⟨s.i, some (l, c)⟩ d (((w.setCell ⟨q, 3, none⟩ (.int .i64 1)).setCell ⟨q, 4, none⟩ (.int .i64 l)).setCell ⟨q, 5, none⟩ (.int .i64 c)) :=
  h.of ((FarQ.set _ _ _).trans ((FarQ.set _ _ _).trans (FarQ.set _ _ _))) (((h.bo.set 3 _).set 4 _).set 5 _)
end Go.Proofs.Ytcoiagfeoonpbaa

/-
  The module reader's part, the good texts. No condition but how the reader and the tokens lie.
-/
namespace Go.Proofs.Ytcoiagfeoonpbaa
open Go.RowKit
section
variable {ts : List Tk} {aL : Option Addr} {n cap q : Nat}
end
end Go.Proofs.Ytcoiagfeoonpbaa

/-
  The module reader's part, the faulty texts. No condition but how the reader and the tokens lie.
-/
namespace Go.Proofs.Ytcoiagfeoonpbaa
open Go.RowKit
section
variable {ts : List Tk} {aL : Option Addr} {n cap q : Nat}
end
end Go.Proofs.Ytcoiagfeoonpbaa

/-
  The module reader's part, whole. No condition but how the reader and the tokens lie.
-/
namespace Go.Proofs.Ytcoiagfeoonpbaa
open Go.RowKit
section
variable {ts : List Tk} {aL : Option Addr} {n cap q : Nat}
end
end Go.Proofs.Ytcoiagfeoonpbaa
