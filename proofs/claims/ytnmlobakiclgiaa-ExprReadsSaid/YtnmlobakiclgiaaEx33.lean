/-
  The document's reader's Pat, for any fuel. No condition but how the tokens lie.
-/
import Derived.Test.YtnmlobakiclgiaaEx32
namespace Go.Proofs.Ytnmlobakiclgiaa
open Go.RowKit
theorem allRP (ts : List Tk) (aL : Option Addr) (n cap : Nat) : ∀ F g, g ≤ F → ReadsR ts aL n cap 15 .pat g
  | 0, g, h => by
    obtain rfl : g = 0 := by omega
    exact fun i deep r a0 b0 w _ _ _ hr => by rw [readE] at hr; cases hr
  | F + 1, g, h => by
    by_cases e : g = F + 1
    · subst e
      exact fun i deep r a0 b0 w hd hm hn hr => patR_succ hr w hd hm hn fun g hg => allRP ts aL n cap F g hg
    · exact allRP ts aL n cap F g (by omega)
end Go.Proofs.Ytnmlobakiclgiaa
