/-
  An argument that is a graph (a slice of slices of numbers), as the walks want it. No condition.
-/
import Derived.Test.YtlhkkkmjoobpcaaOpenRows
import Derived.Test.YtlhkkkmjoobpcaaGraph
namespace Go.Proofs.Ytlhkkkmjoobpcaa
open Go.ChangeShapes Go.WideShapes Go.ChangeAt Go.RowKit

section
variable {H : Type} {enc : TypeId × Value → H} {P : Program} {W : World} {r : Reach} {b0 : Nat} {v : Value} {d : DataW H} {ps : List MemPlace} {tS tE tI : TypeId}
theorem open_ints_of (uE : P.underlying tE = some (.slice tI)) (uI : P.underlying tI = some (.int .i64)) (cI : P.cellsOf tI = 1) {fuel : Nat} {cs : List Value} {x : DataW H × List MemPlace} (h : DataW.trod enc P W 0 (fun _ => true) true fuel tE cs = some x) :
    ∃ (l : List Int) (a : Option Addr) (n cap : Nat), cs = [.slice a n cap] ∧ MemW W (.s 1 (intRows l)) (.slice a n cap) := by
  obtain ⟨l, a, n, cc, hcs, hm, _, _⟩ := open_rows uE cI (by decide) (fun (x : Int) cs _ => cs = [.int .i64 x]) (fun x => [.v (.int .i64 x)]) (fun _ => 0) (fun y cs k hy => by
      subst hy
      exact .cons (.v _ rfl) .nil) (fun _ => rfl) (fun _ _ k _ => Nat.zero_le k) (fun n cs x hx => by
      obtain ⟨k, e, _, _⟩ := DataW.trod_int uI hx
      exact ⟨k, e⟩) h
  exact ⟨l, a, n, cc, hcs, hm⟩
theorem open_grs_arg (uS : P.underlying tS = some (.slice tE)) (uE : P.underlying tE = some (.slice tI)) (uI : P.underlying tI = some (.int .i64)) (cE : P.cellsOf tE = 1) (cI : P.cellsOf tI = 1) (hval : Value.okWide P W r b0 tS v) (h : DataW.Trod enc P W 0 (fun _ => true) true tS v d ps) :
    ∃ (l : List (List Int)) (a : Option Addr) (n cap : Nat), v = .slice a n cap ∧ MemW W (.s 1 (grRows l)) (.slice a n cap) := by
  obtain ⟨a0, len, cap, rfl⟩ := okWide_slice uS hval
  obtain ⟨fuel, hf⟩ := h
  obtain ⟨l, a, n, cc, hcs, hm, _, _⟩ := open_rows uS cE (by decide) (fun (x : List Int) cs _ => ∃ a n cap, cs = [.slice a n cap] ∧ MemW W (.s 1 (intRows x)) (.slice a n cap)) (fun x => [.s 1 (intRows x)]) (fun _ => 0) (fun y cs k hy => by
      obtain ⟨a, n, cap, rfl, hm⟩ := hy
      exact .cons hm .nil) (fun _ => rfl) (fun _ _ k _ => Nat.zero_le k) (fun n cs x hx => by
      obtain ⟨l, a, n, cap, e, hm⟩ := open_ints_of uE uI cI hx
      exact ⟨l, a, n, cap, e, hm⟩) hf
  simp [Value.cells] at hcs
  obtain ⟨rfl, rfl, rfl⟩ := hcs
  exact ⟨l, _, _, _, rfl, hm⟩
end
end Go.Proofs.Ytlhkkkmjoobpcaa
