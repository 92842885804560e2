/-
  GenDraws, walked: all ways in one. No condition but the arguments' own bounds.
-/
import Derived.Test.YtppejoccljfblaaGenD
namespace Go.Proofs.Ytppejoccljfblaa
open Go.RowKit

theorem genDraws_any {f r d s k : Int} (w : World) (hs : 0 ≤ s) :
    Calls Try.prog 7 #[.agg #[.int .i64 f, .int .i64 r, .int .i64 d, .int .u64 s], .int .i64 k] w fun e w' => e = .returned (.bool true) ∧ Below w.heap.size w w' := by
  by_cases h1 : k < 0
  · exact genDraws_far w (.inl h1)
  by_cases h2 : 1099511627776 < k
  · exact genDraws_far w (.inr h2)
  obtain ⟨K, rfl⟩ : ∃ K : Nat, k = (K : Int) := ⟨k.toNat, by omega⟩
  have hK : K ≤ 1099511627776 := by omega
  cases hm : mayB f r d
  · exact genDraws_no w hK hm
  · obtain ⟨g1, g2, g3, g4, g5, g6⟩ := mayB_nat hm
    obtain ⟨F, rfl⟩ : ∃ F : Nat, f = (F : Int) := ⟨f.toNat, by omega⟩
    obtain ⟨R, rfl⟩ : ∃ R : Nat, r = (R : Int) := ⟨r.toNat, by omega⟩
    obtain ⟨D, rfl⟩ : ∃ D : Nat, d = (D : Int) := ⟨d.toNat, by omega⟩
    exact genDraws_yes (l := F - 1) w hK hs (by omega) (by omega) (by omega) (by omega) hm
end Go.Proofs.Ytppejoccljfblaa
