/-
  THE STATEMENT ScriptPacks: at every input the law answers true, and its arguments read as they did. No condition.
-/
import Derived.Test.YtppejoccljfblaaScriptPacks
import Derived.Test.YtppejoccljfblaaOpenScr
import Derived.Test.YtppejoccljfblaaOpenBytes
import Derived.Test.YtppejoccljfblaaPost
import Derived.ShutString
namespace Go.Proofs.Ytppejoccljfblaa.scriptPacks
open Go.ChangeShapes Go.WideShapes Go.ChangeAt Go.RowKit
open Go.ChangeMaps (open_string shut_string)


set_option maxRecDepth 100000 in
theorem lifted (os : Os) (started : os.Started) (H : Type) (enc : TypeId × Value → H) :
    ReturnsInHanded {} Try.checked os 6 .any (Rows.scriptPacksSpec.pre6 enc Try.prog Try.f6 Rows.scriptPacksRow.domain false) (Rows.scriptPacksSpec.post enc Try.prog Try.f6 false true false false) := by
  refine returnsInHanded_of_change (C := Try.checked) own started (by kernel_rfl) Try.func6
    (ChangeSpec.witness6 (enc := enc) (C := Try.checked) false ⟨#[], #[.agg #[.string .empty, .string .empty, .int .i64 0, .int .i64 0, .int .i64 0, .int .i64 0], .slice none 0 0], []⟩ 8 (by kernel_rfl) (by kernel_rfl) (by kernel_rfl) (by kernel_rfl)) ?_
  intro W base args ds gs before hval0 hW hcnd _
  have hval : ∀ (j : Nat) t v, Try.f6.params[j]? = some t → args[j]? = some v → Value.okWide Try.prog W .any base t v := hval0
  have hW' := hW
  obtain ⟨p, q, hA0, hV, rfl, hfz, hnd⟩ := hW
  have hA : DataW.TrodAll enc Try.prog W 0 (fun _ => true) true Try.f6.params.toList args.toList ds p := hA0
  rw [Try.params6] at hA hval
  obtain ⟨v0, vs0, d0, ds0, p0, q0, hargs, rfl, rfl, h0, ta0⟩ := trodAll_cons hA
  obtain ⟨v1, vs1, d1, ds1, p1, q1, rfl, rfl, rfl, h1, ta1⟩ := trodAll_cons ta0
  obtain ⟨rfl, rfl, rfl⟩ := trodAll_nil ta1
  obtain rfl : args = #[v0, v1] := by cases args; simp_all
  obtain ⟨s0, g0, x0, y0, z0, t0, rfl, ix0, iy0, iz0, it0⟩ := open_scr_arg Try.underlying27 Try.underlying9 Try.underlying9 Try.underlying3 Try.underlying25 Try.underlying3 Try.underlying3 Try.underlying3 (by kernel_rfl) ⟨rfl, rfl, rfl, rfl⟩ ⟨rfl, rfl, rfl⟩ ⟨by kernel_rfl, by kernel_rfl, by kernel_rfl, by kernel_rfl⟩ ⟨by kernel_rfl, by kernel_rfl, by kernel_rfl⟩ (hval 0 27 v0 rfl rfl) h0
  obtain ⟨s1, n1, c1, a1, rfl, r1⟩ := open_bytes_rd Try.underlying22 Try.underlying5 cells_u8 (hval 1 22 v1 rfl rfl) h1
  refine (scriptPacks_any s0 g0 x0 y0 z0 t0 _ r1 ix0 iy0 iz0 it0).mono fun e W' ⟨he, hb⟩ => ?_
  subst he
  exact ⟨_, rfl, law_post laidOut rfl rfl Try.underlying4 (by rw [Try.params6]; intro t ht; simp at ht; first | (subst ht; exact ⟨by kernel_rfl, of_decide_eq_true (by kernel_rfl)⟩) | (rcases ht with rfl | rfl <;> exact ⟨by kernel_rfl, of_decide_eq_true (by kernel_rfl)⟩) | (rcases ht with rfl | rfl | rfl <;> exact ⟨by kernel_rfl, of_decide_eq_true (by kernel_rfl)⟩)) hW' rfl hb⟩

/-- THE STATEMENT. -/
theorem proved : Rows.ScriptPacksSaid :=
  OpenClaim.holds_of_wide 6 Try.f6 rfl rfl rfl rfl rfl rfl rfl ⟨rfl, rfl, rfl, rfl, rfl⟩ rfl rfl rfl rfl rfl (by kernel_rfl) Try.func6 (by kernel_rfl)
    (of_decide_eq_true (by kernel_rfl)) (by unfold Func.isWrapper; first | (rw [if_pos (by decide +kernel)]; kernel_rfl) | (rw [if_neg (by decide +kernel)]; exact ⟨rfl, rfl⟩))
    (fun os started H enc _ => lifted os started H enc)
#print axioms proved
end Go.Proofs.Ytppejoccljfblaa.scriptPacks
