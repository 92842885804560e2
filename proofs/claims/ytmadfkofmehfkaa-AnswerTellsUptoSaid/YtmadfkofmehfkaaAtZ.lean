/-
  THE STATEMENT AnswerTellsUpto: at every input of bulk at most 1048576 the law answers true, and its arguments read as they did. Its condition: that bulk.
-/
import Derived.Test.YtmadfkofmehfkaaAt41
import Derived.Test.YtmadfkofmehfkaaAt42
import Derived.Test.YtmadfkofmehfkaaAt43
import Derived.ShutString
import Derived.JoinedCond
namespace Go.Proofs.Ytmadfkofmehfkaa.answerTells
open Go.ChangeShapes Go.WideShapes Go.ChangeAt Go.RowKit
open Go.ChangeMaps (open_string shut_string)


set_option maxRecDepth 100000 in
theorem lifted (os : Os) (started : os.Started) (H : Type) (enc : TypeId × Value → H) (F0 : Stop.Interp) :
    ReturnsInHanded {} Try.checked os 6 .any ((Rows.OpenSpec.upto Rows.answerTellsSpec).pre6 enc Try.prog Try.f6 Rows.answerTellsUptoRow.domain false) (((Rows.OpenSpec.upto Rows.answerTellsSpec).at F0).post enc Try.prog Try.f6 false true false false) := by
  refine returnsInHanded_of_cond (C := Try.checked) (s := Rows.OpenSpec.upto Rows.answerTellsSpec) (k := Rows.uptoSmall) rfl own started (by kernel_rfl) Try.func6
    (OpenSpec.witness (enc := enc) (C := Try.checked) (s := Rows.OpenSpec.upto Rows.answerTellsSpec) (k := Rows.uptoSmall) rfl false ⟨#[], #[.slice none 0 0, .slice none 0 0, .slice none 0 0], []⟩ 8 (by kernel_rfl) (by kernel_rfl) (by kernel_rfl)
      (x := ([.nil, .nil, .nil], [], [])) (by kernel_rfl) (by kernel_rfl) (by kernel_rfl)) ?_
  intro W base args ds gs before hval0 hW _ hk0 _
  have hval : ∀ (j : Nat) t v, Try.f6.params[j]? = some t → args[j]? = some v → Value.okWide Try.prog W .any base t v := hval0
  have hW' := hW
  obtain ⟨p, q, hA0, hV, rfl, hfz, hnd⟩ := hW
  obtain ⟨rfl, rfl⟩ := trodVars_none hV
  have hA : DataW.TrodAll enc Try.prog W 0 (fun _ => true) true Try.f6.params.toList args.toList ds p := hA0
  rw [Try.params6] at hA hval
  obtain ⟨v0, vs0, d0, ds0, p0, q0, hargs, rfl, rfl, h0, ta0⟩ := trodAll_cons hA
  obtain ⟨v1, vs1, d1, ds1, p1, q1, rfl, rfl, rfl, h1, ta1⟩ := trodAll_cons ta0
  obtain ⟨v2, vs2, d2, ds2, p2, q2, rfl, rfl, rfl, h2, ta2⟩ := trodAll_cons ta1
  obtain ⟨rfl, rfl, rfl⟩ := trodAll_nil ta2
  obtain rfl : args = #[v0, v1, v2] := by cases args; simp_all
  have hk : Rows.uptoBulk d0 + Rows.uptoBulk d1 + Rows.uptoBulk d2 ≤ 1048576 := by
    have := of_decide_eq_true hk0
    simp only [List.append_nil, Rows.uptoBulkAll] at this
    omega
  obtain ⟨t0, s0, n0, c0, rfl, m0, o0, k0⟩ := open_anss_arg Try.underlying41 Try.underlying48 Try.underlying22 rfl Try.underlying24 Try.underlying3 Try.underlying9 Try.underlying3 Try.underlying22 (by kernel_rfl) (by kernel_rfl) ⟨rfl, rfl, rfl, rfl⟩ ⟨by kernel_rfl, by kernel_rfl, by kernel_rfl, by kernel_rfl⟩ ⟨rfl, rfl⟩ (by kernel_rfl) (hval 0 41 v0 rfl rfl) h0
  obtain ⟨t1, s1, n1, c1, rfl, m1, o1, k1⟩ := open_anss_arg Try.underlying41 Try.underlying48 Try.underlying22 rfl Try.underlying24 Try.underlying3 Try.underlying9 Try.underlying3 Try.underlying22 (by kernel_rfl) (by kernel_rfl) ⟨rfl, rfl, rfl, rfl⟩ ⟨by kernel_rfl, by kernel_rfl, by kernel_rfl, by kernel_rfl⟩ ⟨rfl, rfl⟩ (by kernel_rfl) (hval 1 41 v1 rfl rfl) h1
  obtain ⟨l2, s2, n2, c2, rfl, m2, k2, z2⟩ := open_strz_arg Try.underlying46 Try.underlying9 (by kernel_rfl) (hval 2 46 v2 rfl rfl) h2
  refine (answerTells_any W m0 m1 m2 (ans_sizes (by omega)) (ans_sizes (by omega)) o0 o1 (ans_wts (by omega)) (fun s hs => Nat.le_trans (z2 s hs) (by omega))).mono fun e W' ⟨he, hb⟩ => ?_
  subst he
  exact ⟨_, rfl, law_post (s := (Rows.OpenSpec.upto Rows.answerTellsSpec).at F0) laidOut rfl rfl Try.underlying4 (by rw [Try.params6]; intro t ht; simp at ht; repeat' (first | (subst ht; exact ⟨by kernel_rfl, of_decide_eq_true (by kernel_rfl)⟩) | (rcases ht with rfl | ht; exact ⟨by kernel_rfl, of_decide_eq_true (by kernel_rfl)⟩))) hW' rfl hb⟩

/-- THE STATEMENT. -/
theorem proved : Rows.AnswerTellsUptoSaid :=
  OpenClaim.holds_of_cond 6 Try.f6 rfl rfl rfl rfl rfl rfl rfl ⟨rfl, rfl, rfl, rfl, rfl⟩ rfl rfl rfl rfl rfl (by kernel_rfl) Try.func6 (by kernel_rfl)
    (of_decide_eq_true (by kernel_rfl)) (by unfold Func.isWrapper; first | (rw [if_pos (by decide +kernel)]; kernel_rfl) | (rw [if_neg (by decide +kernel)]; exact ⟨rfl, rfl⟩))
    (fun os started H enc _ F0 => lifted os started H enc F0)
#print axioms proved
end Go.Proofs.Ytmadfkofmehfkaa.answerTells
