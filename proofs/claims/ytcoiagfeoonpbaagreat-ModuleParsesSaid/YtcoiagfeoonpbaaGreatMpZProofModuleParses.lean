/-
  THE STATEMENT ModuleParses: at every input the law answers true, and its arguments read as they did. No condition.
-/
import Derived.Test.YtcoiagfeoonpbaaGreatMp39
import Derived.Test.YtcoiagfeoonpbaaGreatMp40
import Derived.ShutString
set_option maxHeartbeats 20000000
set_option maxRecDepth 100000
namespace Go.Proofs.YtcoiagfeoonpbaaGreat.moduleParses
open Go.ChangeShapes Go.WideShapes Go.ChangeAt Go.RowKit
open Go.ChangeMaps (open_string shut_string)
theorem lifted (os:Os) (u:os.Started) (H:Type) (enc:TypeId × Value→H):
    ReturnsInHanded {} Tryz.checked os 3 .any (Rows.moduleParsesSpec.pre6 enc Tryz.prog Tryz.f3 Rows.moduleParsesRow.domain false) (Rows.moduleParsesSpec.post enc Tryz.prog Tryz.f3 false true false false):=by
  refine returnsInHanded_of_change (C:=Tryz.checked) own u (by kernel_rfl) Tryz.func3
    (ChangeSpec.witness6 (enc:=enc) (C:=Tryz.checked) false ⟨#[],#[.string .empty],[]⟩ 8 (by kernel_rfl) (by kernel_rfl) (by kernel_rfl) (by kernel_rfl)) ?_
  intro W base args ds A x r d E _;have f:∀ (j:Nat) t v,Tryz.f3.params[j]?=some t→args[j]?=some v→Value.okWide Tryz.prog W .any base t v:=r;have o:=d;obtain ⟨p,q,m,B,rfl,F,G⟩:=d;have b:DataW.TrodAll enc Tryz.prog W 0 (fun _=>true) true Tryz.f3.params.toList args.toList ds p:=m;rw [Tryz.params3] at b f;obtain ⟨g,K,y,z,I,J,D,rfl,rfl,i,w⟩:=trodAll_cons b;obtain ⟨rfl,rfl,rfl⟩:=trodAll_nil w
  obtain rfl:args=#[g]:=by cases args;simp_all
  obtain ⟨h,rfl,rfl,rfl,s⟩:=open_string Tryz.underlying9 (f 0 9 g rfl rfl) i;refine (moduleParses_any h W s).mono fun e W' ⟨he,hb⟩=>?_;subst he
  exact ⟨_,rfl,law_post laidOut rfl rfl Tryz.underlying4 (by rw [Tryz.params3];intro t a;simp at a;first | (subst a;exact ⟨by kernel_rfl,of_decide_eq_true (by kernel_rfl)⟩) | (rcases a with rfl | rfl <;> exact ⟨by kernel_rfl,of_decide_eq_true (by kernel_rfl)⟩) | (rcases a with rfl | rfl | rfl <;> exact ⟨by kernel_rfl,of_decide_eq_true (by kernel_rfl)⟩) | (rcases a with rfl | rfl | rfl | rfl <;> exact ⟨by kernel_rfl,of_decide_eq_true (by kernel_rfl)⟩)) o rfl hb⟩
theorem proved:Rows.ModuleParsesSaid:=
  OpenClaim.holds_of_wide 3 Tryz.f3 rfl rfl rfl rfl rfl rfl rfl ⟨rfl,rfl,rfl,rfl,rfl⟩ rfl rfl rfl rfl rfl (by kernel_rfl) Tryz.func3 (by kernel_rfl)
    (of_decide_eq_true (by kernel_rfl)) (by unfold Func.isWrapper;first | (rw [if_pos (by decide+kernel)];kernel_rfl) | (rw [if_neg (by decide+kernel)];exact ⟨rfl,rfl⟩))
    (fun os a H enc _=>lifted os a H enc)
#print axioms proved
end Go.Proofs.YtcoiagfeoonpbaaGreat.moduleParses
