/-
  Lists of texts in memory; where a text stands in one. No condition but how they lie.
-/
import Derived.Test.YtcoiagfeoonpbaaGreatMp2
import Derived.Test.YtcoiagfeoonpbaaGreatMp3
set_option maxHeartbeats 20000000
set_option maxRecDepth 100000
namespace Go.Proofs.YtcoiagfeoonpbaaGreat
section
open Go.RowKit
attribute [local go_sem] toList_beq
end
section
open Go.RowKit
attribute [local go_sem] toList_beq
end
section
open Go.RowKit
theorem OwnD.cellAt {B base:Nat} {e:TypeId} {sz:Nat} {w:World} {y:Value} {rs:List (List At)} (h:OwnD B base e sz w y rs) (g j:Nat) (v:Value) (i:g<base) (m:B≤g):OwnD B base e sz (w.setCell ⟨g,j,none⟩ v) y rs:=by
  have u:(w.setCell ⟨g,j,none⟩ v).heap.size=w.heap.size:=by simp [World.setCell]
  obtain ⟨css,o,f⟩:=h
  refine ⟨css,⟨o.1,?_⟩,f.imp fun r cs' ⟨hc,f⟩=>⟨hc,f.imp fun x A z=>z.mono (fun b ⟨⟨i,a⟩,m⟩=>⟨⟨i,by rw [u];exact a⟩,m⟩) fun b ⟨⟨a,_⟩,_⟩=>heap_setCell_other w ⟨g,j,none⟩ b v (by show b≠g;rcases a with a | a <;> omega)⟩⟩
  rcases o.2 with t | ⟨d,cap,p,rfl,q,s,rest⟩
  · exact .inl t
  · exact .inr ⟨d,cap,p,rfl,q,(heap_setCell_other w ⟨g,j,none⟩ d v (by show d≠g;omega)).trans s,rest⟩
end
end Go.Proofs.YtcoiagfeoonpbaaGreat
