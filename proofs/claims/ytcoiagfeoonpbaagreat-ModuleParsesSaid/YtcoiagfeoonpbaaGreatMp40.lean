/-
  What every law's statement asks behind the walk, once for all: a call that answers true and leaves all that was there as it was meets the law's specification. No condition.
-/
import Derived.Test.YtcoiagfeoonpbaaGreatMp0
import Derived.ProofKit
import Derived.OpenShut
set_option maxHeartbeats 20000000
set_option maxRecDepth 100000
namespace Go.Proofs.YtcoiagfeoonpbaaGreat
section
open Go.ChangeShapes Go.WideShapes Go.ChangeAt Go.RowKit
theorem own:ownKnob Tryz.prog.godebug=none:=by kernel_rfl
theorem laidOut:laidOutB Tryz.prog=true:=by kernel_rfl
theorem trodAll_stays {H:Type} {enc:TypeId × Value→H} {P:Program} (hl:laidOutB P=true) {W W':World} (hb:Below W.heap.size W W'):
    ∀ (ts : List TypeId) (vs : List Value) (ds : List (DataW H)) (ps : List MemPlace), (∀ t ∈ ts, P.readableRec t = true ∧ t < P.types.size) → (∀ x ∈ ps, x.block < W.heap.size) →
      DataW.TrodAll enc P W 0 (fun _=>true) true ts vs ds ps→DataW.TrodAll enc P W' 0 (fun b=>decide (b<W.heap.size)) true ts vs ds ps:=by
  intro ts
  induction ts with
  | nil =>
    intro vs ds ps _ _ h;obtain ⟨rfl,rfl,rfl⟩:=trodAll_nil h;exact trodAll_mk0
  | cons t ts ih =>
    intro vs ds ps hr hlt h;obtain ⟨v,vs',d,ds',p,q,rfl,rfl,rfl,h1,h2⟩:=trodAll_cons h;obtain ⟨r1,r2⟩:=hr t (List.mem_cons_self ..)
    exact trodAll_cons_mk (Below.trod hl r1 r2 h1 hb (fun x hx=>hlt x (List.mem_append_left _ hx)))
      (ih vs' ds' q (fun t' ht=>hr t' (List.mem_cons_of_mem _ ht)) (fun x hx=>hlt x (List.mem_append_right _ hx)) h2)
theorem law_post {H:Type} {enc:TypeId × Value→H} {P:Program} {f:Func} {s:ChangeSpec} {W W':World} {args:Array Value} {ds o:List (DataW H)} {m:List MemPlace} {j:TypeId}
    (u:laidOutB P=true) (i:s.vars=[]) (y:f.resultTypes=#[j]) (z:P.underlying j=some .bool) (w:∀ t∈f.params.toList,P.readableRec t=true∧t<P.types.size)
    (d:DataW.Whole enc P f.params.toList s.vars false W args.toList ds o m) (a:s.fn H (ds++[])= { results:=[.lit (.bool true)],args:=ds }) (g:Below W.heap.size W W'):
    s.post enc P f false true false false W args (.bool true) W':=by
  have e:=d;obtain ⟨p,q,r,b,rfl,B,C⟩:=d;rw [i] at b;obtain ⟨rfl,rfl⟩:=trodVars_none b
  have v:∀ x∈p,x.block<W.heap.size:=fun x A=>e.lt x (List.mem_append_left _ A)
  refine ⟨ds,[],_,[],p,[],e,?_,?_,?_,g.frame _,fun h=>by cases h⟩
  · rw [a,y]
    exact trodAll_mk1 (shut_bool z _)
  · rw [a]
    exact trodAll_stays u g _ _ _ _ w v r
  · rw [a,i]
    rfl
end
end Go.Proofs.YtcoiagfeoonpbaaGreat
