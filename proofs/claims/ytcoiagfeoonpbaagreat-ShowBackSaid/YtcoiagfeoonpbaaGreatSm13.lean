/-
  A drawn region walked by hand: its operations out of a list. Plain lemmas. No condition.
-/
import Derived.Test.YtcoiagfeoonpbaaGreatSm6
import Derived.Deep.RegionHeld3
set_option maxHeartbeats 20000000
set_option maxRecDepth 100000
namespace Go.Proofs.YtcoiagfeoonpbaaGreat
section
open Go.RowKit
section
variable {P:Program} {md:Region.Mode} {Q:Exit→Act→World→Prop} {S:World→Prop} {l:List Oper}
theorem takeL (i:Nat) {oi:Oper} {v:Value} {fuel:Nat} {listed:Array Bool} {a:Act} {w:World} (hi:l[i]?=some oi)
    (hs:Region.noSelect l.toArray=true) (hf:Region.free md l.toArray listed i=true) (hr:(Region.ready md l.toArray listed).contains i=true)
    (hQ:∀ c a w,Q (.panic c) (a.put oi.dst v) w→Q (.panic c) a w) (hw:Region.wanted oi (yielded l.toArray a.tmps)=true) (hy:∀ w,S w→(execOp a.eval oi).run P w=.ok (.value v) w) (hS:S w)
    (h:wpAnyH P md l.toArray Q S fuel (listed.setIfInBounds i true) (a.put oi.dst v) w):wpAnyH P md l.toArray Q S (fuel+1) listed a w:=
  wpAnyH_take (by simpa using hi) hs hf hr hQ (Or.inl ⟨hw,hy⟩) hS h
theorem skipL (i:Nat) {oi:Oper} {fuel:Nat} {listed:Array Bool} {a:Act} {w:World} (hi:l[i]?=some oi)
    (hs:Region.noSelect l.toArray=true) (hf:Region.free md l.toArray listed i=true) (hr:(Region.ready md l.toArray listed).contains i=true)
    (hQ:∀ c a w,Q (.panic c) (a.put oi.dst undef) w→Q (.panic c) a w) (hw:Region.wanted oi (yielded l.toArray a.tmps)=false) (hS:S w)
    (h:wpAnyH P md l.toArray Q S fuel (listed.setIfInBounds i true) (a.put oi.dst undef) w):wpAnyH P md l.toArray Q S (fuel+1) listed a w:=
  wpAnyH_take (by simpa using hi) hs hf hr hQ (Or.inr ⟨hw,rfl⟩) hS h
theorem callL (i:Nat) {oi:Oper} {fuel:Nat} {listed:Array Bool} {a:Act} {w:World} (hi:l[i]?=some oi) (hr:Region.ready md l.toArray listed=[i]) (hw:Region.wanted oi (yielded l.toArray a.tmps)=true)
    (h:∀ K':Act→World→Prop,Shut (∀ a w,S w→(S w→wpAnyH P md l.toArray Q S fuel (listed.setIfInBounds i true) a w)→K' a w)→Oper.wp P oi a w K' Q):wpAnyH P md l.toArray Q S (fuel+1) listed a w:=
  wpAnyH_ready hr (by simp) (AllReadyH.cons (by simpa using hi) (fun K' hK=>by rw [if_pos hw];exact h K' hK) AllReadyH.nil)
theorem consL (i:Nat) {oi:Oper} {fuel:Nat} {listed:Array Bool} {a:Act} {w:World} {rs:List Nat} (hi:l[i]?=some oi) (hw:Region.wanted oi (yielded l.toArray a.tmps)=true)
    (h:∀ K':Act→World→Prop,Shut (∀ a w,S w→(S w→wpAnyH P md l.toArray Q S fuel (listed.setIfInBounds i true) a w)→K' a w)→Oper.wp P oi a w K' Q) (hs:AllReadyH P md l.toArray Q S fuel listed a w rs):AllReadyH P md l.toArray Q S fuel listed a w (i::rs):=
  AllReadyH.cons (by simpa using hi) (fun K' hK=>by rw [if_pos hw];exact h K' hK) hs
theorem wp_append_D2 {w:World} {t e:TypeId} {z:Value} {sz bytes:Nat} {o:Oper} {act:Act} {K:Act→World→Prop} {Q:Exit→Act→World→Prop} (s x:Operand) {B base:Nat}
    (ho:o.op=.call { callee:=.builtin .append,args:=#[s,x],argTypes:=#[t,t] }) (ht:P.underlying t=some (.slice e)) (hinfo:(P.info? e).map (fun i=>(i.zero,i.size,i.bytes))=some (some z,sz,bytes)) (hz:z.cells.size=sz) (hsz:0<sz)
    {y:Value} {rs new:List (List At)} {a:Option Addr} {m c:Nat} (hs:act.eval s=y) (hx:act.eval x=.slice a m c) (h:OwnD B base e sz w y rs) (hM:Mem (fun b=>Nw B base w.heap.size b∧y.ownBlock≠some b) w (.s sz new) (.slice a m c)) (hby:(rs.length+new.length) * bytes≤140737488355328) (hbl:rs.length+new.length≤4611686018427387904) (hbase:base≤w.heap.size)
    (hK:∀ v' w',OwnD B base e sz w' v' (rs++new)→w.grownBy w' y.ownBlock→K (act.put o.dst v') w'):Oper.wp P o act w K Q:=by
  obtain ⟨v',w',hr,h2,h3,_⟩:=run_append_D2 o.type ht hinfo hz hsz h hM hby hbl hbase;unfold Oper.wp execOp;simp only [ho,resolve,invoke,builtin,Sem.run_bind,Sem.run_pure,Result.andThen_ok,List.map_toArray,List.map_cons,List.map_nil,hs,hx,hr];exact hK _ _ h2 h3
end
end
end Go.Proofs.YtcoiagfeoonpbaaGreat
