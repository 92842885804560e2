/-
  A drawn region walked by hand: its operations out of a list. Plain lemmas. No condition.
-/
import Derived.Test.YtcoiagfeoonpbaaGreatMp2
import Derived.Deep.RegionHeld3
set_option maxHeartbeats 20000000
set_option maxRecDepth 100000
namespace Go.Proofs.YtcoiagfeoonpbaaGreat
section
open Go.RowKit
section
variable {P:Program} {md:Region.Mode} {Q:Exit→Act→World→Prop} {S:World→Prop} {l:List Oper}
theorem takeL (i:Nat) {b:Oper} {v:Value} {e:Nat} {d:Array Bool} {a:Act} {w:World} (m:l[i]?=some b)
    (p:Region.noSelect l.toArray=true) (j:Region.free md l.toArray d i=true) (o:(Region.ready md l.toArray d).contains i=true)
    (f:∀ c a w,Q (.panic c) (a.put b.dst v) w→Q (.panic c) a w) (q:Region.wanted b (yielded l.toArray a.tmps)=true) (r:∀ w,S w→(execOp a.eval b).run P w=.ok (.value v) w) (g:S w)
    (h:wpAnyH P md l.toArray Q S e (d.setIfInBounds i true) (a.put b.dst v) w):wpAnyH P md l.toArray Q S (e+1) d a w:=
  wpAnyH_take (by simpa using m) p j o f (Or.inl ⟨q,r⟩) g h
theorem callL (i:Nat) {d:Oper} {e:Nat} {b:Array Bool} {a:Act} {w:World} (g:l[i]?=some d) (j:Region.ready md l.toArray b=[i]) (m:Region.wanted d (yielded l.toArray a.tmps)=true)
    (h:∀ K':Act→World→Prop,Shut (∀ a w,S w→(S w→wpAnyH P md l.toArray Q S e (b.setIfInBounds i true) a w)→K' a w)→Oper.wp P d a w K' Q):wpAnyH P md l.toArray Q S (e+1) b a w:=
  wpAnyH_ready j (by simp) (AllReadyH.cons (by simpa using g) (fun K' f=>by rw [if_pos m];exact h K' f) AllReadyH.nil)
theorem consL (i:Nat) {e:Oper} {b:Nat} {d:Array Bool} {a:Act} {w:World} {rs:List Nat} (g:l[i]?=some e) (m:Region.wanted e (yielded l.toArray a.tmps)=true)
    (h:∀ K':Act→World→Prop,Shut (∀ a w,S w→(S w→wpAnyH P md l.toArray Q S b (d.setIfInBounds i true) a w)→K' a w)→Oper.wp P e a w K' Q) (j:AllReadyH P md l.toArray Q S b d a w rs):AllReadyH P md l.toArray Q S b d a w (i::rs):=
  AllReadyH.cons (by simpa using g) (fun K' f=>by rw [if_pos m];exact h K' f) j
theorem wp_append_D2 {w:World} {t e:TypeId} {z:Value} {sz j:Nat} {o:Oper} {d:Act} {K:Act→World→Prop} {Q:Exit→Act→World→Prop} (s x:Operand) {B base:Nat}
    (E:o.op=.call { callee:=.builtin .append,args:=#[s,x],argTypes:=#[t,t] }) (I:P.underlying t=some (.slice e)) (D:(P.info? e).map (fun i=>(i.zero,i.size,i.bytes))=some (some z,sz,j)) (L:z.cells.size=sz) (H:0<sz)
    {y:Value} {rs new:List (List At)} {a:Option Addr} {m c:Nat} (G:d.eval s=y) (J:d.eval x=.slice a m c) (h:OwnD B base e sz w y rs) (u:Mem (fun b=>Nw B base w.heap.size b∧y.ownBlock≠some b) w (.s sz new) (.slice a m c)) (C:(rs.length+new.length) * j≤140737488355328) (A:rs.length+new.length≤4611686018427387904) (v:base≤w.heap.size)
    (r:∀ g f,OwnD B base e sz f g (rs++new)→w.grownBy f y.ownBlock→K (d.put o.dst g) f):Oper.wp P o d w K Q:=by
  obtain ⟨g,f,F,p,q,_⟩:=run_append_D2 o.type I D L H h u C A v;unfold Oper.wp execOp;simp only [E,resolve,invoke,builtin,Sem.run_bind,Sem.run_pure,Result.andThen_ok,List.map_toArray,List.map_cons,List.map_nil,G,J,F];exact r _ _ p q
end
end
end Go.Proofs.YtcoiagfeoonpbaaGreat
