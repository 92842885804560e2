/-
  Expressions told as texts: the pieces of the text; how deep its brackets are. Plain laws. No condition.
-/
import Derived.Test.YtcoiagfeoonpbaaGreatSm27
import Derived.Test.YtcoiagfeoonpbaaGreatSm24
import Derived.Test.YtcoiagfeoonpbaaGreatSm9
set_option maxHeartbeats 20000000
set_option maxRecDepth 100000
namespace Go.Proofs.YtcoiagfeoonpbaaGreat
section
def brP (br:Bool) (b:Nat) (p:Nat→List Pc):List Pc:=if br then (⟨b,6,[40],0⟩:Pc)::(p 0++[⟨0,6,[41],0⟩]) else p b
def brO (x:Ex) (r:Nat) (st:Bool):Bool:=openX x.kind || lessX x r st
def atomsP:Nat→List Ex→List (Nat→List Pc)→List Pc
  | b,x::xs,p::ps=>brP (!smallX x.kind) b p++atomsP 1 xs ps
  | _,_,_=>[]
def wIfL:List UInt8:=[105,102]
def wThenL:List UInt8:=[116,104,101,110]
def wElseL:List UInt8:=[101,108,115,101]
def wLetL:List UInt8:=[108,101,116]
def wFreeL:List UInt8:=[102,114,101,101]
def wInL:List UInt8:=[105,110]
def op2P (s:ByteArray) (b:Nat):List Ex→List (Nat→List Pc)→List Pc
  | [x,y],[p,q]=>brP (brO x (bindsE s) (leftX s)) b p++(⟨1,6,s.data.toList,0⟩:Pc)::brP (brO y (bindsE s) (decide (s≠⟨#[63]⟩))) 1 q
  | _,_=>[]
def if3P (b:Nat):List (Nat→List Pc)→List Pc
  | [p,q,r]=>(⟨b,5,wIfL,0⟩:Pc)::(p 1++(⟨1,5,wThenL,0⟩:Pc)::(q 1++(⟨1,5,wElseL,0⟩:Pc)::r 1))
  | _=>[]
def let2P (s:ByteArray) (b:Nat):List (Nat→List Pc)→List Pc
  | [p,q]=>(⟨b,5,wLetL,0⟩:Pc)::⟨1,2,s.data.toList,0⟩::⟨1,6,[61],0⟩::(p 1++(⟨1,5,wInL,0⟩:Pc)::q 1)
  | _=>[]
def free1P (s:ByteArray) (b:Nat):List (Nat→List Pc)→List Pc
  | [p]=>(⟨b,5,wLetL,0⟩:Pc)::⟨1,2,s.data.toList,0⟩::⟨1,5,wFreeL,0⟩::⟨1,5,wInL,0⟩::p 1
  | _=>[]
def formP (b:Nat) (k:Int) (s:ByteArray) (n:Int) (args:List Ex) (L:List (Nat→List Pc)):List Pc:=
  if k=4 then atomsP b args L
  else if k=1 then [⟨b,2,s.data.toList,0⟩]
  else if k=2 then [⟨b,3,s.data.toList,0⟩]
  else if k=3 then [⟨b,4,digs n,n⟩]
  else if k=5 then op2P s b args L
  else if k=6 then if3P b L
  else if k=7 then let2P s b L
  else if k=8 then free1P s b L
  else [⟨b,6,[95],0⟩]
mutual
def pcX:Ex→Nat→List Pc
  | .mk k s n args _ _,b=>formP b k s n args (pcXs args)
def pcXs:List Ex→List (Nat→List Pc)
  | []=>[]
  | e::es=>pcX e::pcXs es
end
def opD (br:Bool) (d:Nat):Nat:=if br then 1+d else d
def atomsD:List Ex→List Nat→Nat
  | x::xs,d::ds=>max (opD (!smallX x.kind) d) (atomsD xs ds)
  | _,_=>0
def op2D (s:ByteArray):List Ex→List Nat→Nat
  | [x,y],[d,f]=>max (opD (brO x (bindsE s) (leftX s)) d) (opD (brO y (bindsE s) (decide (s≠⟨#[63]⟩))) f)
  | _,_=>0
def maxD:List Nat→Nat
  | []=>0
  | d::ds=>max d (maxD ds)
def formD (k:Int) (s:ByteArray) (args:List Ex) (D:List Nat):Nat:=
  if k=4 then atomsD args D else if k=5 then op2D s args D else if k=6∨k=7∨k=8 then 1+maxD D else 0
mutual
def depX:Ex→Nat
  | .mk k s _ args _ _=>formD k s args (depXs args)
def depXs:List Ex→List Nat
  | []=>[]
  | e::es=>depX e::depXs es
end
theorem pcXs_eq (l:List Ex):pcXs l=l.map pcX:=by
  induction l with
  | nil=>rw [pcXs];rfl
  | cons e l ih=>rw [pcXs,ih];rfl
theorem depXs_eq (l:List Ex):depXs l=l.map depX:=by
  induction l with
  | nil=>rw [depXs];rfl
  | cons e l ih=>rw [depXs,ih];rfl
inductive WfX:Ex→Prop
  | var (s:ByteArray) (l c:Int) (h:TokOk 2 s.data.toList 0):WfX (.mk 1 s 0 [] l c)
  | con (s:ByteArray) (l c:Int) (h:TokOk 3 s.data.toList 0):WfX (.mk 2 s 0 [] l c)
  | int (n l c:Int) (h:TokOk 4 (digs n) n):WfX (.mk 3 .empty n [] l c)
  | app (x:Ex) (xs:List Ex) (l c:Int) (hx:WfX x) (hxs:∀ y∈xs,WfX y) (hn:xs≠[]):WfX (.mk 4 .empty 0 (x::xs) l c)
  | op (s:ByteArray) (x y:Ex) (l c:Int) (hs:0<bindsE s) (hx:WfX x) (hy:WfX y):WfX (.mk 5 s 0 [x,y] l c)
  | iff (x y z:Ex) (l c:Int) (hx:WfX x) (hy:WfX y) (hz:WfX z):WfX (.mk 6 .empty 0 [x,y,z] l c)
  | lett (s:ByteArray) (x y:Ex) (l c:Int) (h:TokOk 2 s.data.toList 0) (hx:WfX x) (hy:WfX y):WfX (.mk 7 s 0 [x,y] l c)
  | free (s:ByteArray) (x:Ex) (l c:Int) (h:TokOk 2 s.data.toList 0) (hx:WfX x):WfX (.mk 8 s 0 [x] l c)
section
variable {s:ByteArray} {n l c:Int} {x y z:Ex} {xs:List Ex} {b:Nat}
theorem pc_var:pcX (.mk 1 s 0 [] l c) b=[⟨b,2,s.data.toList,0⟩]:=by rw [pcX];rfl
theorem pc_con:pcX (.mk 2 s 0 [] l c) b=[⟨b,3,s.data.toList,0⟩]:=by rw [pcX];rfl
theorem pc_int:pcX (.mk 3 .empty n [] l c) b=[⟨b,4,digs n,n⟩]:=by rw [pcX];rfl
theorem pc_app:pcX (.mk 4 .empty 0 (x::xs) l c) b=brP (!smallX x.kind) b (pcX x)++atomsP 1 xs (xs.map pcX):=by rw [pcX,pcXs,pcXs_eq];rfl
theorem pc_op:pcX (.mk 5 s 0 [x,y] l c) b=brP (brO x (bindsE s) (leftX s)) b (pcX x)++(⟨1,6,s.data.toList,0⟩:Pc)::brP (brO y (bindsE s) (decide (s≠⟨#[63]⟩))) 1 (pcX y):=by rw [pcX,pcXs,pcXs,pcXs];rfl
theorem pc_if:pcX (.mk 6 .empty 0 [x,y,z] l c) b=(⟨b,5,wIfL,0⟩:Pc)::(pcX x 1++(⟨1,5,wThenL,0⟩:Pc)::(pcX y 1++(⟨1,5,wElseL,0⟩:Pc)::pcX z 1)):=by rw [pcX,pcXs,pcXs,pcXs,pcXs];rfl
theorem pc_let:pcX (.mk 7 s 0 [x,y] l c) b=(⟨b,5,wLetL,0⟩:Pc)::⟨1,2,s.data.toList,0⟩::⟨1,6,[61],0⟩::(pcX x 1++(⟨1,5,wInL,0⟩:Pc)::pcX y 1):=by rw [pcX,pcXs,pcXs,pcXs];rfl
theorem pc_free:pcX (.mk 8 s 0 [x] l c) b=(⟨b,5,wLetL,0⟩:Pc)::⟨1,2,s.data.toList,0⟩::⟨1,5,wFreeL,0⟩::⟨1,5,wInL,0⟩::pcX x 1:=by rw [pcX,pcXs,pcXs];rfl
theorem dep_app:depX (.mk 4 .empty 0 (x::xs) l c)=max (opD (!smallX x.kind) (depX x)) (atomsD xs (xs.map depX)):=by rw [depX,depXs,depXs_eq];rfl
theorem dep_op:depX (.mk 5 s 0 [x,y] l c)=max (opD (brO x (bindsE s) (leftX s)) (depX x)) (opD (brO y (bindsE s) (decide (s≠⟨#[63]⟩))) (depX y)):=by rw [depX,depXs,depXs,depXs];rfl
theorem dep_if:depX (.mk 6 .empty 0 [x,y,z] l c)=1+max (depX x) (max (depX y) (max (depX z) 0)):=by rw [depX,depXs,depXs,depXs,depXs];rfl
theorem dep_let:depX (.mk 7 s 0 [x,y] l c)=1+max (depX x) (max (depX y) 0):=by rw [depX,depXs,depXs,depXs];rfl
theorem dep_free:depX (.mk 8 s 0 [x] l c)=1+max (depX x) 0:=by rw [depX,depXs,depXs];rfl
theorem sh_var:showX (.mk 1 s 0 [] l c)=s:=by rw [showX];rfl
theorem sh_con:showX (.mk 2 s 0 [] l c)=s:=by rw [showX];rfl
theorem sh_int:showX (.mk 3 .empty n [] l c)=⟨(digs n).toArray⟩:=by rw [showX];rfl
theorem sh_app:showX (.mk 4 .empty 0 (x::xs) l c)=joinB (atomX x (showX x)::xs.map fun y=>atomX y (showX y)) ⟨#[32]⟩:=by
  rw [showX,showXs,showXs_eq];unfold formX;rw [if_pos ⟨rfl,by simp⟩,List.zipWith_cons_cons]
  congr 2
  induction xs with
  | nil=>rfl
  | cons y ys ih=>rw [List.map_cons,List.zipWith_cons_cons,ih];rfl
theorem sh_op:showX (.mk 5 s 0 [x,y] l c)=opX s x y (showX x) (showX y):=by rw [showX,showXs,showXs,showXs];rfl
theorem sh_if:showX (.mk 6 .empty 0 [x,y,z] l c)=ifX (showX x) (showX y) (showX z):=by rw [showX,showXs,showXs,showXs,showXs];rfl
theorem sh_let:showX (.mk 7 s 0 [x,y] l c)=letX s (showX x) (showX y):=by rw [showX,showXs,showXs,showXs];rfl
theorem sh_free:showX (.mk 8 s 0 [x] l c)=freeX s (showX x):=by rw [showX,showXs,showXs];rfl
end
theorem appD (a b:ByteArray):(a++b).data.toList=a.data.toList++b.data.toList:=by simp
theorem brk_data (b:Bool) (s:ByteArray):(brkX b s).data.toList=if b then 40::(s.data.toList++[41]) else s.data.toList:=by
  unfold brkX
  cases b with
  | true=>rw [if_pos rfl,if_pos rfl,appD,appD];rfl
  | false=>rw [if_neg (by decide),if_neg (by decide)]
theorem atom_brk (x:Ex) (s:ByteArray):atomX x s=brkX (!smallX x.kind) s:=by
  unfold atomX brkX
  cases smallX x.kind <;> rfl
theorem txt_br {x:Ex} (h:∀ b,txtP (pcX x b)=sepB b++(showX x).data.toList) (br:Bool) (b:Nat):txtP (brP br b (pcX x))=sepB b++(brkX br (showX x)).data.toList:=by
  rw [brk_data];unfold brP
  cases br with
  | true =>
    rw [if_pos rfl,if_pos rfl,txtP,txtP_app,h 0]
    simp [Pc.txt,sepB,txtP]
  | false=>rw [if_neg (by decide),if_neg (by decide),h b]
theorem txt_atoms {xs:List Ex} (h:∀ y∈xs,∀ b,txtP (pcX y b)=sepB b++(showX y).data.toList):txtP (atomsP 1 xs (xs.map pcX))=Lib.joinTail [32] ((xs.map fun y=>atomX y (showX y)).map (·.data.toList)):=by
  induction xs with
  | nil=>rfl
  | cons y ys ih =>
    rw [List.map_cons,atomsP,txtP_app,txt_br (h y (by simp)),ih fun z hz=>h z (by simp [hz])];simp only [List.map_cons,Lib.joinTail,List.flatten_cons];rw [atom_brk]
    rfl
theorem txt_ex {e:Ex} (h:WfX e):∀ b,txtP (pcX e b)=sepB b++(showX e).data.toList:=by
  induction h with
  | var s l c h=>intro b;rw [pc_var,sh_var];simp [txtP,Pc.txt]
  | con s l c h=>intro b;rw [pc_con,sh_con];simp [txtP,Pc.txt]
  | int n l c h=>intro b;rw [pc_int,sh_int];simp [txtP,Pc.txt]
  | app x xs l c hx hxs hn ihx ihxs =>
    intro b;rw [pc_app,sh_app,txtP_app,txt_br ihx,txt_atoms ihxs,atom_brk]
    show _=sepB b++Lib.join _ [32]
    rw [List.map_cons,Lib.join_cons,List.append_assoc]
  | op s x y l c hs hx hy ihx ihy =>
    intro b;rw [pc_op,sh_op,txtP_app,txtP,txt_br ihx,txt_br ihy];unfold opX opndX;simp only [appD,Pc.txt,sepB,brO,List.append_assoc]
    first | done | rfl
  | iff x y z l c hx hy hz ihx ihy ihz =>
    intro b;rw [pc_if,sh_if,txtP,txtP_app,txtP,txtP_app,txtP,ihx,ihy,ihz];unfold ifX;simp only [appD,Pc.txt,sepB,List.append_assoc]
    simp [wIfL,wThenL,wElseL]
  | lett s x y l c h hx hy ihx ihy =>
    intro b;rw [pc_let,sh_let,txtP,txtP,txtP,txtP_app,txtP,ihx,ihy];unfold letX;simp only [appD,Pc.txt,sepB,List.append_assoc]
    simp [wLetL,wInL]
  | free s x l c h hx ihx =>
    intro b;rw [pc_free,sh_free,txtP,txtP,txtP,txtP,ihx];unfold freeX;simp only [appD,Pc.txt,sepB,List.append_assoc]
    simp [wLetL,wInL,wFreeL]
theorem br_head {x:Ex} (h:∀ b,∃ p l,pcX x b=p::l∧p.b=b) (br:Bool) (b:Nat):∃ p l,brP br b (pcX x)=p::l∧p.b=b:=by
  unfold brP
  cases br with
  | true=>exact ⟨_,_,rfl,rfl⟩
  | false=>exact h b
theorem ex_head {e:Ex} (h:WfX e):∀ b,∃ p l,pcX e b=p::l∧p.b=b:=by
  induction h with
  | var s l c h=>intro b;rw [pc_var];exact ⟨_,_,rfl,rfl⟩
  | con s l c h=>intro b;rw [pc_con];exact ⟨_,_,rfl,rfl⟩
  | int n l c h=>intro b;rw [pc_int];exact ⟨_,_,rfl,rfl⟩
  | app x xs l c hx hxs hn ihx ihxs =>
    intro b;obtain ⟨p,l,h1,h2⟩:=br_head ihx (!smallX x.kind) b;rw [pc_app,h1];exact ⟨p,_,rfl,h2⟩
  | op s x y l c hs hx hy ihx ihy =>
    intro b;obtain ⟨p,l,h1,h2⟩:=br_head ihx (brO x (bindsE s) (leftX s)) b;rw [pc_op,h1];exact ⟨p,_,rfl,h2⟩
  | iff x y z l c hx hy hz _ _ _=>intro b;rw [pc_if];exact ⟨_,_,rfl,rfl⟩
  | lett s x y l c h hx hy _ _=>intro b;rw [pc_let];exact ⟨_,_,rfl,rfl⟩
  | free s x l c h hx _=>intro b;rw [pc_free];exact ⟨_,_,rfl,rfl⟩
theorem headOk_cons {p:Pc} {l:List Pc} (h:p.b≠0∨∃ u,p.s=41::u):HeadOk (p::l):=fun q m e=>by injection e with e _;subst e;exact h
theorem headOk_ex {e:Ex} (h:WfX e) (br:Bool) (R:List Pc):HeadOk (brP br 1 (pcX e)++R):=by
  obtain ⟨p,l,h1,h2⟩:=br_head (ex_head h) br 1;rw [h1];exact headOk_cons (.inl (by rw [h2];decide))
theorem okP_br {e:Ex} (h:WfX e) (ih:∀ b R,OkP R→HeadOk R→OkP (pcX e b++R)) (br:Bool) (b:Nat) (R:List Pc) (ho:OkP R) (hh:HeadOk R):OkP (brP br b (pcX e)++R):=by
  unfold brP
  cases br with
  | true =>
    rw [if_pos rfl,List.cons_append,List.append_assoc];exact okP_brack b (by obtain ⟨p,l,h1,_⟩:=ex_head h 0;rw [h1];simp) (ih 0 _ (okP_word tokOk_close hh ho) (headOk_cons (.inr ⟨[],rfl⟩)))
  | false=>rw [if_neg (by decide)];exact ih b R ho hh
theorem tokOk_op {s:ByteArray} (h:0<bindsE s):TokOk 6 s.data.toList 0:=by
  unfold bindsE at h
  split at h
  · rename_i e;subst e;exact ⟨[63],by decide⟩
  · split at h
    · rename_i _ e;rcases e with rfl | rfl
      · exact ⟨[61,61],by decide⟩
      · exact ⟨[60],by decide⟩
    · split at h
      · rename_i _ _ e;rcases e with rfl | rfl
        · exact ⟨[43],by decide⟩
        · exact ⟨[45],by decide⟩
      · split at h
        · rename_i _ _ _ e;subst e;exact ⟨[42],by decide⟩
        · omega
theorem okP_atoms {xs:List Ex} (h:∀ y∈xs,WfX y) (ih:∀ y∈xs,∀ b R,OkP R→HeadOk R→OkP (pcX y b++R)) (R:List Pc) (ho:OkP R) (hh:HeadOk R):OkP (atomsP 1 xs (xs.map pcX)++R)∧HeadOk (atomsP 1 xs (xs.map pcX)++R):=by
  induction xs with
  | nil=>exact ⟨ho,hh⟩
  | cons y ys ihl =>
    obtain ⟨h1,h2⟩:=ihl (fun z hz=>h z (by simp [hz])) fun z hz=>ih z (by simp [hz])
    rw [List.map_cons,atomsP,List.append_assoc];exact ⟨okP_br (h y (by simp)) (ih y (by simp)) _ _ _ h1 h2,headOk_ex (h y (by simp)) _ _⟩
theorem tkw_if:TokOk 5 wIfL 0:=⟨wIfL,by decide⟩
theorem tkw_then:TokOk 5 wThenL 0:=⟨wThenL,by decide⟩
theorem tkw_else:TokOk 5 wElseL 0:=⟨wElseL,by decide⟩
theorem tkw_let:TokOk 5 wLetL 0:=⟨wLetL,by decide⟩
theorem tkw_free:TokOk 5 wFreeL 0:=⟨wFreeL,by decide⟩
theorem tkw_in:TokOk 5 wInL 0:=⟨wInL,by decide⟩
theorem tkw_eq:TokOk 6 [61] 0:=⟨[61],by decide⟩
theorem okP_ex {e:Ex} (h:WfX e):∀ b R,OkP R→HeadOk R→OkP (pcX e b++R):=by
  have b1:∀ {k:Int} {s:List UInt8} {n:Int} {l:List Pc},HeadOk ((⟨1,k,s,n⟩:Pc)::l):=headOk_cons (.inl (by show ¬(1=0);decide))
  induction h with
  | var s l c h=>intro b R ho hh;rw [pc_var];exact okP_word h hh ho
  | con s l c h=>intro b R ho hh;rw [pc_con];exact okP_word h hh ho
  | int n l c h=>intro b R ho hh;rw [pc_int];exact okP_word h hh ho
  | app x xs l c hx hxs hn ihx ihxs =>
    intro b R ho hh;obtain ⟨h1,h2⟩:=okP_atoms hxs ihxs R ho hh;rw [pc_app,List.append_assoc];exact okP_br hx ihx _ _ _ h1 h2
  | op s x y l c hs hx hy ihx ihy =>
    intro b R ho hh;rw [pc_op,List.append_assoc,List.cons_append];exact okP_br hx ihx _ _ _ (okP_word (tokOk_op hs) (headOk_ex hy _ _) (okP_br hy ihy _ _ _ ho hh)) b1
  | iff x y z l c hx hy hz ihx ihy ihz =>
    intro b R ho hh;rw [pc_if,List.cons_append,List.append_assoc,List.cons_append,List.append_assoc,List.cons_append];exact okP_word tkw_if (headOk_ex hx false _) (ihx 1 _ (okP_word tkw_then (headOk_ex hy false _) (ihy 1 _ (okP_word tkw_else (headOk_ex hz false _) (ihz 1 _ ho hh)) b1)) b1)
  | lett s x y l c h hx hy ihx ihy =>
    intro b R ho hh;rw [pc_let,List.cons_append,List.cons_append,List.cons_append,List.append_assoc,List.cons_append];exact okP_word tkw_let b1 (okP_word h b1 (okP_word tkw_eq (headOk_ex hx false _) (ihx 1 _ (okP_word tkw_in (headOk_ex hy false _) (ihy 1 _ ho hh)) b1)))
  | free s x l c h hx ihx =>
    intro b R ho hh;rw [pc_free,List.cons_append,List.cons_append,List.cons_append,List.cons_append];exact okP_word tkw_let b1 (okP_word h b1 (okP_word tkw_free b1 (okP_word tkw_in (headOk_ex hx false _) (ihx 1 _ ho hh))))
end
section
def AtX (ts:List Tk) (i:Nat) (l:List Pc):Prop:=∀ j (hj:j<l.length),(nowT ts (i+j)).k=l[j].k∧(nowT ts (i+j)).s=str l[j].s∧(nowT ts (i+j)).n=l[j].n
theorem AtX.app {ts:List Tk} {i:Nat} {l m:List Pc} (h:AtX ts i (l++m)):AtX ts i l∧AtX ts (i+l.length) m:=by
  refine ⟨fun j hj=>?_,fun j hj=>?_⟩
  · have :=h j (by rw [List.length_append];omega)
    rw [List.getElem_append_left hj] at this;exact this
  · have :=h (l.length+j) (by rw [List.length_append];omega)
    rw [List.getElem_append_right (by omega)] at this;simp only [Nat.add_sub_cancel_left] at this;rw [Nat.add_assoc];exact this
theorem AtX.head {ts:List Tk} {i:Nat} {p:Pc} {l:List Pc} (h:AtX ts i (p::l)):((nowT ts i).k=p.k∧(nowT ts i).s=str p.s∧(nowT ts i).n=p.n)∧AtX ts (i+1) l:=by
  refine ⟨h 0 (by simp),fun j hj=>?_⟩;have :=h (j+1) (by simpa using hj);rw [show i+1+j=i+(j+1) by omega]
  simpa using this
def rkX (e:Ex):Nat:=if openX e.kind then 0 else if e.kind=5 then bindsE e.name else 5
theorem binds_four (s:ByteArray):bindsE s≤4:=by unfold bindsE;repeat' split <;> try omega
theorem rk_le (e:Ex):rkX e≤5:=by
  unfold rkX;have :=binds_four e.name
  by_cases h1:openX e.kind=true
  · rw [if_pos h1];omega
  · rw [if_neg h1]
    by_cases h2:e.kind=5
    · rw [if_pos h2];omega
    · rw [if_neg h2];omega
theorem br_no {x:Ex} {r:Nat} {st:Bool} (h:brO x r st=false) (hr:r≤4):(if st then r+1 else r)≤rkX x:=by
  unfold brO lessX at h;rw [Bool.or_eq_false_iff] at h
  have e1:rkX x=if x.kind=5 then bindsE x.name else 5:=by
    unfold rkX;rw [h.1];exact if_neg (by decide)
  rw [e1]
  by_cases h5:x.kind=5
  · rw [if_pos h5]
    have h2:=h.2;rw [decide_eq_true h5,Bool.true_and,Bool.or_eq_false_iff,decide_eq_false_iff_not] at h2
    cases st with
    | true =>
      have h3:=h2.2;simp only [Bool.and_true,decide_eq_false_iff_not] at h3;rw [if_pos rfl]
      omega
    | false=>exact Nat.not_lt.1 h2.1
  · rw [if_neg h5]
    cases st with
    | true=>rw [if_pos rfl];omega
    | false=>exact Nat.le_trans hr (by decide)
theorem left_st {s:ByteArray} (h:leftX s=true):bindsE s=1∨bindsE s=2:=by
  unfold leftX at h;simp only [Bool.or_eq_true,decide_eq_true_eq] at h
  rcases h with h | h | h <;> (subst h;decide)
theorem left_no {s:ByteArray} (h:leftX s=false):bindsE s≠1∧bindsE s≠2:=by
  unfold leftX at h;simp only [Bool.or_eq_false_iff,decide_eq_false_iff_not] at h;unfold bindsE
  have h2: ¬(s=⟨#[61,61]⟩∨s=⟨#[60]⟩):=by rintro (e | e);exact h.2.1 e;exact h.2.2 e
  rw [if_neg (show ¬s=wOr from h.1),if_neg h2]
  constructor
  · split
    · decide
    · split <;> decide
  · split
    · decide
    · split <;> decide
theorem or_one {s:ByteArray} (h:bindsE s=1):s=wOr:=by
  unfold bindsE at h
  split at h
  · rename_i e;exact e
  · repeat' split at h
    all_goals cases h
section
variable {ts:List Tk}
theorem op_tok {j:Nat} {s:ByteArray} (h:(nowT ts j).k=6∧(nowT ts j).s=s) (hs:0<bindsE s):startsE (nowT ts j)=false∧NoOp (nowT ts j) (bindsE s+1):=by
  refine ⟨?_,fun h'=>?_⟩
  · unfold startsE
    have e: ¬s=wOpen:=fun e=>by subst e;exact absurd hs (by decide)
    rw [h.1,h.2,decide_eq_false e]
    decide
  · rw [h.2] at h'
    omega
theorem key_tok {j:Nat} (h:(nowT ts j).k=5) (r:Nat):startsE (nowT ts j)=false∧NoOp (nowT ts j) r:=by
  refine ⟨?_,fun h'=>?_⟩
  · unfold startsE;rw [h];simp
  · rw [h] at h';exact absurd h'.1 (by decide)
theorem close_tok {j:Nat} (h:(nowT ts j).k=6∧(nowT ts j).s=wClose):startsE (nowT ts j)=false∧NoOp (nowT ts j) 1:=by
  refine ⟨?_,fun h'=>?_⟩
  · unfold startsE;rw [h.1,h.2];decide
  · rw [h.2] at h';exact absurd h'.2 (by decide)
theorem noOr {j:Nat} (h:NoOp (nowT ts j) 1):isT ts j 6 wOr=false:=by
  cases ht:isT ts j 6 wOr with
  | false=>rfl
  | true =>
    unfold isT at ht;rw [Bool.and_eq_true,decide_eq_true_eq,decide_eq_true_eq] at ht;exact absurd ⟨ht.1,by rw [ht.2];decide⟩ h
def RdX (ts:List Tk) (e:Ex):Prop:=∀ (b i deep:Nat),AtX ts i (pcX e b)→depX e+deep≤40→startsE (nowT ts (i+(pcX e b).length))=false→
  (rkX e=5→Lft ts 5 i (i+(pcX e b).length) deep e)∧
  (rkX e=3∨rkX e=4→NoOp (nowT ts (i+(pcX e b).length)) (rkX e+1)→Chn ts (rkX e) i (i+(pcX e b).length) deep e)∧
  (rkX e=2→NoOp (nowT ts (i+(pcX e b).length)) 3→Lft ts 2 i (i+(pcX e b).length) deep e)∧
  (rkX e=1→NoOp (nowT ts (i+(pcX e b).length)) 1→OrS ts i (i+(pcX e b).length) deep e)∧
  (rkX e=0→NoOp (nowT ts (i+(pcX e b).length)) 1→ExS ts i (i+(pcX e b).length) deep e)
variable {e:Ex} {b i deep r:Nat}
theorem rd_lft (h:RdX ts e) (ha:AtX ts i (pcX e b)) (hd:depX e+deep≤40) (hs:startsE (nowT ts (i+(pcX e b).length))=false) (hr:2≤r) (hk:r≤rkX e) (hn:NoOp (nowT ts (i+(pcX e b).length)) r):Lft ts r i (i+(pcX e b).length) deep e:=by
  obtain ⟨h5,h34,h2,_,_⟩:=h b i deep ha hd hs;have hle:=rk_le e
  by_cases e5:rkX e=5
  · exact lft_to (h5 e5) (by omega) hn
  · by_cases e2:rkX e=2
    · obtain rfl:r=2:=by omega
      exact h2 e2 (hn.le (by omega))
    · have e34:rkX e=3∨rkX e=4:=by omega
      have hc:=h34 e34 (hn.le (by omega));exact lft_from (chn_lft hc fun h'=>hn ⟨h'.1,by omega⟩) hle hk hn
theorem rd_chn (h:RdX ts e) (ha:AtX ts i (pcX e b)) (hd:depX e+deep≤40) (hs:startsE (nowT ts (i+(pcX e b).length))=false) (hr:r=3∨r=4) (hk:r≤rkX e) (hn:NoOp (nowT ts (i+(pcX e b).length)) (r+1)):Chn ts r i (i+(pcX e b).length) deep e:=by
  by_cases er:rkX e=r
  · subst er
    exact (h b i deep ha hd hs).2.1 hr hn
  · exact lft_chn (by omega) (rd_lft h ha hd hs (by omega) (by omega) hn)
theorem rd_or (h:RdX ts e) (ha:AtX ts i (pcX e b)) (hd:depX e+deep≤40) (hs:startsE (nowT ts (i+(pcX e b).length))=false) (hk:1≤rkX e) (hn:NoOp (nowT ts (i+(pcX e b).length)) 1):OrS ts i (i+(pcX e b).length) deep e:=by
  by_cases e1:rkX e=1
  · exact (h b i deep ha hd hs).2.2.2.1 e1 hn
  · exact or0 (rd_lft h ha hd hs (Nat.le_refl _) (by omega) (hn.le (by omega))) (noOr hn)
theorem ex_first {e:Ex} (h:WfX e):∀ b,rkX e≠0→∃ p l,pcX e b=p::l∧p.k≠5:=by
  have br:∀ {x:Ex} (hx:∀ b,rkX x≠0→∃ p l,pcX x b=p::l∧p.k≠5) (br:Bool) (b:Nat),(br=false→rkX x≠0)→∃ p l,brP br b (pcX x)=p::l∧p.k≠5:=by
    intro x hx br b h;unfold brP
    cases br with
    | true=>exact ⟨_,_,rfl,by show (6:Int)≠5;decide⟩
    | false=>exact hx b (h rfl)
  induction h with
  | var s l c h=>intro b _;rw [pc_var];exact ⟨_,_,rfl,by show (2:Int)≠5;decide⟩
  | con s l c h=>intro b _;rw [pc_con];exact ⟨_,_,rfl,by show (3:Int)≠5;decide⟩
  | int n l c h=>intro b _;rw [pc_int];exact ⟨_,_,rfl,by show (4:Int)≠5;decide⟩
  | app x xs l c hx hxs hn ihx ihxs =>
    intro b _
    obtain ⟨p,l,h1,h2⟩:=br ihx (!smallX x.kind) b (fun h=>by
      have hsm:smallX x.kind=true:=by simpa using h
      unfold smallX at hsm;rw [decide_eq_true_eq] at hsm;unfold rkX openX;rw [decide_eq_false (by omega),if_neg (by decide),if_neg (by omega)]
      decide)
    rw [pc_app,h1];exact ⟨p,_,rfl,h2⟩
  | op s x y l c hs hx hy ihx ihy =>
    intro b _
    obtain ⟨p,l,h1,h2⟩:=br ihx (brO x (bindsE s) (leftX s)) b (fun h=>by
      have h3:=br_no h (binds_four s)
      split at h3 <;> omega)
    rw [pc_op,h1];exact ⟨p,_,rfl,h2⟩
  | iff x y z l c hx hy hz _ _ _=>intro b h;exact absurd rfl h
  | lett s x y l c h hx hy _ _=>intro b h;exact absurd rfl h
  | free s x l c h hx _=>intro b h;exact absurd rfl h
theorem rd_ex (hw:WfX e) (h:RdX ts e) (ha:AtX ts i (pcX e b)) (hd:depX e+deep≤40) (hs:startsE (nowT ts (i+(pcX e b).length))=false) (hn:NoOp (nowT ts (i+(pcX e b).length)) 1):ExS ts i (i+(pcX e b).length) deep e:=by
  by_cases e0:rkX e=0
  · exact (h b i deep ha hd hs).2.2.2.2 e0 hn
  · obtain ⟨p,l,h1,h2⟩:=ex_first hw b e0
    have hk:(nowT ts i).k≠5:=by
      have :=ha;rw [h1] at this;rw [this.head.1.1];exact h2
    exact ex0 (rd_or h ha hd hs (by omega) hn) (by unfold isT;rw [decide_eq_false hk];rfl) (by unfold isT;rw [decide_eq_false hk];rfl)
theorem rd_brack (hw:WfX e) (h:RdX ts e) (ha:AtX ts i (brP true b (pcX e))) (hd:1+depX e+deep≤40):AtS ts i (i+(brP true b (pcX e)).length) deep e:=by
  unfold brP at ha ⊢;rw [if_pos rfl] at ha ⊢;obtain ⟨h0,h1⟩:=ha.head;obtain ⟨h2,h3⟩:=h1.app;obtain ⟨h4,_⟩:=h3.head;have c:(nowT ts (i+1+(pcX e 0).length)).k=6∧(nowT ts (i+1+(pcX e 0).length)).s=wClose:=⟨h4.1,h4.2.1⟩;have hc:=close_tok c;have :=at_brack (deep:=deep) ⟨h0.1,h0.2.1⟩ (by omega) (rd_ex hw h h2 (by omega) hc.1 hc.2) c;rw [List.length_cons,List.length_append,List.length_cons,List.length_nil];rw [show i+((pcX e 0).length+(0+1)+1)=i+1+(pcX e 0).length+1 by omega];exact this
theorem od_lft {br:Bool} (hw:WfX e) (h:RdX ts e) (ha:AtX ts i (brP br b (pcX e))) (hd:opD br (depX e)+deep≤40) (hs:startsE (nowT ts (i+(brP br b (pcX e)).length))=false) (hr:2≤r) (hr5:r≤5) (hk:br=false→r≤rkX e) (hn:NoOp (nowT ts (i+(brP br b (pcX e)).length)) r):Lft ts r i (i+(brP br b (pcX e)).length) deep e:=by
  cases br with
  | true=>exact lft_to (at_lft5 (rd_brack hw h ha hd) hs) hr5 hn
  | false=>exact rd_lft h ha hd hs hr (hk rfl) hn
theorem od_chn {br:Bool} (hw:WfX e) (h:RdX ts e) (ha:AtX ts i (brP br b (pcX e))) (hd:opD br (depX e)+deep≤40) (hs:startsE (nowT ts (i+(brP br b (pcX e)).length))=false) (hr:r=3∨r=4) (hk:br=false→r≤rkX e) (hn:NoOp (nowT ts (i+(brP br b (pcX e)).length)) (r+1)):Chn ts r i (i+(brP br b (pcX e)).length) deep e:=by
  cases br with
  | true=>exact lft_chn (by omega) (lft_to (at_lft5 (rd_brack hw h ha hd) hs) (by omega) hn)
  | false=>exact rd_chn h ha hd hs hr (hk rfl) hn
theorem od_or {br:Bool} (hw:WfX e) (h:RdX ts e) (ha:AtX ts i (brP br b (pcX e))) (hd:opD br (depX e)+deep≤40) (hs:startsE (nowT ts (i+(brP br b (pcX e)).length))=false) (hk:br=false→1≤rkX e) (hn:NoOp (nowT ts (i+(brP br b (pcX e)).length)) 1):OrS ts i (i+(brP br b (pcX e)).length) deep e:=by
  cases br with
  | true=>exact or0 (lft_to (at_lft5 (rd_brack hw h ha hd) hs) (by omega) (hn.le (by omega))) (noOr hn)
  | false=>exact rd_or h ha hd hs (hk rfl) hn
theorem plain_at {x':Ex} (h:plainE (nowT ts i)=some x') (hs:SamE false e x'):AtS ts i (i+1) deep e:=⟨x',1,hs,by rw [readE,h]⟩
theorem small_at {x:Ex} (hw:WfX x) (hsm:smallX x.kind=true) (ha:AtX ts i (pcX x b)):AtS ts i (i+(pcX x b).length) deep x∧startsE (nowT ts i)=true:=by
  unfold smallX at hsm;rw [decide_eq_true_eq] at hsm
  cases hw with
  | var s l c h =>
    rw [pc_var] at ha ⊢;obtain ⟨h0,_⟩:=ha.head;have hk:(nowT ts i).k=2:=h0.1
    have e2:(nowT ts i).s=s:=by rw [h0.2.1];exact str_of_data s
    exact ⟨plain_at (x':=.mk 1 s 0 [] (nowT ts i).l (nowT ts i).c) (by unfold plainE;rw [if_pos hk,e2]) (mkS .nil),by unfold startsE;rw [hk];rfl⟩
  | con s l c h =>
    rw [pc_con] at ha ⊢;obtain ⟨h0,_⟩:=ha.head;have hk:(nowT ts i).k=3:=h0.1
    have e2:(nowT ts i).s=s:=by rw [h0.2.1];exact str_of_data s
    exact ⟨plain_at (x':=.mk 2 s 0 [] (nowT ts i).l (nowT ts i).c) (by unfold plainE;rw [if_neg (by rw [hk];decide),if_pos hk,e2]) (mkS .nil),by unfold startsE;rw [hk];rfl⟩
  | int n l c h =>
    rw [pc_int] at ha ⊢;obtain ⟨h0,_⟩:=ha.head;have hk:(nowT ts i).k=4:=h0.1;have e2:(nowT ts i).n=n:=h0.2.2;exact ⟨plain_at (x':=.mk 3 .empty n [] (nowT ts i).l (nowT ts i).c) (by unfold plainE;rw [if_neg (by rw [hk];decide),if_neg (by rw [hk];decide),if_pos hk,e2]) (mkS .nil),by unfold startsE;rw [hk];rfl⟩
  | app x xs l c hx hxs hn=>exact absurd hsm (by simp [Ex.kind])
  | op s x y l c hs hx hy=>exact absurd hsm (by simp [Ex.kind])
  | iff x y z l c hx hy hz=>exact absurd hsm (by simp [Ex.kind])
  | lett s x y l c h hx hy=>exact absurd hsm (by simp [Ex.kind])
  | free s x l c h hx=>exact absurd hsm (by simp [Ex.kind])
theorem atom_at {x:Ex} (hw:WfX x) (h:RdX ts x) (ha:AtX ts i (brP (!smallX x.kind) b (pcX x))) (hd:opD (!smallX x.kind) (depX x)+deep≤40):AtS ts i (i+(brP (!smallX x.kind) b (pcX x)).length) deep x∧startsE (nowT ts i)=true:=by
  cases hsm:smallX x.kind with
  | true =>
    rw [hsm] at ha;exact small_at hw hsm ha
  | false =>
    rw [hsm] at ha hd;refine ⟨rd_brack hw h ha hd,?_⟩;unfold brP at ha;obtain ⟨h0,_⟩:=AtX.head (l:=pcX x 0++[⟨0,6,[41],0⟩]) ha;have hk:(nowT ts i).k=6:=h0.1;have e2:(nowT ts i).s=wOpen:=h0.2.1;unfold startsE;rw [hk,e2]
    decide
theorem atoms_at {xs:List Ex} (hw:∀ y∈xs,WfX y) (h:∀ y∈xs,RdX ts y):∀ (i:Nat),AtX ts i (atomsP 1 xs (xs.map pcX))→atomsD xs (xs.map depX)+deep≤40→AtL ts i (i+(atomsP 1 xs (xs.map pcX)).length) deep xs:=by
  induction xs with
  | nil=>intro i _ _;exact rfl
  | cons y ys ih =>
    intro i ha hd;rw [List.map_cons,atomsP] at ha ⊢;rw [List.map_cons,atomsD] at hd;obtain ⟨h1,h2⟩:=ha.app;obtain ⟨h3,h4⟩:=atom_at (deep:=deep) (hw y (by simp)) (h y (by simp)) h1 (by omega);refine ⟨_,h3,h4,?_⟩;rw [List.length_append, ←Nat.add_assoc];exact ih (fun z hz=>hw z (by simp [hz])) (fun z hz=>h z (by simp [hz])) _ h2 (by omega)
theorem rd_all {e:Ex} (hw:WfX e):RdX ts e:=by
  induction hw with
  | var s l c h =>
    intro b i deep ha hd hs;have hw:WfX (.mk 1 s 0 [] l c):=.var s l c h;have h5:rkX (.mk 1 s 0 [] l c)=5:=rfl;exact ⟨fun _=>at_lft5 (small_at hw rfl ha).1 hs,fun h'=>by rw [h5] at h';omega,fun h'=>by rw [h5] at h';omega,fun h'=>by rw [h5] at h';omega,fun h'=>by rw [h5] at h';omega⟩
  | con s l c h =>
    intro b i deep ha hd hs;have hw:WfX (.mk 2 s 0 [] l c):=.con s l c h;have h5:rkX (.mk 2 s 0 [] l c)=5:=rfl;exact ⟨fun _=>at_lft5 (small_at hw rfl ha).1 hs,fun h'=>by rw [h5] at h';omega,fun h'=>by rw [h5] at h';omega,fun h'=>by rw [h5] at h';omega,fun h'=>by rw [h5] at h';omega⟩
  | int n l c h =>
    intro b i deep ha hd hs;have hw:WfX (.mk 3 .empty n [] l c):=.int n l c h;have h5:rkX (.mk 3 .empty n [] l c)=5:=rfl;exact ⟨fun _=>at_lft5 (small_at hw rfl ha).1 hs,fun h'=>by rw [h5] at h';omega,fun h'=>by rw [h5] at h';omega,fun h'=>by rw [h5] at h';omega,fun h'=>by rw [h5] at h';omega⟩
  | app x xs l c hx hxs hn ihx ihxs =>
    intro b i deep ha hd hs;have h5:rkX (.mk 4 .empty 0 (x::xs) l c)=5:=rfl;refine ⟨fun _=>?_,fun h'=>by rw [h5] at h';omega,fun h'=>by rw [h5] at h';omega,fun h'=>by rw [h5] at h';omega,fun h'=>by rw [h5] at h';omega⟩;rw [pc_app] at ha hs ⊢;rw [dep_app] at hd;obtain ⟨h1,h2⟩:=ha.app;rw [List.length_append, ←Nat.add_assoc] at hs ⊢;exact app_lft5 (atom_at hx ihx h1 (by omega)).1 (atoms_at hxs ihxs _ h2 (by omega)) hn hs
  | op s x y l c hb hx hy ihx ihy =>
    intro b i deep ha hd hs;have hrk:rkX (.mk 5 s 0 [x,y] l c)=bindsE s:=rfl;have hb4:=binds_four s;rw [hrk];rw [pc_op] at ha hs ⊢;rw [dep_op] at hd;obtain ⟨h1,h2⟩:=ha.app;obtain ⟨h3,h4⟩:=h2.head;have ht:(nowT ts (i+(brP (brO x (bindsE s) (leftX s)) b (pcX x)).length)).k=6∧(nowT ts (i+(brP (brO x (bindsE s) (leftX s)) b (pcX x)).length)).s=s:=⟨h3.1,by rw [h3.2.1];exact str_of_data s⟩;have ho:=op_tok ht hb
    have e1:i+(brP (brO x (bindsE s) (leftX s)) b (pcX x)++(⟨1,6,s.data.toList,0⟩:Pc)::brP (brO y (bindsE s) (decide (s≠⟨#[63]⟩))) 1 (pcX y)).length=i+(brP (brO x (bindsE s) (leftX s)) b (pcX x)).length+1+(brP (brO y (bindsE s) (decide (s≠⟨#[63]⟩))) 1 (pcX y)).length:=by rw [List.length_append,List.length_cons];omega
    rw [e1] at hs ⊢
    have kx:∀ {m},brO x (bindsE s) (leftX s)=false→(m≤if leftX s then bindsE s+1 else bindsE s)→m≤rkX x:=fun h hm=>Nat.le_trans hm (br_no h hb4)
    have ky:∀ {m},brO y (bindsE s) (decide (s≠⟨#[63]⟩))=false→(m≤if decide (s≠⟨#[63]⟩) then bindsE s+1 else bindsE s)→m≤rkX y:=fun h hm=>Nat.le_trans hm (br_no h hb4)
    have n1:bindsE s≠1→decide (s≠⟨#[63]⟩)=true:=fun h=>decide_eq_true fun e=>h (by rw [e];decide)
    refine ⟨fun h5=>by omega,fun h34 hn=>?_,fun h2' hn=>?_,fun h1' hn=>?_,fun h0=>by omega⟩
    · have hl:leftX s=false:=by
        cases hl:leftX s with
        | false=>rfl
        | true=>have :=left_st hl;omega
      exact op_chn h34 (od_chn (deep:=deep) hx ihx h1 (by omega) ho.1 h34 (fun h=>kx h (by rw [hl];simp)) ho.2) ht rfl (od_lft (deep:=deep) hy ihy h4 (by omega) hs (by omega) (by omega) (fun h=>ky h (by rw [n1 (by omega)];simp)) hn)
    · have hl:leftX s=true:=by
        cases hl:leftX s with
        | true=>rfl
        | false=>exact absurd h2' (left_no hl).2
      refine op_lft2 (lft_chn (by decide) (od_lft (deep:=deep) (r:=3) hx ihx h1 (by omega) ho.1 (by omega) (by omega) (fun h=>kx h (by rw [hl,if_pos rfl];omega)) (ho.2.le (by omega)))) ht h2' (od_lft (deep:=deep) hy ihy h4 (by omega) hs (by omega) (by omega) (fun h=>ky h (by rw [n1 (by omega),if_pos rfl];omega)) hn)
    · have hso:=or_one h1'
      have hl:leftX s=true:=by
        cases hl:leftX s with
        | true=>rfl
        | false=>exact absurd h1' (left_no hl).1
      have hto:isT ts (i+(brP (brO x (bindsE s) (leftX s)) b (pcX x)).length) 6 wOr=true:=by
        unfold isT;rw [decide_eq_true ht.1,decide_eq_true (ht.2.trans hso)]
        rfl
      have :=or1 (l:=l) (c:=c) (od_lft (deep:=deep) (r:=2) hx ihx h1 (by omega) ho.1 (by omega) (by omega) (fun h=>kx h (by rw [hl,if_pos rfl];omega)) (ho.2.le (by omega))) hto (od_or (deep:=deep) hy ihy h4 (by omega) hs (fun h=>ky h (by split <;> omega)) hn)
      rw [←hso] at this;exact this
  | iff x y z l c hx hy hz ihx ihy ihz =>
    intro b i deep ha hd hs;have h0:rkX (.mk 6 .empty 0 [x,y,z] l c)=0:=rfl;refine ⟨fun h'=>by rw [h0] at h';omega,fun h'=>by rw [h0] at h';omega,fun h'=>by rw [h0] at h';omega,fun h'=>by rw [h0] at h';omega,fun _ hn=>?_⟩;rw [pc_if] at ha hs hn ⊢;rw [dep_if] at hd;obtain ⟨t0,a1⟩:=ha.head;obtain ⟨ax,a2⟩:=a1.app;obtain ⟨t1,a3⟩:=a2.head;obtain ⟨ay,a4⟩:=a3.app;obtain ⟨t2,az⟩:=a4.head
    have e1:i+((⟨b,5,wIfL,0⟩:Pc)::(pcX x 1++(⟨1,5,wThenL,0⟩:Pc)::(pcX y 1++(⟨1,5,wElseL,0⟩:Pc)::pcX z 1))).length=i+1+(pcX x 1).length+1+(pcX y 1).length+1+(pcX z 1).length:=by
      simp only [List.length_cons,List.length_append];omega
    rw [e1] at hs hn ⊢;have k1:=key_tok (ts:=ts) t1.1 1;have k2:=key_tok (ts:=ts) t2.1 1;exact ex_if ⟨t0.1,t0.2.1⟩ (by omega) (rd_ex hx ihx ax (by omega) k1.1 k1.2) ⟨t1.1,t1.2.1⟩ (rd_ex hy ihy ay (by omega) k2.1 k2.2) ⟨t2.1,t2.2.1⟩ (rd_ex hz ihz az (by omega) hs hn)
  | lett s x y l c h hx hy ihx ihy =>
    intro b i deep ha hd hs;have h0:rkX (.mk 7 s 0 [x,y] l c)=0:=rfl;refine ⟨fun h'=>by rw [h0] at h';omega,fun h'=>by rw [h0] at h';omega,fun h'=>by rw [h0] at h';omega,fun h'=>by rw [h0] at h';omega,fun _ hn=>?_⟩;rw [pc_let] at ha hs hn ⊢;rw [dep_let] at hd;obtain ⟨t0,a1⟩:=ha.head;obtain ⟨t1,a2⟩:=a1.head;obtain ⟨t2,a3⟩:=a2.head;obtain ⟨ax,a4⟩:=a3.app;obtain ⟨t3,ay⟩:=a4.head
    have e1:i+((⟨b,5,wLetL,0⟩:Pc)::⟨1,2,s.data.toList,0⟩::⟨1,6,[61],0⟩::(pcX x 1++(⟨1,5,wInL,0⟩:Pc)::pcX y 1)).length=i+1+1+1+(pcX x 1).length+1+(pcX y 1).length:=by
      simp only [List.length_cons,List.length_append];omega
    rw [e1] at hs hn ⊢;have k3:=key_tok (ts:=ts) t3.1 1;exact ex_let ⟨t0.1,t0.2.1⟩ (by omega) ⟨t1.1,by rw [t1.2.1];exact str_of_data s⟩ ⟨t2.1,t2.2.1⟩ (rd_ex hx ihx ax (by omega) k3.1 k3.2) ⟨t3.1,t3.2.1⟩ (rd_ex hy ihy ay (by omega) hs hn)
  | free s x l c h hx ihx =>
    intro b i deep ha hd hs;have h0:rkX (.mk 8 s 0 [x] l c)=0:=rfl;refine ⟨fun h'=>by rw [h0] at h';omega,fun h'=>by rw [h0] at h';omega,fun h'=>by rw [h0] at h';omega,fun h'=>by rw [h0] at h';omega,fun _ hn=>?_⟩;rw [pc_free] at ha hs hn ⊢;rw [dep_free] at hd;obtain ⟨t0,a1⟩:=ha.head;obtain ⟨t1,a2⟩:=a1.head;obtain ⟨t2,a3⟩:=a2.head;obtain ⟨t3,ax⟩:=a3.head
    have e1:i+((⟨b,5,wLetL,0⟩:Pc)::⟨1,2,s.data.toList,0⟩::⟨1,5,wFreeL,0⟩::⟨1,5,wInL,0⟩::pcX x 1).length=i+1+1+1+1+(pcX x 1).length:=by
      simp only [List.length_cons];omega
    rw [e1] at hs hn ⊢;exact ex_free ⟨t0.1,t0.2.1⟩ (by omega) ⟨t1.1,by rw [t1.2.1];exact str_of_data s⟩ ⟨t2.1,t2.2.1⟩ ⟨t3.1,t3.2.1⟩ (rd_ex hx ihx ax (by omega) hs hn)
end
end
section
theorem tokL_cases {r t:List UInt8} {k n:Int} (h:tokL r=some (k,t,n)):(k=5∧n=0)∨(k=2∧n=0∧isWord (str t) 1=true)∨(k=3∧n=0∧isWord (str t) 2=true)∨(k=4∧okN t=true∧n=numN t)∨(k=6∧n=0):=by
  cases r with
  | nil=>cases h
  | cons x r =>
    unfold tokL at h;simp only at h
    by_cases hc:cls x.toNat=1∨cls x.toNat=2
    · simp only [if_pos hc] at h
      split at h
      · cases h;exact .inl ⟨rfl,rfl⟩
      · split at h
        · rename_i hw;cases h;exact .inr (.inl ⟨rfl,rfl,hw⟩)
        · split at h
          · rename_i hw;cases h;exact .inr (.inr (.inl ⟨rfl,rfl,hw⟩))
          · cases h
    · simp only [if_neg hc] at h
      by_cases h3:cls x.toNat=3
      · simp only [if_pos h3] at h
        split at h
        · rename_i hw;cases h;exact .inr (.inr (.inr (.inl ⟨rfl,hw,rfl⟩)))
        · cases h
      · simp only [if_neg h3] at h
        rw [Option.map_eq_some_iff] at h;obtain ⟨y,_,he⟩:=h;cases he;exact .inr (.inr (.inr (.inr ⟨rfl,rfl⟩)))
theorem tok_word {k n:Int} {t:List UInt8} (h:TokOk k t n) (hk:k=2∨k=3):t.length≤24:=by
  obtain ⟨r,hr⟩:=h
  have wl:∀ {w:List UInt8} {c:Int},isWord (str w) c=true→w.length≤24:=by
    intro w c h;unfold isWord at h;simp only [Bool.and_eq_true,decide_eq_true_eq] at h;have h2:=h.1.1.2
    have e:(str w).size=w.length:=by rw [←length_data];rfl
    omega
  rcases tokL_cases hr with h | h | h | h | h
  · omega
  · exact wl h.2.2
  · exact wl h.2.2
  · omega
  · omega
theorem tok_nought {k n:Int} {t r:List UInt8} (hr:tokL r=some (k,t,n)) (hk:k=2∨k=3):n=0:=by
  rcases tokL_cases hr with h | h | h | h | h
  · exact h.2
  · exact h.2.1
  · exact h.2.1
  · omega
  · exact h.2
theorem tok_num {n:Int} {t:List UInt8} (h:TokOk 4 t n):t=digs n∧0≤n∧n≤2147483647:=by
  obtain ⟨r,hr⟩:=h
  rcases tokL_cases hr with h | h | h | h | h
  · omega
  · omega
  · omega
  · obtain ⟨_,ho,h2⟩:=h
    have h3:=numN_ok _ ho
    have hv:n=(val t:Int):=by rw [h2,h3]
    unfold okN at ho;simp only [Bool.and_eq_true,decide_eq_true_eq,beq_iff_eq] at ho
    have ht:digs n=t:=by
      rw [hv,digs_pos _ (by omega),Int.toNat_natCast]
      first | exact ho.2 | exact ho.1.2
    have hl:val t≤2147483647:=by first | exact ho.1.2 | exact ho.2 | exact ho.1.1.2
    exact ⟨ht.symm,by omega,by omega⟩
  · omega
theorem digs_short {n:Int} (h:0≤n∧n≤2147483647):(digs n).length≤20:=by
  rw [digs_pos _ (by omega)];exact dec_len _ (by omega)
theorem num_ex {e:Ex} (h:WfX e):NumX e:=by
  have z:(-9223372036854775808:Int)≤0∧(0:Int)≤9223372036854775807:=by decide
  induction h with
  | var s l c h=>rw [NumX,NumXs];exact ⟨z,trivial⟩
  | con s l c h=>rw [NumX,NumXs];exact ⟨z,trivial⟩
  | int n l c h=>rw [NumX,NumXs];have :=tok_num h;exact ⟨⟨by omega,by omega⟩,trivial⟩
  | app x xs l c hx hxs hn ihx ihxs =>
    rw [NumX,NumXs];refine ⟨z,ihx,?_⟩;clear hn hxs
    induction xs with
    | nil=>rw [NumXs];trivial
    | cons y ys ih=>rw [NumXs];exact ⟨ihxs y (by simp),ih fun z hz=>ihxs z (by simp [hz])⟩
  | op s x y l c hs hx hy ihx ihy=>rw [NumX,NumXs,NumXs,NumXs];exact ⟨z,ihx,ihy,trivial⟩
  | iff x y z l c hx hy hz ihx ihy ihz=>rw [NumX,NumXs,NumXs,NumXs,NumXs];exact ⟨by decide,ihx,ihy,ihz,trivial⟩
  | lett s x y l c h hx hy ihx ihy=>rw [NumX,NumXs,NumXs,NumXs];exact ⟨z,ihx,ihy,trivial⟩
  | free s x l c h hx ihx=>rw [NumX,NumXs,NumXs];exact ⟨z,ihx,trivial⟩
def Short (l:List Pc):Prop:=∀ p∈l,p.b<2∧p.s.length≤24
theorem Short.app {l m:List Pc} (h:Short l) (h':Short m):Short (l++m):=fun p hp=>(List.mem_append.1 hp).elim (h p) (h' p)
theorem Short.cons {p:Pc} {l:List Pc} (hp:p.b<2∧p.s.length≤24) (h:Short l):Short (p::l):=fun q hq=>(List.mem_cons.1 hq).elim (fun e=>e ▸ hp) (h q)
theorem Short.nil:Short []:=fun p hp=>by cases hp
theorem short_br {x:Ex} (h:∀ b,b<2→Short (pcX x b)) (br:Bool) {b:Nat} (hb:b<2):Short (brP br b (pcX x)):=by
  unfold brP
  cases br with
  | true=>exact .cons ⟨hb,by show 1≤24;decide⟩ ((h 0 (by decide)).app (.cons ⟨by show 0<2;decide,by show 1≤24;decide⟩ .nil))
  | false=>exact h b hb
theorem binds_short {s:ByteArray} (h:0<bindsE s):s.data.toList.length≤24:=by
  unfold bindsE at h
  split at h
  · rename_i e;subst e;decide
  · split at h
    · rename_i _ e;rcases e with rfl | rfl <;> decide
    · split at h
      · rename_i _ _ e;rcases e with rfl | rfl <;> decide
      · split at h
        · rename_i _ _ _ e;subst e;decide
        · omega
theorem short_ex {e:Ex} (h:WfX e):∀ b,b<2→Short (pcX e b):=by
  have p1:∀ {k:Int} {s:List UInt8} {n:Int},s.length≤24→(⟨1,k,s,n⟩:Pc).b<2∧(⟨1,k,s,n⟩:Pc).s.length≤24:=fun h=>⟨by show 1<2;decide,h⟩
  induction h with
  | var s l c h=>intro b hb;rw [pc_var];exact .cons ⟨hb,tok_word h (.inl rfl)⟩ .nil
  | con s l c h=>intro b hb;rw [pc_con];exact .cons ⟨hb,tok_word h (.inr rfl)⟩ .nil
  | int n l c h=>intro b hb;rw [pc_int];exact .cons ⟨hb,Nat.le_trans (digs_short (tok_num h).2) (by decide)⟩ .nil
  | app x xs l c hx hxs hn ihx ihxs =>
    intro b hb;rw [pc_app];refine (short_br ihx _ hb).app ?_;clear hn hxs
    induction xs with
    | nil=>exact .nil
    | cons y ys ih=>rw [List.map_cons,atomsP];exact (short_br (ihxs y (by simp)) _ (by decide)).app (ih fun z hz=>ihxs z (by simp [hz]))
  | op s x y l c hs hx hy ihx ihy=>intro b hb;rw [pc_op];exact (short_br ihx _ hb).app (.cons (p1 (binds_short hs)) (short_br ihy _ (by decide)))
  | iff x y z l c hx hy hz ihx ihy ihz=>intro b hb;rw [pc_if];exact .cons ⟨hb,by show 2≤24;decide⟩ ((ihx 1 (by decide)).app (.cons (p1 (by decide)) ((ihy 1 (by decide)).app (.cons (p1 (by decide)) (ihz 1 (by decide))))))
  | lett s x y l c h hx hy ihx ihy=>intro b hb;rw [pc_let];exact .cons ⟨hb,by show 3≤24;decide⟩ (.cons (p1 (tok_word h (.inl rfl))) (.cons (p1 (by decide)) ((ihx 1 (by decide)).app (.cons (p1 (by decide)) (ihy 1 (by decide))))))
  | free s x l c h hx ihx=>intro b hb;rw [pc_free];exact .cons ⟨hb,by show 3≤24;decide⟩ (.cons (p1 (tok_word h (.inl rfl))) (.cons (p1 (by decide)) (.cons (p1 (by decide)) (ihx 1 (by decide)))))
theorem txt_short {l:List Pc} (h:Short l):(txtP l).length≤25 * l.length:=by
  induction l with
  | nil=>exact Nat.le_refl _
  | cons p l ih =>
    have h1:=h p (by simp)
    have h2:=ih fun q hq=>h q (by simp [hq])
    have h3:(sepB p.b).length≤1:=by
      obtain ⟨b,k,s,n⟩:=p
      match b with
      | 0=>exact Nat.zero_le _
      | 1=>exact Nat.le_refl _
      | b+2=>exact Nat.le_refl _
    rw [txtP,Pc.txt,List.length_append,List.length_append,List.length_cons]
    omega
def brL (br:Bool) (n:Nat):Nat:=if br then 2+n else n
def lenX (e:Ex):Nat:=(pcX e 0).length
theorem brP_len {x:Ex} (h:∀ b,(pcX x b).length=lenX x) (br:Bool) (b:Nat):(brP br b (pcX x)).length=brL br (lenX x):=by
  unfold brP brL
  cases br with
  | true=>rw [if_pos rfl,if_pos rfl,List.length_cons,List.length_append];show lenX x+1+1=_;omega
  | false=>exact h b
theorem pc_len {e:Ex} (h:WfX e):∀ b,(pcX e b).length=lenX e:=by
  unfold lenX
  induction h with
  | var s l c h=>intro b;rw [pc_var,pc_var];rfl
  | con s l c h=>intro b;rw [pc_con,pc_con];rfl
  | int n l c h=>intro b;rw [pc_int,pc_int];rfl
  | app x xs l c hx hxs hn ihx ihxs=>intro b;rw [pc_app,pc_app,List.length_append,List.length_append,brP_len ihx,brP_len ihx]
  | op s x y l c hs hx hy ihx ihy=>intro b;rw [pc_op,pc_op,List.length_append,List.length_append,brP_len ihx,brP_len ihx]
  | iff x y z l c hx hy hz ihx ihy ihz=>intro b;rw [pc_if,pc_if];simp only [List.length_cons]
  | lett s x y l c h hx hy ihx ihy=>intro b;rw [pc_let,pc_let];rfl
  | free s x l c h hx ihx=>intro b;rw [pc_free,pc_free];rfl
def lenL (l:List Ex):Nat:=(atomsP 1 l (l.map pcX)).length
theorem lenL_cons {x:Ex} {l:List Ex} (h:WfX x):lenL (x::l)=brL (!smallX x.kind) (lenX x)+lenL l:=by
  unfold lenL;rw [List.map_cons,atomsP,List.length_append,brP_len (pc_len h)]
theorem lenL_app:∀ {l:List Ex} {x:Ex},(∀ y∈l,WfX y)→WfX x→lenL (l++[x])=lenL l+brL (!smallX x.kind) (lenX x)
  | [],x,_,hx=>by rw [List.nil_append,lenL_cons hx];show _+0=0+_;omega
  | y::l,x,h,hx=>by rw [List.cons_append,lenL_cons (h y (by simp)),lenL_cons (h y (by simp)),lenL_app (fun z hz=>h z (by simp [hz])) hx];omega
theorem atomsD_app:∀ {l:List Ex} {x:Ex},atomsD (l++[x]) ((l++[x]).map depX)=max (atomsD l (l.map depX)) (opD (!smallX x.kind) (depX x))
  | [],x=>by show max _ 0=max 0 _;omega
  | y :: l, x => by
    have ih:=atomsD_app (l:=l) (x:=x)
    rw [List.cons_append,List.map_cons,List.map_cons,atomsD,atomsD,ih];omega
theorem opD_le {b c:Bool} {d:Nat} (h:b=true→c=true):opD b d≤opD c d:=by
  unfold opD
  cases b with
  | true=>rw [h rfl];exact Nat.le_refl _
  | false=>cases c <;> simp
theorem brL_le {b c:Bool} {d:Nat} (h:b=true→c=true):brL b d≤brL c d:=by
  unfold brL
  cases b with
  | true=>rw [h rfl];exact Nat.le_refl _
  | false=>cases c <;> simp
def Fit (e:Ex) (thr i j deep:Nat):Prop:=WfX e∧opD (decide (rkX e<thr)) (depX e)+deep≤40∧brL (decide (rkX e<thr)) (lenX e)+i≤j
def FitA (e:Ex) (i j deep:Nat):Prop:=WfX e∧opD (!smallX e.kind) (depX e)+deep≤40∧brL (!smallX e.kind) (lenX e)+i≤j
def FitL (l:List Ex) (i j deep:Nat):Prop:=(∀ x∈l,WfX x)∧atomsD l (l.map depX)+deep≤40∧lenL l+i≤j
section
variable {e x y:Ex} {thr t i j m deep:Nat}
theorem Fit.le (h:Fit e thr i j deep) (ht:t≤thr):Fit e t i j deep:=by
  have k:decide (rkX e<t)=true→decide (rkX e<thr)=true:=fun h=>decide_eq_true (by have :=of_decide_eq_true h;omega)
  have h1:=opD_le (d:=depX e) k;have h2:=brL_le (d:=lenX e) k
  exact ⟨h.1,by have :=h.2.1;omega,by have :=h.2.2;omega⟩
theorem Fit.zero (h:Fit e 0 i j deep):depX e+deep≤40∧lenX e+i≤j:=by
  obtain ⟨_,h1,h2⟩:=h;rw [decide_eq_false (by omega)] at h1 h2;exact ⟨h1,h2⟩
theorem fit_zero (hw:WfX e) (h1:depX e+deep≤40) (h2:lenX e+i≤j):Fit e 0 i j deep:=⟨hw,by rw [decide_eq_false (by omega)];exact h1,by rw [decide_eq_false (by omega)];exact h2⟩
theorem fit_of (hw:WfX e) (hr:thr≤rkX e) (h1:depX e+deep≤40) (h2:lenX e+i≤j):Fit e thr i j deep:=⟨hw,by rw [decide_eq_false (by omega)];exact h1,by rw [decide_eq_false (by omega)];exact h2⟩
theorem small_rk (_hw:WfX e) (hs:smallX e.kind=true):rkX e=5:=by
  unfold smallX at hs;rw [decide_eq_true_eq] at hs;unfold rkX
  have :openX e.kind=false:=by unfold openX;rw [decide_eq_false (by omega)]
  rw [this,if_neg (by decide),if_neg (by omega)]
theorem small_dep (hw:WfX e) (hs:smallX e.kind=true):depX e=0:=by
  unfold smallX at hs;rw [decide_eq_true_eq] at hs
  cases hw with
  | var s l c h=>rw [depX];rfl
  | con s l c h=>rw [depX];rfl
  | int n l c h=>rw [depX];rfl
  | app x xs l c hx hxs hn=>simp [Ex.kind] at hs
  | op s x y l c hs' hx hy=>simp [Ex.kind] at hs
  | iff x y z l c hx hy hz=>simp [Ex.kind] at hs
  | lett s x y l c h hx hy=>simp [Ex.kind] at hs
  | free s x l c h hx=>simp [Ex.kind] at hs
theorem FitA.five (h:FitA e i j deep):Fit e 5 i j deep:=by
  have k:decide (rkX e<5)=true→(!smallX e.kind)=true:=fun h'=>by
    cases hs:smallX e.kind with
    | true=>have :=small_rk h.1 hs;have :=of_decide_eq_true h';omega
    | false=>rfl
  have h1:=opD_le (d:=depX e) k;have h2:=brL_le (d:=lenX e) k
  exact ⟨h.1,by have :=h.2.1;omega,by have :=h.2.2;omega⟩
theorem Fit.atom (h:Fit e 0 (i+1) j (deep+1)):FitA e i (j+1) deep:=by
  obtain ⟨h1,h2⟩:=h.zero
  have a:=opD_le (b:= !smallX e.kind) (c:=true) (d:=depX e) fun _=>rfl
  have b:=brL_le (b:= !smallX e.kind) (c:=true) (d:=lenX e) fun _=>rfl
  have a':opD true (depX e)=1+depX e:=rfl;have b':brL true (lenX e)=2+lenX e:=rfl;exact ⟨h.1,by omega,by omega⟩
theorem brO_rk {x:Ex} {r:Nat} {st:Bool} (h:brO x r st=true) (hr:0<r):rkX x<if st then r+1 else r:=by
  unfold brO lessX at h
  have hp:0<if st then r+1 else r:=by split <;> omega
  rw [Bool.or_eq_true] at h;unfold rkX
  rcases h with h | h
  · rw [if_pos h];exact hp
  · rw [Bool.and_eq_true,decide_eq_true_eq,Bool.or_eq_true,Bool.and_eq_true,decide_eq_true_eq,decide_eq_true_eq] at h
    by_cases ho:openX x.kind=true
    · rw [if_pos ho];exact hp
    · rw [if_neg ho,if_pos h.1]
      rcases h.2 with h2 | ⟨h2,h3⟩
      · split <;> omega
      · rw [if_pos h3];omega
theorem leftX_no {s:ByteArray} (h:2<bindsE s):leftX s=false:=by
  cases hl:leftX s with
  | false=>rfl
  | true=>have :=left_st hl;omega
theorem leftX_yes {s:ByteArray} (h:bindsE s=1∨bindsE s=2):leftX s=true:=by
  cases hl:leftX s with
  | true=>rfl
  | false=>have :=left_no hl;omega
theorem fit_op {s:ByteArray} {l c:Int} {tx ty:Nat} (hs:0<bindsE s) (hx:Fit x tx i m deep) (hy:Fit y ty (m+1) j deep) (htx:(if leftX s then bindsE s+1 else bindsE s)=tx) (hty:(if decide (s≠⟨#[63]⟩) then bindsE s+1 else bindsE s)=ty):Fit (.mk 5 s 0 [x,y] l c) (bindsE s) i j deep:=by
  have kx:brO x (bindsE s) (leftX s)=true→decide (rkX x<tx)=true:=fun h=>decide_eq_true (by have :=brO_rk h hs;omega)
  have ky:brO y (bindsE s) (decide (s≠⟨#[63]⟩))=true→decide (rkX y<ty)=true:=fun h=>decide_eq_true (by have :=brO_rk h hs;omega)
  have x1:=opD_le (d:=depX x) kx;have x2:=brL_le (d:=lenX x) kx;have y1:=opD_le (d:=depX y) ky;have y2:=brL_le (d:=lenX y) ky;obtain ⟨wx,x3,x4⟩:=hx;obtain ⟨wy,y3,y4⟩:=hy;have hd:=dep_op (s:=s) (l:=l) (c:=c) (x:=x) (y:=y)
  have hl:lenX (.mk 5 s 0 [x,y] l c)=brL (brO x (bindsE s) (leftX s)) (lenX x)+(brL (brO y (bindsE s) (decide (s≠⟨#[63]⟩))) (lenX y)+1):=by
    show (pcX _ 0).length=_
    rw [pc_op,List.length_append,List.length_cons,brP_len (pc_len wx),brP_len (pc_len wy)]
  exact fit_of (.op s x y l c hs wx wy) (Nat.le_refl _) (by rw [hd];omega) (by rw [hl];omega)
theorem FitL.add {l:List Ex} (h:FitL l i m deep) (hx:FitA x m j deep):FitL (l++[x]) i j deep:=by
  refine ⟨fun y hy=>?_,?_,?_⟩
  · rcases List.mem_append.1 hy with hy | hy
    · exact h.1 y hy
    · rw [List.mem_singleton.1 hy];exact hx.1
  · rw [atomsD_app];have :=h.2.1;have :=hx.2.1;omega
  · rw [lenL_app h.1 hx.1];have :=h.2.2;have :=hx.2.2;omega
theorem FitL.fit {l:List Ex} (hn:l≠[]) (h:FitL l i j deep):Fit (appE l) 5 i j deep:=by
  obtain ⟨h1,h2,h3⟩:=h
  match l,hn with
  | [x], _ =>
    have hx:=h1 x (by simp);rw [lenL_cons hx] at h3;have h2':max (opD (!smallX x.kind) (depX x)) 0+deep≤40:=h2;have h3':brL (!smallX x.kind) (lenX x)+0+i≤j:=h3
    show Fit x 5 i j deep
    exact FitA.five ⟨hx,by omega,by omega⟩
  | x :: y :: r, _ =>
    have hx:=h1 x (by simp);rw [lenL_cons hx] at h3
    have hl:lenX (.mk 4 .empty 0 (x::y::r) x.line x.col)=brL (!smallX x.kind) (lenX x)+lenL (y::r):=by
      show (pcX _ 0).length=_
      rw [pc_app,List.length_append,brP_len (pc_len hx)]
      rfl
    have hd:depX (.mk 4 .empty 0 (x::y::r) x.line x.col)+deep≤40:=by rw [dep_app];exact h2
    show Fit (.mk 4 .empty 0 (x::y::r) x.line x.col) 5 i j deep
    exact fit_of (.app x (y::r) _ _ hx (fun z hz=>h1 z (List.mem_cons_of_mem _ hz)) (by simp)) (Nat.le_refl _) hd (by rw [hl];omega)
end
def TkOk (t:Tk):Prop:=t.k=2∨t.k=3∨t.k=4→TokOk t.k t.s.data.toList t.n
def fitR (nt:Nt) (i j deep:Nat) (e:Ex):Prop:=
  match nt with
  | .expr=>Fit e 0 i j deep
  | .or=>Fit e 1 i j deep
  | .left r=>2≤r→r≤5→Fit e r i j deep
  | .more r x=>2≤r→r≤4→∀ i0,Fit x (if r=2 then 3 else r) i0 i deep→Fit e r i0 j deep
  | .apps l=>l≠[]→∀ i0,FitL l i0 i deep→Fit e 5 i0 j deep
  | .atom=>FitA e i j deep
  | _=>True
theorem plain_fit {t:Tk} {e:Ex} {i deep:Nat} (h:plainE t=some e) (ht:TkOk t) (hd:deep≤40):FitA e i (i+1) deep:=by
  unfold plainE at h
  have z1:∀ {e:Ex},WfX e→smallX e.kind=true→(pcX e 0).length=1→FitA e i (i+1) deep:=fun {e} hw hs hl=>⟨hw,by rw [hs,small_dep hw hs];show 0+deep≤40;omega,by rw [hs];show (pcX e 0).length+i≤_;omega⟩
  split at h
  · rename_i h2
    cases h;have :=ht (.inl h2);rw [h2] at this;refine z1 (.var _ _ _ ?_) rfl (by rw [pc_var];rfl);obtain ⟨r,hr⟩:=this;have e0:t.n=0:=tok_nought hr (.inl rfl);rw [e0] at hr;exact ⟨r,hr⟩
  · split at h
    · rename_i _ h3
      cases h;have :=ht (.inr (.inl h3));rw [h3] at this;refine z1 (.con _ _ _ ?_) rfl (by rw [pc_con];rfl);obtain ⟨r,hr⟩:=this;have e0:t.n=0:=tok_nought hr (.inr rfl);rw [e0] at hr;exact ⟨r,hr⟩
    · split at h
      · rename_i _ _ h4
        cases h;have :=ht (.inr (.inr h4));rw [h4] at this;have e:=(tok_num this).1;rw [e] at this;exact z1 (.int _ _ _ this) rfl (by rw [pc_int];rfl)
      · cases h
theorem readE_fit {ts:List Tk} (htk:∀ i,TkOk (nowT ts i)):∀ (f:Nat) (nt:Nt) (i deep:Nat) (e:Ex) (j:Nat),deep≤40→readE ts f nt i deep=some (.ok e j)→fitR nt i j deep e:=by
  intro f
  induction f with
  | zero=>intro nt i deep e j _ h;rw [readE] at h;cases h
  | succ f ih =>
    intro nt i deep e j hd h
    have nm:∀ {i},(nowT ts i).k=2→TokOk 2 (nowT ts i).s.data.toList 0:=fun {i} h2=>by
      have :=htk i (.inl h2);rw [h2] at this;obtain ⟨r,hr⟩:=this;have e0:=tok_nought hr (.inl rfl);rw [e0] at hr;exact ⟨r,hr⟩
    cases nt with
    | expr =>
      rw [readE] at h
      split at h
      · split at h
        · cases h
        rename_i hd40
        split at h
        · cases h
        rename_i hk2
        have hk2:(nowT ts (i+1)).k=2:=Decidable.not_not.1 hk2
        split at h
        · obtain ⟨_,h⟩:=takeT_ok h
          obtain ⟨x,j1,hx,h⟩:=andT_ok h
          injection h with h;injection h with h1 h2;subst h1 h2
          have gx:=ih .expr _ _ _ _ (by omega) hx;obtain ⟨x1,x2⟩:=Fit.zero gx
          have hl:∀ {s l c},lenX (.mk 8 s 0 [x] l c)=4+lenX x:=fun {s l c} =>by
            show (pcX _ 0).length=_
            rw [pc_free];simp only [List.length_cons]
            rw [pc_len gx.1];omega
          exact fit_zero (.free _ _ _ _ (nm hk2) gx.1) (by rw [dep_free];omega) (by rw [hl];omega)
        · obtain ⟨_,h⟩:=takeT_ok h
          obtain ⟨x,j1,hx,h⟩:=andT_ok h;obtain ⟨_,h⟩:=takeT_ok h;obtain ⟨y,j2,hy,h⟩:=andT_ok h
          injection h with h;injection h with h1 h2;subst h1 h2
          have gx:=ih .expr _ _ _ _ (by omega) hx;have gy:=ih .expr _ _ _ _ (by omega) hy;obtain ⟨x1,x2⟩:=Fit.zero gx;obtain ⟨y1,y2⟩:=Fit.zero gy
          have hl:∀ {s l c},lenX (.mk 7 s 0 [x,y] l c)=4+lenX x+lenX y:=fun {s l c} =>by
            show (pcX _ 0).length=_
            rw [pc_let];simp only [List.length_cons,List.length_append]
            rw [pc_len gx.1,pc_len gy.1];omega
          exact fit_zero (.lett _ _ _ _ _ (nm hk2) gx.1 gy.1) (by rw [dep_let];omega) (by rw [hl];omega)
      · split at h
        · split at h
          · cases h
          rename_i hd40
          obtain ⟨x,j1,hx,h⟩:=andT_ok h;obtain ⟨_,h⟩:=takeT_ok h;obtain ⟨y,j2,hy,h⟩:=andT_ok h;obtain ⟨_,h⟩:=takeT_ok h;obtain ⟨z,j3,hz,h⟩:=andT_ok h
          injection h with h;injection h with h1 h2;subst h1 h2
          have gx:=ih .expr _ _ _ _ (by omega) hx;have gy:=ih .expr _ _ _ _ (by omega) hy;have gz:=ih .expr _ _ _ _ (by omega) hz;obtain ⟨x1,x2⟩:=Fit.zero gx;obtain ⟨y1,y2⟩:=Fit.zero gy;obtain ⟨z1,z2⟩:=Fit.zero gz
          have hl:∀ {l c},lenX (.mk 6 .empty 0 [x,y,z] l c)=3+lenX x+lenX y+lenX z:=fun {l c} =>by
            show (pcX _ 0).length=_
            rw [pc_if];simp only [List.length_cons,List.length_append]
            rw [pc_len gx.1,pc_len gy.1,pc_len gz.1];omega
          exact fit_zero (.iff _ _ _ _ _ gx.1 gy.1 gz.1) (by rw [dep_if];omega) (by rw [hl];omega)
        · exact Fit.le (ih .or _ _ _ _ hd h) (Nat.zero_le _)
    | or =>
      rw [readE] at h;obtain ⟨x,j1,hx,h⟩:=andT_ok h;have gx:Fit x 2 i j1 deep:=ih (.left 2) _ _ _ _ hd hx (by decide) (by decide)
      split at h
      · obtain ⟨y,j2,hy,h⟩:=andT_ok h
        injection h with h;injection h with h1 h2;subst h1 h2
        have gy:Fit y 1 (j1+1) _ deep:=ih .or _ _ _ _ hd hy;exact fit_op (s:=wOr) (by decide) gx gy (by decide) (by decide)
      · injection h with h;injection h with h1 h2;subst h1 h2
        exact gx.le (by decide)
    | left r =>
      rw [readE] at h;intro hr hr5
      split at h
      · rename_i h4
        obtain rfl:r=5:=by omega
        obtain ⟨x,j1,hx,h⟩:=andT_ok h;have gx:FitA x i j1 deep:=ih .atom _ _ _ _ hd hx;exact ih (.apps [x]) _ _ _ _ hd h (by simp) i (FitL.add (l:=[]) (m:=i) ⟨fun y hy=>absurd hy List.not_mem_nil,by show 0+deep≤40;exact Nat.le_trans (Nat.le_of_eq (Nat.zero_add deep)) hd,by show 0+i≤i;exact Nat.le_of_eq (Nat.zero_add i)⟩ gx)
      · obtain ⟨x,j1,hx,h⟩:=andT_ok h
        have gx:Fit x (r+1) i j1 deep:=ih (.left (r+1)) _ _ _ _ hd hx (by omega) (by omega)
        exact ih (.more r x) _ _ _ _ hd h hr (by omega) i (gx.le (by split <;> omega))
    | more r x =>
      rw [readE] at h;intro hr hr4 i0 gx
      split at h
      · rename_i hb
        obtain ⟨hk,hb⟩:=hb;obtain ⟨y,j1,hy,h⟩:=andT_ok h;have gy:Fit y (r+1) (i+1) j1 deep:=ih (.left (r+1)) _ _ _ _ hd hy (by omega) (by omega)
        have hty:(if decide ((nowT ts i).s≠⟨#[63]⟩) then bindsE (nowT ts i).s+1 else bindsE (nowT ts i).s)=r+1:=by
          have :(nowT ts i).s≠⟨#[63]⟩:=fun e=>by
            rw [e] at hb
            have :bindsE ⟨#[63]⟩=1:=by decide
            omega
          rw [decide_eq_true this,if_pos rfl,hb]
        by_cases h2:r=2
        · simp only [if_pos h2] at h
          injection h with h;injection h with h1 h3;subst h1 h3
          rw [if_pos h2] at gx;have :=fit_op (s:=(nowT ts i).s) (l:=(nowT ts i).l) (c:=(nowT ts i).c) (by omega) gx gy (by rw [leftX_yes (.inr (by omega)),if_pos rfl];omega) hty;rw [hb] at this;exact this
        · simp only [if_neg h2] at h
          rw [if_neg h2] at gx;have :=fit_op (s:=(nowT ts i).s) (l:=(nowT ts i).l) (c:=(nowT ts i).c) (by omega) gx gy (by rw [leftX_no (by omega),if_neg (by decide)];exact hb) hty;rw [hb] at this;exact ih (.more r _) _ _ _ _ hd h hr hr4 i0 (by rw [if_neg h2];exact this)
      · injection h with h;injection h with h1 h2;subst h1 h2
        exact gx.le (by split <;> omega)
    | apps l =>
      rw [readE] at h;intro hn i0 gl
      split at h
      · obtain ⟨x,j1,hx,h⟩:=andT_ok h
        have gx:FitA x i j1 deep:=ih .atom _ _ _ _ hd hx;exact ih (.apps (l++[x])) _ _ _ _ hd h (by simp) i0 (gl.add gx)
      · injection h with h;injection h with h1 h2;subst h1 h2
        exact gl.fit hn
    | atom =>
      rw [readE] at h
      cases hp:plainE (nowT ts i) with
      | some y =>
        rw [hp] at h
        injection h with h;injection h with h1 h2;subst h1 h2
        exact plain_fit hp (htk i) hd
      | none =>
        rw [hp] at h;simp only at h
        split at h
        · split at h
          · cases h
          obtain ⟨x,j1,hx,h⟩:=andT_ok h;obtain ⟨_,h⟩:=takeT_ok h
          injection h with h;injection h with h1 h2;subst h1 h2
          have gx:Fit x 0 (i+1) j1 (deep+1):=ih .expr _ _ _ _ (by omega) hx;exact gx.atom
        · cases h
    | pat=>trivial
    | pats l=>trivial
end
end Go.Proofs.YtcoiagfeoonpbaaGreat
