/-
  A program told as a text, and read of it. Plain laws. No condition but what the tokens are.
-/
import Derived.Test.YtcoiagfeoonpbaaGreatSm40
set_option maxHeartbeats 20000000
set_option maxRecDepth 100000
namespace Go.Proofs.YtcoiagfeoonpbaaGreat
section
def itP:Bool→List (Nat→List Pc)→List Pc
  | _,[]=>[]
  | first,f::fs=>f (if first then 0 else 2)++itP false fs
def itemsF (ds:List Da) (rs:List Ru):List (Nat→List Pc):=ds.map (fun d b=>dataP b d)++rs.map fun r b=>ruleP b r
def tkP (p:Pc):Int × ByteArray × Int:=(p.k,str p.s,p.n)
def itT:List (Nat→List Pc)→List (Int × ByteArray × Int)
  | []=>[(0,str [],0)]
  | f::fs=>(1,str [],0)::((f 0).map tkP++itT fs)
def Item (f:Nat→List Pc):Prop:=∃ k s n l,(∀ b,f b=(⟨b,k,s,n⟩:Pc)::l)∧∀ p∈l,p.b<2
theorem tokP_line:∀ (l R:List Pc),(∀ p∈l,p.b<2)→tokP false (l++R)=l.map tkP++tokP false R
  | [],R,_=>rfl
  | p :: l, R, h => by
    have hp:=h p (by simp);rw [List.cons_append,tokP,if_neg (by simp;omega),tokP_line l R fun q hq=>h q (by simp [hq])]
    rfl
theorem tokP_it:∀ (fs:List (Nat→List Pc)) (first:Bool),(∀ f∈fs,Item f)→tokP first (itP first fs)=itT fs
  | [],_,_=>rfl
  | f :: fs, first, h => by
    obtain ⟨k,s,n,l,hf,hl⟩:=h f (by simp)
    have ih:=tokP_it fs false fun g hg=>h g (by simp [hg])
    rw [itP,itT,hf,hf,List.cons_append,tokP,tokP_line l _ hl,ih]
    cases first with
    | true=>rw [if_pos (by simp)];rfl
    | false=>rw [if_pos (by simp)];rfl
def AtV (ts:List Tk) (i:Nat) (L:List (Int × ByteArray × Int)):Prop:=∀ j v,L[j]?=some v→(nowT ts (i+j)).k=v.1∧(nowT ts (i+j)).s=v.2.1∧(nowT ts (i+j)).n=v.2.2
section
variable {ts:List Tk}
theorem AtV.head {i:Nat} {v:Int × ByteArray × Int} {L:List (Int × ByteArray × Int)} (h:AtV ts i (v::L)):((nowT ts i).k=v.1∧(nowT ts i).s=v.2.1)∧AtV ts (i+1) L:=by
  refine ⟨⟨(h 0 v rfl).1,(h 0 v rfl).2.1⟩,fun j u hj=>?_⟩;rw [show i+1+j=i+(j+1) by omega];exact h (j+1) u (by rw [List.getElem?_cons_succ];exact hj)
theorem AtV.app {i:Nat} {l:List Pc} {L:List (Int × ByteArray × Int)} (h:AtV ts i (l.map tkP++L)):AtX ts i l∧AtV ts (i+l.length) L:=by
  refine ⟨fun j hj=>?_,fun j u hj=>?_⟩;· exact h j (tkP l[j]) (by rw [List.getElem?_append_left (by rw [List.length_map];exact hj),List.getElem?_map,List.getElem?_eq_getElem hj];rfl)
  · rw [Nat.add_assoc]
    refine h (l.length+j) u ?_;rw [List.getElem?_append_right (by rw [List.length_map];omega),List.length_map,Nat.add_sub_cancel_left];exact hj
theorem itT_head {i:Nat} {fs:List (Nat→List Pc)} (h:AtV ts i (itT fs)):(nowT ts i).k=0∨(nowT ts i).k=1:=by
  cases fs with
  | nil=>exact .inl h.head.1.1
  | cons f fs=>exact .inr h.head.1.1
theorem rd_items {F g:Nat} (hF:8 * ts.length+8≤F) (hg:4 * ts.length+8≤g):∀ (ds:List Da) (rs:List Ru) (i f:Nat) (ad:List Da) (ar:List Ru),ds.length+rs.length<f→(∀ d∈ds,WfDa d)→(∀ r∈rs,WfRu r)→AtV ts i (itT (itemsF ds rs))→
    ∃ ds' rs' j,All2 DaS ds ds'∧All2 RuS rs rs'∧itemsM ts F g f ad ar ⟨i,none⟩=some (ad++ds',ar++rs',⟨j,none⟩)
  | [], [], i, f, ad, ar, hf, _, _, ha => by
    obtain ⟨f,rfl⟩:∃ k,f=k+1:=⟨f - 1,by simp at hf;omega⟩;have h0:(nowT ts i).k=0:=(AtV.head (L:=[]) ha).1.1;refine ⟨[],[],i,.nil,.nil,?_⟩;rw [itemsM,if_neg (by show ¬((true && !decide ((nowT ts i).k=0))=true);rw [h0];decide),List.append_nil,List.append_nil]
  | d :: ds, rs, i, f, ad, ar, hf, hd, hr, ha => by
    obtain ⟨f,rfl⟩:∃ k,f=k+1:=⟨f - 1,by simp at hf;omega⟩;rw [List.length_cons] at hf;have ha:AtV ts i ((1,str [],0)::((dataP 0 d).map tkP++itT (itemsF ds rs))):=ha;obtain ⟨⟨k0,s0⟩,a1⟩:=ha.head;obtain ⟨ad',a2⟩:=a1.app;have he:=itT_head a2
    have hlt:i+1+(dataP 0 d).length<ts.length:=now_lt (by rcases he with h | h <;> rw [h] <;> decide)
    obtain ⟨d',hs,h1⟩:=rd_data (hd d (by simp)) ad' (by omega) he (g:=g) (by omega);obtain ⟨ds',rs',j,q1,q2,q3⟩:=rd_items hF hg ds rs _ f (ad++[d']) ar (by omega) (fun z hz=>hd z (by simp [hz])) hr a2;refine ⟨d'::ds',rs',j,.cons hs q1,q2,?_⟩;have hk0:(nowT ts i).k=1:=k0;have t0:takeS ts ⟨i,none⟩ 1 ⟨#[]⟩=⟨i+1,none⟩:=takeS_at ⟨k0,s0⟩
    have hw:isS ts ⟨i+1,none⟩ 5 wData=true:=by
      unfold dataP at ad';exact isS_at ad'.head.1 rfl
    rw [itemsM,if_pos (by show (true && !decide ((nowT ts i).k=0))=true;rw [hk0];decide),t0,if_pos hw,h1]
    show itemsM ts F g f (ad++[d']) ar ⟨i+1+(dataP 0 d).length,none⟩=_
    rw [q3]
    simp
  | [], r :: rs, i, f, ad, ar, hf, hd, hr, ha => by
    obtain ⟨f,rfl⟩:∃ k,f=k+1:=⟨f - 1,by simp at hf;omega⟩;rw [List.length_cons] at hf;have ha:AtV ts i ((1,str [],0)::((ruleP 0 r).map tkP++itT (itemsF [] rs))):=ha;obtain ⟨⟨k0,s0⟩,a1⟩:=ha.head;obtain ⟨ar',a2⟩:=a1.app;have he:=itT_head a2
    have hlt:i+1+(ruleP 0 r).length<ts.length:=now_lt (by rcases he with h | h <;> rw [h] <;> decide)
    obtain ⟨r',hs,h1⟩:=rd_rule (hr r (by simp)) ar' (by omega) he hF (f:=g) (by omega);obtain ⟨ds',rs',j,q1,q2,q3⟩:=rd_items hF hg [] rs _ f ad (ar++[r']) (by simp at hf ⊢;omega) hd (fun z hz=>hr z (by simp [hz])) a2;refine ⟨ds',r'::rs',j,q1,.cons hs q2,?_⟩;have hk0:(nowT ts i).k=1:=k0;have t0:takeS ts ⟨i,none⟩ 1 ⟨#[]⟩=⟨i+1,none⟩:=takeS_at ⟨k0,s0⟩
    have hw:isS ts ⟨i+1,none⟩ 5 wData=false:=by
      unfold ruleP at ar';unfold isS;rw [show isT ts (⟨i+1,none⟩:MS).i 5 wData=false from isT_not (by show ¬(nowT ts (i+1)).k=5;rw [ar'.head.1.1];show ¬((2:Int)=5);decide)]
      rfl
    rw [itemsM,if_pos (by show (true && !decide ((nowT ts i).k=0))=true;rw [hk0];decide),t0,if_neg (by rw [hw];decide),h1]
    show itemsM ts F g f ad (ar++[r']) ⟨i+1+(ruleP 0 r).length,none⟩=_
    rw [q3]
    simp
end
end
section
def conB (c:Cn):List UInt8:=c.name.data.toList++argsTB c.types
def consB:List Cn→List UInt8
  | []=>[]
  | c::cs=>32::124::32::(conB c++consB cs)
def consFB:List Cn→List UInt8
  | []=>[]
  | c::cs=>conB c++consB cs
def varsB:List ByteArray→List UInt8
  | []=>[]
  | v::vs=>32::(v.data.toList++varsB vs)
def dataB (d:Da):List UInt8:=[100,97,116,97,32]++(d.name.data.toList++(varsB d.vars++(32::61::32::consFB d.cons)))
def patsB:List Ex→List UInt8
  | []=>[]
  | p::ps=>32::((patX p).data.toList++patsB ps)
def guardB:List Ex→List UInt8
  | []=>[]
  | g::gs=>32::124::32::((showX g).data.toList++guardB gs)
def ruleB (r:Ru):List UInt8:=r.name.data.toList++(patsB r.pats++(guardB r.guard++(32::61::32::(showX r.body).data.toList)))
def linesB:List (List UInt8)→List UInt8
  | []=>[]
  | x::xs=>x++10::linesB xs
def textB (ds:List Da) (rs:List Ru):List UInt8:=linesB (ds.map dataB++rs.map ruleB)
theorem txt_con {c:Cn} (h:WfCn c) (b:Nat):txtP (conP b c)=sepB b++conB c:=by
  unfold conP conB;rw [txtP,txt_tys _ h.ok,Pc.txt,List.append_assoc]
theorem txt_cons:∀ {cs:List Cn},(∀ c∈cs,WfCn c)→txtP (consP cs)=consB cs
  | [],_=>rfl
  | c :: cs, h => by
    rw [consP,consB,txtP,txtP_app,txt_con (h c (by simp)),txt_cons fun z hz=>h z (by simp [hz])]
    simp [Pc.txt,sepB]
theorem txt_vars:∀ (vs:List ByteArray),txtP (varsP vs)=varsB vs
  | []=>rfl
  | v::vs=>by rw [varsP,varsB,txtP,txt_vars vs];simp [Pc.txt,sepB]
theorem txt_data {d:Da} (h:WfDa d) (b:Nat):txtP (dataP b d)=sepB b++dataB d:=by
  obtain ⟨name,vars,cons,l,c⟩:=d;have hn:cons≠[]:=h.some
  obtain ⟨c0,cs,rfl⟩:∃ c0 cs,cons=c0::cs:=by
    cases cons with
    | nil=>exact absurd rfl hn
    | cons x y=>exact ⟨x,y,rfl⟩
  unfold dataP dataB consF consFB;rw [txtP,txtP,txtP_app,txtP,txtP_app,txt_vars,txt_con (h.cons c0 (by simp)),txt_cons fun z hz=>h.cons z (by simp [hz])]
  simp [Pc.txt,sepB]
theorem txt_pats:∀ {ps:List Ex},(∀ p∈ps,WfP p)→txtP (pcQs ps)=patsB ps
  | [],_=>rfl
  | p::ps,h=>by rw [pcQs,patsB,txtP_app,txt_pat (h p (by simp)),txt_pats fun z hz=>h z (by simp [hz])];simp [sepB]
theorem txt_guard:∀ {gs:List Ex},(∀ g∈gs,WfX g)→txtP (guardP gs)=guardB gs
  | [],_=>rfl
  | g::gs,h=>by rw [guardP,guardB,txtP,txtP_app,txt_ex (h g (by simp)),txt_guard fun z hz=>h z (by simp [hz])];simp [Pc.txt,sepB]
theorem txt_rule {r:Ru} (h:WfRu r) (b:Nat):txtP (ruleP b r)=sepB b++ruleB r:=by
  unfold ruleP ruleB;rw [txtP,txtP_app,txtP_app,txtP,txt_pats fun p hp=>(h.pats p hp).1,txt_guard fun g hg=>(h.guard g hg).1,txt_ex h.body.1]
  simp [Pc.txt,sepB]
theorem tkw_data:TokOk 5 [100,97,116,97] 0:=⟨[100,97,116,97],by decide⟩
theorem tkw_bar:TokOk 6 [124] 0:=⟨[124,32],by decide⟩
theorem b1_ok {k:Int} {s:List UInt8} {n:Int} {l:List Pc} :HeadOk ((⟨1,k,s,n⟩:Pc)::l):=headOk_cons (.inl (by show ¬(1=0);decide))
theorem okP_con {c:Cn} (h:WfCn c) (b:Nat) {R:List Pc} (ho:OkP R) (hh:HeadOk R):OkP (conP b c++R):=by
  unfold conP;obtain ⟨h1,h2⟩:=okP_tys c.types R h.ok h.nm ho hh;exact okP_word h.name h2 h1
theorem okP_cons:∀ {cs:List Cn},(∀ c∈cs,WfCn c)→∀ {R:List Pc},OkP R→HeadOk R→OkP (consP cs++R)∧HeadOk (consP cs++R)
  | [],_,R,ho,hh=>⟨ho,hh⟩
  | c :: cs, h, R, ho, hh => by
    obtain ⟨h1,h2⟩:=okP_cons (cs:=cs) (fun z hz=>h z (by simp [hz])) ho hh;rw [consP,List.cons_append,List.append_assoc];exact ⟨okP_word tkw_bar b1_ok (okP_con (h c (by simp)) 1 h1 h2),b1_ok⟩
theorem okP_vars:∀ {vs:List ByteArray},(∀ v∈vs,TokOk 2 v.data.toList 0)→∀ {R:List Pc},OkP R→HeadOk R→OkP (varsP vs++R)∧HeadOk (varsP vs++R)
  | [],_,R,ho,hh=>⟨ho,hh⟩
  | v :: vs, h, R, ho, hh => by
    obtain ⟨h1,h2⟩:=okP_vars (vs:=vs) (fun z hz=>h z (by simp [hz])) ho hh;rw [varsP,List.cons_append];exact ⟨okP_word (h v (by simp)) h2 h1,b1_ok⟩
theorem okP_dataP {d:Da} (h:WfDa d) (b:Nat) {R:List Pc} (ho:OkP R) (hh:HeadOk R):OkP (dataP b d++R):=by
  obtain ⟨name,vars,cons,l,c⟩:=d;have hn:cons≠[]:=h.some
  obtain ⟨c0,cs,rfl⟩:∃ c0 cs,cons=c0::cs:=by
    cases cons with
    | nil=>exact absurd rfl hn
    | cons x y=>exact ⟨x,y,rfl⟩
  obtain ⟨h1,h2⟩:=okP_cons (fun z hz=>h.cons z (List.mem_cons_of_mem _ hz)) ho hh;have h3:=okP_con (h.cons c0 (by simp)) 1 h1 h2;have h4:OkP ((⟨1,6,[61],0⟩:Pc)::(conP 1 c0++(consP cs++R))):=okP_word tkw_eq b1_ok h3;obtain ⟨h5,h6⟩:=okP_vars h.vars h4 b1_ok;unfold dataP consF;rw [List.cons_append,List.cons_append,List.append_assoc,List.cons_append,List.append_assoc];exact okP_word tkw_data b1_ok (okP_word h.name h6 h5)
theorem okP_guard:∀ {gs:List Ex},(∀ g∈gs,WfX g)→∀ {R:List Pc},OkP R→HeadOk R→OkP (guardP gs++R)∧HeadOk (guardP gs++R)
  | [],_,R,ho,hh=>⟨ho,hh⟩
  | g :: gs, h, R, ho, hh => by
    obtain ⟨h1,h2⟩:=okP_guard (gs:=gs) (fun z hz=>h z (by simp [hz])) ho hh;rw [guardP,List.cons_append,List.append_assoc];exact ⟨okP_word tkw_bar (headOk_ex (h g (by simp)) false _) (okP_ex (h g (by simp)) 1 _ h1 h2),b1_ok⟩
theorem okP_ruleP {r:Ru} (h:WfRu r) (b:Nat) {R:List Pc} (ho:OkP R) (hh:HeadOk R):OkP (ruleP b r++R):=by
  have h1:OkP ((⟨1,6,[61],0⟩:Pc)::(pcX r.body 1++R)):=okP_word tkw_eq (headOk_ex h.body.1 false _) (okP_ex h.body.1 1 _ ho hh);obtain ⟨h2,h3⟩:=okP_guard (fun g hg=>(h.guard g hg).1) h1 b1_ok;have h4:=okP_pats (fun p hp=>(h.pats p hp).1) (fun p hp=>okP_pat (h.pats p hp).1) _ h2 h3;unfold ruleP;rw [List.cons_append,List.append_assoc,List.append_assoc,List.cons_append];exact okP_word h.name (headOk_pats (fun p hp=>(h.pats p hp).1) h3) h4
def Flat (l:List Pc):Prop:=∀ p∈l,p.b<2
theorem Flat.app {l m:List Pc} (h:Flat l) (h':Flat m):Flat (l++m):=fun p hp=>(List.mem_append.1 hp).elim (h p) (h' p)
theorem Flat.cons {p:Pc} {l:List Pc} (hp:p.b<2) (h:Flat l):Flat (p::l):=fun q hq=>(List.mem_cons.1 hq).elim (fun e=>e ▸ hp) (h q)
theorem Flat.nil:Flat []:=fun p hp=>by cases hp
theorem Short.flat {l:List Pc} (h:Short l):Flat l:=fun p hp=>(h p hp).1
theorem flat_con (c:Cn) (b:Nat) (hb:b<2):Flat (conP b c):=.cons hb (pcTs_flat c.types)
theorem flat_cons:∀ (cs:List Cn),Flat (consP cs)
  | []=>.nil
  | c::cs=>.cons (by show 1<2;decide) ((flat_con c 1 (by decide)).app (flat_cons cs))
theorem flat_vars:∀ (vs:List ByteArray),Flat (varsP vs)
  | []=>.nil
  | _::vs=>.cons (by show 1<2;decide) (flat_vars vs)
theorem flat_guard:∀ {gs:List Ex},(∀ g∈gs,WfX g)→Flat (guardP gs)
  | [],_=>.nil
  | g::gs,h=>.cons (by show 1<2;decide) ((short_ex (h g (by simp)) 1 (by decide)).flat.app (flat_guard fun z hz=>h z (by simp [hz])))
theorem item_data (d:Da):Item fun b=>dataP b d:=by
  refine ⟨_,_,_,_,fun b=>rfl,?_⟩;refine Flat.cons (by show 1<2;decide) ((flat_vars d.vars).app (Flat.cons (by show 1<2;decide) ?_))
  cases d.cons with
  | nil=>exact .nil
  | cons c cs=>exact (flat_con c 1 (by decide)).app (flat_cons cs)
theorem item_rule {r:Ru} (h:WfRu r):Item fun b=>ruleP b r:=by
  refine ⟨_,_,_,_,fun b=>rfl,?_⟩;exact (pats_short fun p hp=>short_pat (h.pats p hp).1).flat.app ((flat_guard fun g hg=>(h.guard g hg).1).app (Flat.cons (by show 1<2;decide) (short_ex h.body.1 1 (by decide)).flat))
structure Itm (f:Nat→List Pc) (t:List UInt8):Prop where
  item:Item f
  text:∀ b,txtP (f b)=sepB b++t
  ok:∀ b R,OkP R→HeadOk R→OkP (f b++R)
theorem it_false {fs:List (Nat→List Pc)} {tx:List (List UInt8)} (h:All2 Itm fs tx):txtP (itP false fs)++[10]=10::linesB tx∧OkP (itP false fs)∧HeadOk (itP false fs):=by
  induction h with
  | nil=>exact ⟨rfl,.nil,fun q l e=>by cases e⟩
  | cons hf _ ih =>
    obtain ⟨i1,i2,i3⟩:=ih;refine ⟨?_,?_,?_⟩
    · rw [itP,txtP_app,if_neg (by decide),hf.text 2,linesB,List.append_assoc,i1]
      rfl
    · rw [itP]
      exact hf.ok _ _ i2 i3
    · obtain ⟨k,s,n,l,he,_⟩:=hf.item
      rw [itP,he];exact headOk_cons (.inl (by show ¬(2=0);decide))
theorem it_true {f:Nat→List Pc} {t:List UInt8} {fs:List (Nat→List Pc)} {tx:List (List UInt8)} (hf:Itm f t) (h:All2 Itm fs tx):txtP (itP true (f::fs))++[10]=linesB (t::tx)∧OkP (itP true (f::fs)):=by
  obtain ⟨i1,i2,i3⟩:=it_false h;refine ⟨?_,?_⟩
  · rw [itP,txtP_app,if_pos rfl,hf.text 0,linesB,List.append_assoc,i1]
    rfl
  · rw [itP]
    exact hf.ok _ _ i2 i3
theorem all2_app {α β:Type} {R:α→β→Prop} {l l':List α} {m m':List β} (h:All2 R l m) (h':All2 R l' m'):All2 R (l++l') (m++m'):=by
  induction h with
  | nil=>exact h'
  | cons a _ ih=>exact .cons a ih
theorem itms {ds:List Da} {rs:List Ru} (hd:∀ d∈ds,WfDa d) (hr:∀ r∈rs,WfRu r):All2 Itm (itemsF ds rs) (ds.map dataB++rs.map ruleB):=by
  refine all2_app ?_ ?_
  · induction ds with
    | nil=>exact .nil
    | cons d ds ih=>exact .cons ⟨item_data d,txt_data (hd d (by simp)),fun b R=>okP_dataP (hd d (by simp)) b⟩ (ih fun z hz=>hd z (by simp [hz]))
  · induction rs with
    | nil=>exact .nil
    | cons r rs ih=>exact .cons ⟨item_rule (hr r (by simp)),txt_rule (hr r (by simp)),fun b R=>okP_ruleP (hr r (by simp)) b⟩ (ih fun z hz=>hr z (by simp [hz]))
theorem mod_back {ds:List Da} {rs:List Ru} {s:ByteArray} (hd:∀ d∈ds,WfDa d) (hr:∀ r∈rs,WfRu r) (hs:s.data.toList=textB ds rs) (hl:s.size≤4096):∃ ds' rs',modE s=.ok ds' rs'∧All2 DaS ds ds'∧All2 RuS rs rs':=by
  have hi:=itms hd hr
  have hitem:∀ f∈itemsF ds rs,Item f:=by
    intro f hf;unfold itemsF at hf
    rcases List.mem_append.1 hf with hf | hf
    · obtain ⟨d,_,rfl⟩:=List.mem_map.1 hf
      exact item_data d
    · obtain ⟨r,hr',rfl⟩:=List.mem_map.1 hf
      exact item_rule (hr r hr')
  have key:(lexes s).1=0∧(lexes s).2.2.2.map stripT=itT (itemsF ds rs):=by
    unfold textB at hs;rw [←tokP_it (itemsF ds rs) true hitem];generalize itemsF ds rs=fs at hi;generalize ds.map dataB++rs.map ruleB=tx at hi hs
    cases hi with
    | nil=>exact lexes_txt (tail:=[]) .nil (.inl rfl) (by rw [hs];rfl) hl
    | cons hf h =>
      obtain ⟨i1,i2⟩:=it_true hf h;exact lexes_txt i2 (.inr rfl) (by rw [hs, ←i1]) hl
  obtain ⟨l1,l2⟩:=key
  have hv:AtV (toksA s) 0 (itT (itemsF ds rs)):=fun j v hj=>by
    rw [Nat.zero_add];exact toks_at l2 hj
  have itl:∀ (fs:List (Nat→List Pc)),fs.length<(itT fs).length:=by
    intro fs
    induction fs with
    | nil=>show 0<1;decide
    | cons f fs ih=>rw [itT,List.length_cons,List.length_cons,List.length_append];omega
  have hlen:ds.length+rs.length<(toksA s).length+2:=by
    have h1:=itl (itemsF ds rs);have h2:=congrArg List.length l2
    have h3:(itemsF ds rs).length=ds.length+rs.length:=by unfold itemsF;simp
    have h4:(toksA s).length=(lexes s).2.2.2.length:=by unfold toksA;rw [List.length_map]
    rw [List.length_map] at h2
    omega
  obtain ⟨ds',rs',j,q1,q2,q3⟩:=rd_items (ts:=toksA s) (F:=fuF (toksA s)) (g:=fuG (toksA s)) (Nat.le_refl _) (Nat.le_refl _) ds rs 0 ((toksA s).length+2) [] [] hlen hd hr hv;refine ⟨ds',rs',?_,q1,q2⟩;unfold modE;rw [if_pos l1]
  show (match itemsA (toksA s) with | none=>_ | some r=>endM r)=_
  unfold itemsA;rw [q3]
  rfl
end
section
theorem tokL_nokey {r t:List UInt8} {n:Int} (h:tokL r=some (2,t,n)):isKey (str t)=false:=by
  cases r with
  | nil=>cases h
  | cons x r =>
    unfold tokL at h;simp only at h
    by_cases hc:cls x.toNat=1∨cls x.toNat=2
    · simp only [if_pos hc] at h
      split at h
      · cases h
      · rename_i hk
        split at h
        · cases h
          cases hb:isKey (str ((x::r).takeWhile partB)) with
          | true=>exact absurd hb hk
          | false=>rfl
        · split at h <;> cases h
    · simp only [if_neg hc] at h
      by_cases h3:cls x.toNat=3
      · simp only [if_pos h3] at h
        split at h <;> cases h
      · simp only [if_neg h3] at h
        rw [Option.map_eq_some_iff] at h;obtain ⟨y,_,he⟩:=h;cases he
theorem tn_three {s:ByteArray} {n:Int} (h:TokOk 3 s.data.toList n):TnOk 2 s:=by
  obtain ⟨r,hr⟩:=h
  rcases tokL_cases hr with h | h | h | h | h
  · omega
  · omega
  · have :=h.2.2;rw [str_of_data] at this;exact .inl ⟨rfl,this⟩
  · omega
  · omega
theorem tn_two {s:ByteArray} {n:Int} (h:TokOk 2 s.data.toList n):TnOk 1 s:=by
  obtain ⟨r,hr⟩:=h;have hk:=tokL_nokey hr;rw [str_of_data] at hk
  rcases tokL_cases hr with h | h | h | h | h
  · omega
  · have :=h.2.2;rw [str_of_data] at this;exact .inr ⟨rfl,this,hk⟩
  · omega
  · omega
  · omega
theorem nmTys_app {l m:List Tm} (h:NmTys l) (h':NmTys m):NmTys (l++m):=by
  induction l with
  | nil=>exact h'
  | cons t l ih=>rw [NmTys] at h;rw [List.cons_append,NmTys];exact ⟨h.1,ih h.2⟩
theorem pcTs_app (l m:List Tm):pcTs (l++m)=pcTs l++pcTs m:=by
  induction l with
  | nil=>rw [pcTs];rfl
  | cons t l ih=>rw [List.cons_append,pcTs,pcTs,ih,List.append_assoc]
def lenT (t:Tm):Nat:=(pcT 0 t).length
theorem lenT_eq (t:Tm) (b:Nat):(pcT b t).length=lenT t:=by unfold lenT;rw [pcT_eq,pcT_eq];rfl
theorem lenT_args (t:Tm):lenT t=1+(pcTs t.args).length:=by unfold lenT;rw [pcT_eq,List.length_cons];omega
theorem pcTs_one (t:Tm):(pcTs [t]).length=if t.args≠[] then 2+lenT t else lenT t:=by
  rw [pcTs,pcTs,List.append_nil]
  split
  · rw [List.length_cons,List.length_append];show lenT t+1+1=_;omega
  · exact lenT_eq t 1
def nmDone (nt:Mt) (deep:Nat) (s:MS) (x:Tm) (s':MS):Prop:=
  match nt with
  | .atom=>NmTy x∧(pcTs [x]).length+s.i≤s'.i∧depTs [x]+deep≤40
  | .typ=>NmTy x∧lenT x+s.i≤s'.i∧depT x+deep≤40
  | .atoms l=>NmTys l→depTs l+deep≤40→NmTys x.args∧(pcTs x.args).length+s.i≤(pcTs l).length+s'.i∧depTs x.args+deep≤40
theorem depTs_one (t:Tm):depTs [t]=if t.args≠[] then 1+depT t else 0:=by rw [depTs,depTs];exact Nat.max_eq_left (Nat.zero_le _)
theorem nmTy_mk {k:Int} {s:ByteArray} {n:Int} {ts:List Tm} (h:TnOk k s) (h':NmTys ts):NmTy (.mk k s n ts):=by rw [NmTy];exact ⟨h,h'⟩
theorem typeM_nm {ts:List Tk} (htk:∀ i,TkOk (nowT ts i)):∀ (f:Nat) (nt:Mt) (deep:Nat) (s:MS) (x:Tm) (s':MS),typeM ts f nt deep s=some (x,s')→deep≤40→s.ok=true→s'.ok=true→nmDone nt deep s x s':=by
  intro f
  induction f with
  | zero=>intro nt deep s x s' h;rw [typeM] at h;cases h
  | succ f ih =>
    intro nt deep s x s' h hd hs hs'
    have n2:(nowT ts s.i).k=2→TnOk 1 (nowT ts s.i).s:=fun h=>by have :=htk s.i (.inl h);rw [h] at this;exact tn_two this
    have n3:(nowT ts s.i).k=3→TnOk 2 (nowT ts s.i).s:=fun h=>by have :=htk s.i (.inr (.inl h));rw [h] at this;exact tn_three this
    have l1:∀ {k:Int} {u:ByteArray},(pcTs [Tm.mk k u 0 []]).length=1:=fun {k u} =>by
      rw [pcTs_one,if_neg (by show ¬(([]:List Tm)≠[]);simp),lenT_args]
      show 1+(pcTs []).length=1
      rw [pcTs];rfl
    have d1:∀ {k:Int} {u:ByteArray},depTs [Tm.mk k u 0 []]=0:=fun {k u} =>by rw [depTs_one,if_neg (by show ¬(([]:List Tm)≠[]);simp)]
    cases nt with
    | atom =>
      rw [typeM] at h
      split at h
      · rename_i h2
        cases h;exact ⟨nmTy_mk (n2 h2) trivial,by rw [l1];show 1+s.i≤s.i+1;omega,by rw [d1];omega⟩
      · split at h
        · rename_i h2 h3
          cases h;exact ⟨nmTy_mk (n3 h3) trivial,by rw [l1];show 1+s.i≤s.i+1;omega,by rw [d1];omega⟩
        · obtain ⟨p,h1,h2⟩:=Option.map_eq_some_iff.1 h
          obtain ⟨z,sz⟩:=p;cases h2;obtain ⟨k1,k2,k3⟩:=takeS_ok hs';have g1:=(typeM_step _ _ _ _ _ _ h1).fwd k1;obtain ⟨k4,k5,k6⟩:=takeS_ok g1.1
          have hd40: ¬deep=40:=fun e=>by rw [if_pos e,fail_notok] at k4;cases k4
          rw [if_neg hd40] at h1 k6;rw [k6] at h1;obtain ⟨q1,q2,q3⟩:NmTy z∧lenT z+(s.i+1)≤sz.i∧depT z+(deep+1)≤40:=ih .typ _ _ _ _ h1 (by omega) hs k1;rw [k3];refine ⟨q1,?_,?_⟩
          · rw [pcTs_one]
            show (if z.args≠[] then 2+lenT z else lenT z)+s.i≤sz.i+1
            split <;> omega
          · rw [depTs_one]
            show (if z.args≠[] then 1+depT z else 0)+deep≤40
            split <;> omega
    | typ =>
      rw [typeM,if_neg (by rw [hs];decide)] at h
      split at h
      · rename_i h3
        obtain ⟨p,h1,h2⟩:=Option.map_eq_some_iff.1 h;obtain ⟨z,sz⟩:=p;cases h2;have q0:NmTys []→depTs []+deep≤40→NmTys z.args∧(pcTs z.args).length+(s.i+1)≤(pcTs []).length+sz.i∧depTs z.args+deep≤40:=ih (.atoms []) _ _ _ _ h1 hd hs hs';obtain ⟨q1,q2,q4⟩:=q0 trivial (by rw [depTs];omega);refine ⟨nmTy_mk (n3 h3) q1,?_,by rw [depT_eq];exact q4⟩
        have q3:(pcTs []).length=0:=by rw [pcTs];rfl
        rw [lenT_args]
        show 1+(pcTs z.args).length+s.i≤sz.i
        omega
      · obtain ⟨q1,q2,q3⟩:NmTy x∧(pcTs [x]).length+s.i≤s'.i∧depTs [x]+deep≤40:=ih .atom _ _ _ _ h hd hs hs'
        rw [pcTs_one] at q2;rw [depTs_one] at q3
        by_cases ha:x.args=[]
        · rw [if_neg (by simp [ha])] at q2
          refine ⟨q1,q2,?_⟩
          rw [depT_eq,ha,depTs];omega
        · rw [if_pos ha] at q2 q3
          exact ⟨q1,by omega,by omega⟩
    | atoms l =>
      rw [typeM] at h
      split at h
      · obtain ⟨p,h1,h2⟩:=Option.bind_eq_some_iff.1 h
        obtain ⟨z,sz⟩:=p;have g1:=(typeM_step _ _ _ _ _ _ h2).fwd hs';obtain ⟨q1,q2,q3⟩:NmTy z∧(pcTs [z]).length+s.i≤sz.i∧depTs [z]+deep≤40:=ih .atom _ _ _ _ h1 hd hs g1.1;have r0:NmTys (l++[z])→depTs (l++[z])+deep≤40→NmTys x.args∧(pcTs x.args).length+sz.i≤(pcTs (l++[z])).length+s'.i∧depTs x.args+deep≤40:=ih (.atoms (l++[z])) _ _ _ _ h2 hd g1.1 hs';refine fun hl hdl=>?_;obtain ⟨r1,r2,r3⟩:=r0 (nmTys_app hl ⟨q1,trivial⟩) (by rw [depTs_app];omega);rw [pcTs_app,List.length_append] at r2;exact ⟨r1,by omega,r3⟩
      · cases h
        exact fun hl hdl=>⟨hl,Nat.le_refl _,hdl⟩
end
section
section
variable {ts:List Tk}
theorem tk_low {i:Nat} (htk:∀ i,TkOk (nowT ts i)) (h:(nowT ts i).k=2):TokOk 2 (nowT ts i).s.data.toList 0:=by
  have :=htk i (.inl h);rw [h] at this;obtain ⟨r,hr⟩:=this;have e0:=tok_nought hr (.inl rfl);rw [e0] at hr;exact ⟨r,hr⟩
theorem tk_up {i:Nat} (htk:∀ i,TkOk (nowT ts i)) (h:(nowT ts i).k=3):TokOk 3 (nowT ts i).s.data.toList 0:=by
  have :=htk i (.inr (.inl h));rw [h] at this;obtain ⟨r,hr⟩:=this;have e0:=tok_nought hr (.inr rfl);rw [e0] at hr;exact ⟨r,hr⟩
theorem nameS_ok {s:MS} {k:Int} (h:(nameS ts s k).2.ok=true):(nowT ts s.i).k=k∧nameS ts s k=((nowT ts s.i).s,s.next)∧s.ok=true:=by
  unfold nameS at h ⊢
  split at h
  · rename_i hk
    rw [if_pos hk];exact ⟨hk,rfl,h⟩
  · rw [fail_notok] at h;cases h
theorem conP_len (c:Cn) (b:Nat):(conP b c).length=1+(pcTs c.types).length:=by unfold conP;rw [List.length_cons];omega
theorem fit_con (htk:∀ i,TkOk (nowT ts i)) {g:Nat} {s s':MS} {c:Cn} (h:conM ts g s=some (c,s')) (hs':s'.ok=true):WfCn c∧(conP 1 c).length+s.i≤s'.i:=by
  unfold conM at h;obtain ⟨p,h1,h2⟩:=Option.map_eq_some_iff.1 h;obtain ⟨z,sz⟩:=p;cases h2;have g1:=(typeM_step _ _ _ _ _ _ h1).fwd hs';obtain ⟨n1,n2,n3⟩:=nameS_ok g1.1;have hlt:s.i<ts.length:=now_lt (by rw [n1];decide);rw [n2] at h1 ⊢;simp only at h1 ⊢;have d0:OkTys []→OkTys z.args∧s.i+1≤sz.i∧2 * depTs z.args≤max (2 * depTs []) (sz.i - (s.i+1)):=(typeM_done _ _ _ _ _ _ h1 n3 hs' (by show s.i+1≤_;omega)).1;have m0:NmTys []→depTs []+0≤40→NmTys z.args∧(pcTs z.args).length+(s.i+1)≤(pcTs []).length+sz.i∧depTs z.args+0≤40:=typeM_nm htk _ _ _ _ _ _ h1 (by decide) n3 hs';obtain ⟨m1,m2,m3⟩:=m0 trivial (by rw [depTs];omega)
  have q3:(pcTs []).length=0:=by rw [pcTs];rfl
  refine ⟨⟨tk_up htk n1,(d0 trivial).1,m1,by simpa using m3⟩,?_⟩;rw [conP_len]
  show 1+(pcTs z.args).length+s.i≤sz.i
  omega
theorem fit_vars (htk:∀ i,TkOk (nowT ts i)):∀ (f:Nat) (acc vs:List ByteArray) (s s':MS),varsM ts f acc s=some (vs,s')→(∀ v∈acc,TokOk 2 v.data.toList 0)→(∀ v∈vs,TokOk 2 v.data.toList 0)∧vs.length+s.i≤acc.length+s'.i
  | 0,acc,vs,s,s',h,_=>by rw [varsM] at h;cases h
  | f + 1, acc, vs, s, s', h, ha => by
    rw [varsM] at h
    split at h
    · rename_i hc
      rw [Bool.and_eq_true,decide_eq_true_eq] at hc;have :=fit_vars htk f _ _ _ _ h (fun v hv=>(List.mem_append.1 hv).elim (ha v) fun hv=>by rw [List.mem_singleton.1 hv];exact tk_low htk hc.2);refine ⟨this.1,?_⟩;have h2:=this.2;rw [List.length_append,List.length_singleton] at h2;have e:s.next.i=s.i+1:=rfl
      omega
    · cases h
      exact ⟨ha,Nat.le_refl _⟩
theorem consP_app (l m:List Cn):consP (l++m)=consP l++consP m:=by
  induction l with
  | nil=>rfl
  | cons c l ih=>rw [List.cons_append,consP,consP,ih,List.cons_append,List.append_assoc]
theorem fit_cons (htk:∀ i,TkOk (nowT ts i)) {g:Nat} :∀ (f:Nat) (acc cs:List Cn) (s s':MS),consM ts g f acc s=some (cs,s')→s'.ok=true→(∀ c∈acc,WfCn c)→acc≠[]→(∀ c∈cs,WfCn c)∧(consP cs).length+s.i≤(consP acc).length+s'.i∧cs≠[]
  | 0,acc,cs,s,s',h,_,_,_=>by rw [consM] at h;cases h
  | f + 1, acc, cs, s, s', h, hs', ha, hn => by
    rw [consM] at h
    split at h
    · obtain ⟨p,h1,h2⟩:=Option.bind_eq_some_iff.1 h
      obtain ⟨c,sc⟩:=p;have g1:=(consM_step g f _ _ _ h2).fwd hs';obtain ⟨w1,w2⟩:=fit_con htk h1 g1.1;obtain ⟨q1,q2,q3⟩:=fit_cons htk f _ _ _ _ h2 hs' (fun v hv=>(List.mem_append.1 hv).elim (ha v) fun hv=>by rw [List.mem_singleton.1 hv];exact w1) (by simp);refine ⟨q1,?_,q3⟩
      have e1:(consP [c]).length=(conP 1 c).length+1:=by rw [consP,consP,List.append_nil,List.length_cons]
      rw [consP_app,List.length_append,e1] at q2;have e:s.next.i=s.i+1:=rfl;have q2':(consP cs).length+sc.i≤(consP acc).length+((conP 1 c).length+1)+s'.i:=q2
      omega
    · cases h
      exact ⟨ha,Nat.le_refl _,hn⟩
theorem consF_len {cs:List Cn} (h:cs≠[]):(consF cs).length+1=(consP cs).length:=by
  cases cs with
  | nil=>exact absurd rfl h
  | cons c cs=>rw [consF,consP,List.length_cons]
theorem dataP_len (d:Da) (b:Nat):(dataP b d).length=3+d.vars.length+(consF d.cons).length:=by
  unfold dataP;simp only [List.length_cons,List.length_append,vars_len]
  omega
theorem fit_data (htk:∀ i,TkOk (nowT ts i)) {f:Nat} {s s':MS} {d:Da} (h:dataM ts f s=some (d,s')) (hs':s'.ok=true):WfDa d∧(dataP 0 d).length+s.i≤s'.i:=by
  unfold dataM at h;obtain ⟨v,h1,h⟩:=Option.bind_eq_some_iff.1 h;obtain ⟨c,h2,h⟩:=Option.bind_eq_some_iff.1 h;obtain ⟨cs,h3,h4⟩:=Option.map_eq_some_iff.1 h;obtain ⟨vs,sv⟩:=v;obtain ⟨c0,sc⟩:=c;obtain ⟨cc,se⟩:=cs;cases h4;simp only at h1 h2 h3 ⊢;have g3:=(consM_step _ _ _ _ _ h3).fwd hs';have g2:=(conM_step h2).fwd g3.1;obtain ⟨t1,_,t3⟩:=takeS_ok g2.1;have g1:=(varsM_step _ _ _ _ h1).fwd t1;obtain ⟨n1,n2,n3⟩:=nameS_ok g1.1;obtain ⟨u1,_,u3⟩:=takeS_ok n3;obtain ⟨w1,w2⟩:=fit_con htk h2 g3.1;obtain ⟨q1,q2,q3⟩:=fit_cons htk _ _ _ _ _ h3 hs' (fun z hz=>by rw [List.mem_singleton.1 hz];exact w1) (by simp);obtain ⟨v1,v2⟩:=fit_vars htk _ _ _ _ _ h1 (fun z hz=>absurd hz List.not_mem_nil);have hname:=tk_up htk n1;rw [n2];refine ⟨⟨hname,v1,q1,q3⟩,?_⟩;rw [dataP_len];have e1:=consF_len q3
  have e2:(consP [c0]).length=(conP 1 c0).length+1:=by rw [consP,consP,List.append_nil,List.length_cons]
  rw [n2,u3] at v2;rw [t3] at w2;have v2':vs.length+(s.i+1+1)≤0+sv.i:=v2;have w2':(conP 1 c0).length+(sv.i+1)≤sc.i:=w2
  show 3+vs.length+(consF cc).length+s.i≤se.i
  omega
end
end
end Go.Proofs.YtcoiagfeoonpbaaGreat
