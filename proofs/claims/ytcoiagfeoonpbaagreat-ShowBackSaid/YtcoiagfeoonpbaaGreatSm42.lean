/-
  What the reader of programs reads may be told and read again: rules, all items. Plain laws. No condition but what the tokens are.
-/
import Derived.Test.YtcoiagfeoonpbaaGreatSm41
import Derived.Test.YtcoiagfeoonpbaaGreatSm34
import Derived.Test.YtcoiagfeoonpbaaGreatSm26
import Derived.Test.YtcoiagfeoonpbaaGreatSm30
import Derived.Test.YtcoiagfeoonpbaaGreatSm28
set_option maxHeartbeats 20000000
set_option maxRecDepth 100000
namespace Go.Proofs.YtcoiagfeoonpbaaGreat
section
section
variable {ts:List Tk}
theorem partM_ok {F:Nat} {nt:Nt} {s s':MS} {x:Ex} (h:partM ts F nt s=some (x,s')) (hs':s'.ok=true):∃ j,readE ts F nt s.i 0=some (.ok x j)∧s'=⟨j,none⟩∧s.ok=true:=by
  unfold partM at h
  split at h
  · rename_i hs
    cases h;rw [hs] at hs';cases hs'
  · rename_i hs
    have hsk:s.ok=true:=by
      cases hk:s.ok with
      | true=>rfl
      | false=>exact absurd hk hs
    cases hr:readE ts F nt s.i 0 with
    | none=>rw [hr] at h;cases h
    | some r =>
      rw [hr] at h
      cases r with
      | ok y j =>
        injection h with h;injection h with h1 h2
        subst h1;exact ⟨j,rfl,h2.symm,hsk⟩
      | bad l c =>
        injection h with h;injection h with h1 h2
        rw [←h2] at hs';cases hs'
theorem pcQs_app (l m:List Ex):pcQs (l++m)=pcQs l++pcQs m:=by
  induction l with
  | nil=>rfl
  | cons x l ih=>rw [List.cons_append,pcQs,pcQs,ih,List.append_assoc]
theorem fit_pats (htk:∀ i,TkOk (nowT ts i)) {F:Nat} :∀ (f:Nat) (acc ps:List Ex) (s s':MS),patsM ts F f acc s=some (ps,s')→s'.ok=true→(∀ p∈acc,WfP p∧depQ p≤40)→(∀ p∈ps,WfP p∧depQ p≤40)∧(pcQs ps).length+s.i≤(pcQs acc).length+s'.i
  | 0,acc,ps,s,s',h,_,_=>by rw [patsM] at h;cases h
  | f + 1, acc, ps, s, s', h, hs', ha => by
    rw [patsM] at h
    split at h
    · obtain ⟨p,h1,h2⟩:=Option.bind_eq_some_iff.1 h
      obtain ⟨x,sx⟩:=p;have g1:=(patsM_step F f _ _ _ h2).fwd hs';obtain ⟨j,hr,rfl,hsk⟩:=partM_ok h1 g1.1;obtain ⟨w1,w2,w3⟩:FitQ x s.i j 0:=readP_fit htk _ .pat _ _ _ _ (by decide) hr;obtain ⟨q1,q2⟩:=fit_pats htk f _ _ _ _ h2 hs' (fun v hv=>(List.mem_append.1 hv).elim (ha v) fun hv=>by rw [List.mem_singleton.1 hv];exact ⟨w1,by omega⟩);refine ⟨q1,?_⟩
      have e1:(pcQs [x]).length=lenQ x:=by rw [pcQs,pcQs,List.append_nil];rfl
      rw [pcQs_app,List.length_append,e1] at q2;have q2':(pcQs ps).length+j≤(pcQs acc).length+lenQ x+s'.i:=q2
      omega
    · cases h
      exact ⟨ha,Nat.le_refl _⟩
theorem fit_guard (htk:∀ i,TkOk (nowT ts i)) {F:Nat} {s s':MS} {gs:List Ex} (h:guardM ts F s=some (gs,s')) (hs':s'.ok=true):(∀ g∈gs,WfX g∧depX g≤40)∧gs.length≤1∧(guardP gs).length+s.i≤s'.i:=by
  unfold guardM at h
  split at h
  · obtain ⟨p,h1,h2⟩:=Option.map_eq_some_iff.1 h
    obtain ⟨x,sx⟩:=p;cases h2;obtain ⟨j,hr,rfl,hsk⟩:=partM_ok h1 hs';have hf:Fit x 0 s.next.i j 0:=readE_fit htk _ .expr _ _ _ _ (by decide) hr;obtain ⟨z1,z2⟩:=hf.zero;refine ⟨fun g hg=>by rw [List.mem_singleton.1 hg];exact ⟨hf.1,by omega⟩,by simp,?_⟩
    have e1:(guardP [x]).length=lenX x+1:=by rw [guardP,guardP,List.append_nil,List.length_cons,pc_len hf.1]
    rw [e1];have e:s.next.i=s.i+1:=rfl
    show lenX x+1+s.i≤j
    omega
  · cases h
    exact ⟨fun g hg=>absurd hg List.not_mem_nil,by simp,by show 0+s.i≤s.i;omega⟩
theorem ruleP_len (r:Ru) (b:Nat) (h:WfX r.body):(ruleP b r).length=2+(pcQs r.pats).length+(guardP r.guard).length+lenX r.body:=by
  unfold ruleP;simp only [List.length_cons,List.length_append,pc_len h]
  omega
theorem fit_rule (htk:∀ i,TkOk (nowT ts i)) {F f:Nat} {s s':MS} {r:Ru} (h:ruleM ts F f s=some (r,s')) (hs':s'.ok=true):WfRu r∧(ruleP 0 r).length+s.i≤s'.i:=by
  unfold ruleM at h;obtain ⟨p,h1,h⟩:=Option.bind_eq_some_iff.1 h;obtain ⟨g,h2,h⟩:=Option.bind_eq_some_iff.1 h;obtain ⟨b,h3,h4⟩:=Option.map_eq_some_iff.1 h;obtain ⟨ps,sp⟩:=p;obtain ⟨gs,sg⟩:=g;obtain ⟨bx,sb⟩:=b;cases h4;simp only at h1 h2 h3 ⊢;obtain ⟨j,hr,rfl,hk⟩:=partM_ok h3 hs';obtain ⟨t1,_,t3⟩:=takeS_ok hk;have g2:=(guardM_step h2).fwd t1;have g1:=(patsM_step _ _ _ _ _ h1).fwd g2.1;obtain ⟨n1,n2,n3⟩:=nameS_ok g1.1;obtain ⟨p1,p2⟩:=fit_pats htk _ _ _ _ _ h1 g2.1 (fun z hz=>absurd hz List.not_mem_nil);obtain ⟨q1,q2,q3⟩:=fit_guard htk h2 t1;rw [t3] at hr;have hf:Fit bx 0 sg.next.i j 0:=readE_fit htk _ .expr _ _ _ _ (by decide) hr;obtain ⟨z1,z2⟩:=hf.zero;have hname:=tk_low htk n1;rw [n2] at p2 ⊢;refine ⟨⟨hname,p1,q1,q2,hf.1,by show depX bx≤40;omega⟩,?_⟩;rw [ruleP_len _ _ hf.1];have p2':(pcQs ps).length+(s.i+1)≤0+sp.i:=p2;have z2':lenX bx+(sg.i+1)≤j:=z2
  show 2+(pcQs ps).length+(guardP gs).length+lenX bx+s.i≤j
  omega
theorem itemsM_ok {F g f:Nat} {ad ds:List Da} {ar rs:List Ru} {s s':MS} (h:itemsM ts F g f ad ar s=some (ds,rs,s')) (hs':s'.ok=true):s.ok=true:=by
  cases f with
  | zero=>rw [itemsM] at h;cases h
  | succ f =>
    cases hs:s.ok with
    | true=>rfl
    | false =>
      rw [itemsM,if_neg (by rw [hs];simp)] at h;cases h;rw [hs] at hs';cases hs'
def lenI (ds:List Da) (rs:List Ru):Nat:=(ds.map fun d=>(dataP 0 d).length+1).sum+(rs.map fun r=>(ruleP 0 r).length+1).sum
theorem fit_items (htk:∀ i,TkOk (nowT ts i)) {F g:Nat} :∀ (f:Nat) (ad ds:List Da) (ar rs:List Ru) (s s':MS),itemsM ts F g f ad ar s=some (ds,rs,s')→s'.ok=true→s.ok=true→(∀ d∈ad,WfDa d)→(∀ r∈ar,WfRu r)→(∀ d∈ds,WfDa d)∧(∀ r∈rs,WfRu r)∧lenI ds rs+s.i≤lenI ad ar+s'.i
  | 0,ad,ds,ar,rs,s,s',h,_,_,_,_=>by rw [itemsM] at h;cases h
  | f + 1, ad, ds, ar, rs, s, s', h, hs', hs, hd, hr => by
    rw [itemsM] at h
    split at h
    · split at h
      · obtain ⟨p,h1,h2⟩:=Option.bind_eq_some_iff.1 h
        obtain ⟨d,sd⟩:=p;have g1:sd.ok=true:=itemsM_ok h2 hs';have g0:=(dataM_step h1).fwd g1;obtain ⟨t1,_,t3⟩:=takeS_ok g0.1;obtain ⟨w1,w2⟩:=fit_data htk h1 g1;obtain ⟨q1,q2,q3⟩:=fit_items htk f _ _ _ _ _ _ h2 hs' g1 (fun v hv=>(List.mem_append.1 hv).elim (hd v) fun hv=>by rw [List.mem_singleton.1 hv];exact w1) hr;refine ⟨q1,q2,?_⟩;rw [t3] at w2;have w2':(dataP 0 d).length+(s.i+1)≤sd.i:=w2
        have e:lenI (ad++[d]) ar=lenI ad ar+((dataP 0 d).length+1):=by unfold lenI;simp;omega
        rw [e] at q3;have q3':lenI ds rs+sd.i≤lenI ad ar+((dataP 0 d).length+1)+s'.i:=q3
        omega
      · obtain ⟨p,h1,h2⟩:=Option.bind_eq_some_iff.1 h
        obtain ⟨r,sr⟩:=p;have g1:sr.ok=true:=itemsM_ok h2 hs';have g0:=(ruleM_step h1).fwd g1;obtain ⟨t1,_,t3⟩:=takeS_ok g0.1;obtain ⟨w1,w2⟩:=fit_rule htk h1 g1;obtain ⟨q1,q2,q3⟩:=fit_items htk f _ _ _ _ _ _ h2 hs' g1 hd (fun v hv=>(List.mem_append.1 hv).elim (hr v) fun hv=>by rw [List.mem_singleton.1 hv];exact w1);refine ⟨q1,q2,?_⟩;rw [t3] at w2;have w2':(ruleP 0 r).length+(s.i+1)≤sr.i:=w2
        have e:lenI ad (ar++[r])=lenI ad ar+((ruleP 0 r).length+1):=by unfold lenI;simp;omega
        rw [e] at q3;have q3':lenI ds rs+sr.i≤lenI ad ar+((ruleP 0 r).length+1)+s'.i:=q3
        omega
    · cases h
      exact ⟨hd,hr,Nat.le_refl _⟩
end
theorem toksA_ok {s:ByteArray} (h:(lexes s).1=0) (i:Nat):TkOk (nowT (toksA s) i):=by
  intro hk
  have hk1:(nowT (toksA s) i).k≠ -1:=by omega
  have hi:=now_lt hk1;have hg:(toksA s)[i]?=some ((toksA s)[i]):=List.getElem?_eq_getElem hi;have he:=now_at hg;rw [he] at hk ⊢;have hm:(toksA s)[i]∈toksA s:=List.getElem_mem hi;unfold toksA at hm;obtain ⟨u,hu,e⟩:=List.mem_map.1 hm;unfold toksA at hk ⊢;rw [←e] at hk ⊢;have hk:u.k=2∨u.k=3∨u.k=4:=hk;exact lex_tokok h u hu (by omega)
theorem mod_fit {s:ByteArray} {ds:List Da} {rs:List Ru} (h:modE s=.ok ds rs):(∀ d∈ds,WfDa d)∧(∀ r∈rs,WfRu r)∧lenI ds rs≤8193:=by
  obtain ⟨h0,st,h1,h2⟩:=mod_ok h;unfold itemsA at h1;obtain ⟨q1,q2,q3⟩:=fit_items (toksA_ok h0) _ _ _ _ _ _ _ h1 h2 rfl (fun d hd=>absurd hd List.not_mem_nil) (fun d hd=>absurd hd List.not_mem_nil);have he:=itemsM_end _ _ _ _ _ h1 h2
  have hl:(toksA s).length≤8193:=by
    obtain ⟨us,e,p1,_,p3⟩:=lex_parts h0;unfold toksA;rw [List.length_map,p1];exact p3
  refine ⟨q1,q2,?_⟩;have e0:lenI [] []=0:=rfl;rw [e0] at q3;have he':st.i<(toksA s).length:=he;have q3':lenI ds rs+0≤0+st.i:=q3
  omega
theorem word_len {s:ByteArray} {c:Int} (h:isWord s c=true):s.data.toList.length≤24:=by
  unfold isWord at h;simp only [Bool.and_eq_true,decide_eq_true_eq] at h;rw [length_data];exact h.1.1.2
mutual
theorem short_ty:∀ (t:Tm) (b:Nat),b<2→NmTy t→Short (pcT b t)
  | .mk k s n zs, b, hb, h => by
    rw [NmTy] at h;rw [pcT];exact .cons ⟨hb,by rcases h.1 with h | h;exact word_len h.2;exact word_len h.2.1⟩ (short_tys zs h.2)
theorem short_tys:∀ (zs:List Tm),NmTys zs→Short (pcTs zs)
  | [],_=>by rw [pcTs];exact .nil
  | t :: zs, h => by
    rw [NmTys] at h;rw [pcTs];refine Short.app ?_ (short_tys zs h.2)
    split
    · exact .cons ⟨by show 1<2;decide,by show 1≤24;decide⟩ ((short_ty t 0 (by decide) h.1).app (.cons ⟨by show 0<2;decide,by show 1≤24;decide⟩ .nil))
    · exact short_ty t 1 (by decide) h.1
end
theorem short_con {c:Cn} (h:WfCn c) {b:Nat} (hb:b<2):Short (conP b c):=.cons ⟨hb,tok_word h.name (.inr rfl)⟩ (short_tys _ h.nm)
theorem short_cons:∀ {cs:List Cn},(∀ c∈cs,WfCn c)→Short (consP cs)
  | [],_=>.nil
  | c::cs,h=>.cons ⟨by show 1<2;decide,by show 1≤24;decide⟩ ((short_con (h c (by simp)) (by decide)).app (short_cons fun z hz=>h z (by simp [hz])))
theorem short_vars:∀ {vs:List ByteArray},(∀ v∈vs,TokOk 2 v.data.toList 0)→Short (varsP vs)
  | [],_=>.nil
  | v::vs,h=>.cons ⟨by show 1<2;decide,tok_word (h v (by simp)) (.inl rfl)⟩ (short_vars fun z hz=>h z (by simp [hz]))
theorem short_data {d:Da} (h:WfDa d):Short (dataP 0 d):=by
  refine .cons ⟨by show 0<2;decide,by show 4≤24;decide⟩ (.cons ⟨by show 1<2;decide,tok_word h.name (.inr rfl)⟩ ((short_vars h.vars).app (.cons ⟨by show 1<2;decide,by show 1≤24;decide⟩ ?_)));have hc:=h.cons
  revert hc
  cases d.cons with
  | nil=>intro _;exact .nil
  | cons c cs=>intro hc;exact (short_con (hc c (by simp)) (by decide)).app (short_cons fun z hz=>hc z (by simp [hz]))
theorem short_guard:∀ {gs:List Ex},(∀ g∈gs,WfX g)→Short (guardP gs)
  | [],_=>.nil
  | g::gs,h=>.cons ⟨by show 1<2;decide,by show 1≤24;decide⟩ ((short_ex (h g (by simp)) 1 (by decide)).app (short_guard fun z hz=>h z (by simp [hz])))
theorem short_rule {r:Ru} (h:WfRu r):Short (ruleP 0 r):=
  .cons ⟨by show 0<2;decide,tok_word h.name (.inl rfl)⟩ ((pats_short fun p hp=>short_pat (h.pats p hp).1).app ((short_guard fun g hg=>(h.guard g hg).1).app (.cons ⟨by show 1<2;decide,by show 1≤24;decide⟩ (short_ex h.body.1 1 (by decide)))))
theorem data_size {d:Da} (h:WfDa d):(dataB d).length≤25 * (dataP 0 d).length:=by
  have h1:=txt_short (short_data h);rw [txt_data h 0] at h1;exact h1
theorem rule_size {r:Ru} (h:WfRu r):(ruleB r).length≤25 * (ruleP 0 r).length:=by
  have h1:=txt_short (short_rule h);rw [txt_rule h 0] at h1;exact h1
theorem linesB_app (l m:List (List UInt8)):linesB (l++m)=linesB l++linesB m:=by
  induction l with
  | nil=>rfl
  | cons x l ih=>rw [List.cons_append,linesB,linesB,ih,List.append_assoc,List.cons_append]
theorem text_size {ds:List Da} {rs:List Ru} (hd:∀ d∈ds,WfDa d) (hr:∀ r∈rs,WfRu r):(textB ds rs).length≤25 * lenI ds rs:=by
  unfold textB;rw [linesB_app,List.length_append]
  have h1:(linesB (ds.map dataB)).length≤25 * (ds.map fun d=>(dataP 0 d).length+1).sum:=by
    induction ds with
    | nil=>exact Nat.le_refl _
    | cons d ds ih =>
      have :=ih fun z hz=>hd z (by simp [hz])
      have h2:=data_size (hd d (by simp));rw [List.map_cons,linesB,List.length_append,List.length_cons,List.map_cons,List.sum_cons]
      omega
  have h2:(linesB (rs.map ruleB)).length≤25 * (rs.map fun r=>(ruleP 0 r).length+1).sum:=by
    clear h1
    induction rs with
    | nil=>exact Nat.le_refl _
    | cons r rs ih =>
      have :=ih fun z hz=>hr z (by simp [hz])
      have h2:=rule_size (hr r (by simp));rw [List.map_cons,linesB,List.length_append,List.length_cons,List.map_cons,List.sum_cons]
      omega
  unfold lenI
  omega
end
section
theorem con_alike {c d:Cn} (h:CnS c d):conB c=conB d:=by unfold conB;rw [h.1,h.2]
theorem consB_alike {l m:List Cn} (h:All2 CnS l m):consB l=consB m:=by
  induction h with
  | nil=>rfl
  | cons hc _ ih=>rw [consB,consB,con_alike hc,ih]
theorem consFB_alike {l m:List Cn} (h:All2 CnS l m):consFB l=consFB m:=by
  cases h with
  | nil=>rfl
  | cons hc h=>rw [consFB,consFB,con_alike hc,consB_alike h]
theorem data_alike {x y:Da} (h:DaS x y):dataB x=dataB y:=by
  unfold dataB;rw [h.1,h.2.1,consFB_alike h.2.2]
theorem pat_alike {x y:Ex} (h:SamE false x y):patX x=patX y:=by
  have a:=same_show h;unfold patX isAp;rw [a.1,a.2.2]
theorem patsB_alike {l m:List Ex} (h:All2 (SamE false) l m):patsB l=patsB m:=by
  induction h with
  | nil=>rfl
  | cons hc _ ih=>rw [patsB,patsB,pat_alike hc,ih]
theorem guardB_alike {l m:List Ex} (h:All2 (SamE false) l m):guardB l=guardB m:=by
  induction h with
  | nil=>rfl
  | cons hc _ ih=>rw [guardB,guardB,(same_show hc).2.2,ih]
theorem rule_alike {x y:Ru} (h:RuS x y):ruleB x=ruleB y:=by
  unfold ruleB;rw [h.1,patsB_alike h.2.1,guardB_alike h.2.2.1,(same_show h.2.2.2).2.2]
theorem map_alike {α:Type} {R:α→α→Prop} {f:α→List UInt8} (hf:∀ x y,R x y→f x=f y) {l m:List α} (h:All2 R l m):l.map f=m.map f:=by
  induction h with
  | nil=>rfl
  | cons hc _ ih=>rw [List.map_cons,List.map_cons,hf _ _ hc,ih]
theorem text_alike {ds ds':List Da} {rs rs':List Ru} (hd:All2 DaS ds ds') (hr:All2 RuS rs rs'):textB ds rs=textB ds' rs':=by
  unfold textB;rw [map_alike (f:=dataB) (fun x y h=>data_alike h) hd,map_alike (f:=ruleB) (fun x y h=>rule_alike h) hr]
end
section
theorem patsB_app:∀ (l m:List Ex),patsB (l++m)=patsB l++patsB m
  | [],_=>rfl
  | p::l,m=>by rw [List.cons_append,patsB,patsB,patsB_app l m,List.cons_append,List.append_assoc]
theorem guardB_app:∀ (l m:List Ex),guardB (l++m)=guardB l++guardB m
  | [],_=>rfl
  | p::l,m=>by rw [List.cons_append,guardB,guardB,guardB_app l m];simp
theorem varsB_app:∀ (l m:List ByteArray),varsB (l++m)=varsB l++varsB m
  | [],_=>rfl
  | p::l,m=>by rw [List.cons_append,varsB,varsB,varsB_app l m,List.cons_append,List.append_assoc]
theorem consB_app:∀ (l m:List Cn),consB (l++m)=consB l++consB m
  | [],_=>rfl
  | p::l,m=>by rw [List.cons_append,consB,consB,consB_app l m];simp
theorem linesB_add:∀ (l m:List (List UInt8)),linesB (l++m)=linesB l++linesB m
  | [],_=>rfl
  | p::l,m=>by rw [List.cons_append,linesB,linesB,linesB_add l m,List.append_assoc,List.cons_append]
theorem patsB_at {l:List Ex} {k:Nat} {x:Ex} (h:l[k]?=some x):patsB (l.take (k+1))=patsB (l.take k)++32::(patX x).data.toList:=by
  rw [take_at h,patsB_app,patsB,patsB,List.append_nil]
theorem guardB_at {l:List Ex} {k:Nat} {x:Ex} (h:l[k]?=some x):guardB (l.take (k+1))=guardB (l.take k)++32::124::32::(showX x).data.toList:=by
  rw [take_at h,guardB_app,guardB,guardB,List.append_nil]
theorem varsB_at {l:List ByteArray} {k:Nat} {x:ByteArray} (h:l[k]?=some x):varsB (l.take (k+1))=varsB (l.take k)++32::x.data.toList:=by
  rw [take_at h,varsB_app,varsB,varsB,List.append_nil]
theorem len_of_cut {α:Type} {f:List α→List UInt8} (hf:∀ l m,f (l++m)=f l++f m) (l:List α) (k:Nat):(f (l.take k)).length≤(f l).length:=by
  have e:f l=f (l.take k)++f (l.drop k):=by rw [←hf,List.take_append_drop]
  rw [e,List.length_append];omega
theorem len_of_at {α:Type} {f:List α→List UInt8} (hf:∀ l m,f (l++m)=f l++f m) {l:List α} {k:Nat} {x:α} (h:l[k]?=some x):(f (l.take k)).length+(f [x]).length≤(f l).length:=by
  have :=len_of_cut hf l (k+1);rw [take_at h,hf,List.length_append] at this;exact this
theorem brk_ge (b:Bool) (s:ByteArray):s.size≤(brkX b s).size:=by
  unfold brkX
  split
  · rw [ByteArray.size_append,ByteArray.size_append];omega
  · exact Nat.le_refl _
theorem patX_ge (e:Ex):(showX e).size≤(patX e).size:=brk_ge _ _
theorem consFB_add (l:List Cn) (x:Cn) (h:l≠[]):consFB (l++[x])=consFB l++32::124::32::conB x:=by
  cases l with
  | nil=>exact absurd rfl h
  | cons c l=>rw [List.cons_append,consFB,consFB,consB_app,consB,consB,List.append_nil,List.append_assoc]
theorem consFB_one (x:Cn):consFB [x]=conB x:=by rw [consFB,consB,List.append_nil]
theorem consFB_cut (l:List Cn) (k:Nat):(consFB (l.take k)).length≤(consFB l).length:=by
  cases l with
  | nil=>simp
  | cons c l =>
    cases k with
    | zero=>simp [consFB]
    | succ k =>
      rw [List.take_succ_cons,consFB,consFB,List.length_append,List.length_append];have :=len_of_cut consB_app l k
      omega
theorem conB_len {l:List Cn} {x:Cn} (h:x∈l):(conB x).length≤(consFB l).length:=by
  cases l with
  | nil=>cases h
  | cons c l =>
    rw [consFB,List.length_append]
    rcases List.mem_cons.1 h with rfl | h
    · omega
    · obtain ⟨k,hk,rfl⟩:=List.getElem_of_mem h
      have :=len_of_at consB_app (List.getElem?_eq_getElem hk);rw [consB,consB,List.append_nil,List.length_cons,List.length_cons,List.length_cons] at this
      omega
theorem str_add (l m:List UInt8):str (l++m)=str l++str m:=(ba_of (by rw [app_data];rfl)).symm
theorem str_ba (b:ByteArray):str b.data.toList=b:=str_of_data b
theorem join_cons {cs:List Cn} :joinB (cs.map fun c=>str (conB c)) ⟨#[32,124,32]⟩=str (consFB cs):=by
  cases cs with
  | nil=>rfl
  | cons c cs =>
    have h:∀ cs:List Cn,Lib.joinTail [32,124,32] (cs.map fun c=>conB c)=consB cs:=fun cs=>by
      induction cs with
      | nil=>rfl
      | cons c cs ih =>
        rw [consB, ←ih];unfold Lib.joinTail
        simp
    have e:((c::cs).map fun c=>str (conB c)).map (·.data.toList)=conB c::cs.map fun c=>conB c:=by
      rw [List.map_map,List.map_cons]
      congr 1
    unfold joinB;rw [e,Lib.join_cons,consFB, ←h cs]
    rfl
end
section
open Go.RowKit
theorem showPat_any (e:Ex) (hz:(showX e).size≤100000000) (a:Option Addr) (n c:Nat) (w:World) (hm:MemW w (.s 6 (Ex.rows e.args)) (.slice a n c)) (hnum:NumX e):
 Calls Tryz.prog 81 #[.agg #[.int .i64 e.kind,.string e.name,.int .i64 e.n,.slice a n c,.int .i64 e.line,.int .i64 e.col]] w fun e' w'=>e'=.returned (.string (patX e))∧Below w.heap.size w w':=by
 have HM:=zz hm;have HN:=zz hnum;clear hm hnum;have HS:=zz (showX_any e);have HZ:=zz hz;obtain ⟨sx,hsx⟩:∃ s,showX e=s:=⟨_,rfl⟩
 have hz2:sx.size≤100000000:=by rw [←hsx];exact hz
 clear hz;unfold patX isAp;rw [hsx];obtain ⟨k4,hk4⟩:∃ k,decide (e.kind=4)=k:=⟨_,rfl⟩
 have e4:(e.kind==4)=k4:=by rw [←hk4];by_cases h:e.kind=4 <;> simp [h]
 rw [hk4];clear hk4;have HF:Hid (FarB w.heap.size w.heap.size w w):=zz (FarB.refl _ _ _);go_enter Tryz.func81,Tryz.ntmps81;go_upto_region 1 with (fail);generalize ee:World.alloc w _=w1;have hsa1:=sizeA ee;replace HF:=fA HF ee;have HBr:=nB ee (w.heap.size);clear ee;have rc:=kc6 HBr;have hI:=i0_0 w w1;have hZ:=i01 w;refine wp_region_held_drew (S:=fun w'=>Far (fun _=>False) (w1) w') (by kernel_rfl) (Far.of (below_drew _)) (fun hS20=>?_);refine takeA 0 (v:=?_) rfl ?_ ?_;rotate_left;· intro w hSw;replace rc:=Far.c6z rc hSw (fun e=>e);go_simp;try rfl
 (try simp only [pu]);refine takeA 1 (v:=?_) rfl ?_ ?_;rotate_left;· intro w hSw;replace rc:=Far.c6z rc hSw (fun e=>e);go_simp;try rfl
 (try simp only [pu]);refine takeA 2 (v:=?_) rfl ?_ ?_;rotate_left;· intro w hSw;replace rc:=Far.c6z rc hSw (fun e=>e);go_simp;try rfl
 (try simp only [pu]);refine takeA 3 (v:=?_) rfl ?_ ?_;rotate_left;· intro w hSw;replace rc:=Far.c6z rc hSw (fun e=>e);go_simp;try rfl
 (try simp only [pu]);refine callA 4 rfl fun K hK=>?_;go_simp;refine (HS.out _ _ _ _ (MemW.keep (HM.out.keep (refBelow HF.out)) (below_drew _)) HN.out HZ.out).mono ?_;rintro e wx21 ⟨rfl,hb⟩;clear rc;clear hI hZ;have hbk:=hb;replace hb:=Below.one hb;replace HBr:=kB HBr hb;replace HF:=kF HF hb;have hs21:=hb.size;clear hb;rw [hsx];go_simp;refine hK.out _ _ (Far.trans hS20 (Far.of hbk)) (fun hS21=>?_);clear hK K;refine callA 5 rfl fun K hK=>?_;go_simp;refine (brackets_any _ sx _ (by omega)).mono ?_;rintro e wx22 ⟨rfl,rfl⟩;have hbk:=Below.refl wx21.heap.size wx21;go_simp;refine hK.out _ _ (Far.trans hS21 (Far.refl _ _)) (fun hS22=>?_);clear hK K;refine takeA 6 (v:=?_) rfl ?_ ?_;rotate_left;· intros;go_simp;try rfl
 (try simp only [pu]);refine wpAnyH_done (by kernel_rfl) ?_ _
 go_wp2_with (fail)
 go_ret;exact ⟨rfl,refBelow HF.out⟩
end
end Go.Proofs.YtcoiagfeoonpbaaGreat
