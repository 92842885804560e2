/-
  Tokens told as a text, and read back, in plain words. No program, no condition.
-/
import Derived.Test.YtcoiagfeoonpbaaGreatSm3
set_option maxHeartbeats 20000000
set_option maxRecDepth 100000
namespace Go.Proofs.YtcoiagfeoonpbaaGreat
section
def Gap (r:List UInt8):Prop:=r=[]∨∃ x u,r=x::u∧(x=32∨x=10)
structure Vt (t:Tok):Prop where
  read:∀ r,Gap r→tokL (t.s.data.toList++r)=some (t.k,t.s.data.toList,t.n)
  here:∀ r,Gap r→∀ l c,skipG false (t.s.data.toList++r) l c=(t.s.data.toList++r,l,c)
inductive Good:List Tok→Prop
  | stop (l c:Int):Good [⟨0,str [],0,l,c⟩]
  | tok (t:Tok) (ts:List Tok) (h:Vt t) (hk:1<t.k) (hg:Good ts):Good (t::ts)
  | item (i t:Tok) (ts:List Tok) (hi:i.k=1∧i.s=str []∧i.n=0) (h:Vt t) (hk:1<t.k) (hg:Good ts):Good (i::t::ts)
def stripT (t:Tok):Int × ByteArray × Int:=(t.k,t.s,t.n)
theorem takeWhile_gap (p:UInt8→Bool) (h32:p 32=false) (h10:p 10=false) (t r:List UInt8) (ht:∀ x∈t,p x=true) (hr:Gap r):(t++r).takeWhile p=t:=by
  rw [List.takeWhile_append_of_pos ht]
  rcases hr with rfl | ⟨x,u,rfl,hx⟩
  · simp
  · rw [List.takeWhile_cons_of_neg (by rcases hx with rfl | rfl <;> simp [h32,h10])];simp
theorem pre_gap (y t r:List UInt8) (hr:Gap r) (h10:10 ∉ y) (h32:32 ∉ y):pre? y (t++r)=pre? y t:=by
  rcases hr with rfl | ⟨x,u,rfl,hx⟩
  · simp
  · induction y generalizing t with
    | nil=>simp [pre?,List.isPrefixOf]
    | cons z y ih =>
      have hz:z≠x:=fun e=>by
        rcases hx with rfl | rfl
        · exact h32 (by rw [e];exact List.mem_cons_self ..)
        · exact h10 (by rw [e];exact List.mem_cons_self ..)
      cases t with
      | nil=>simp [pre?,List.isPrefixOf,hz]
      | cons w t =>
        have :=ih t (fun h=>h10 (List.mem_cons_of_mem _ h)) (fun h=>h32 (List.mem_cons_of_mem _ h));simp only [pre?] at this;simp only [pre?,List.cons_append,List.isPrefixOf,this]
theorem sym_no32:∀ y∈symbols,(32:UInt8) ∉ y.data.toList:=by
  intro y hm;simp only [symbols,List.mem_cons,List.not_mem_nil,or_false] at hm
  rcases hm with rfl | rfl | rfl | rfl | rfl | rfl | rfl | rfl | rfl | rfl | rfl <;> decide
theorem sym_dash:∀ y∈symbols,y.data.toList.head?=some 45→y.data.toList=[45]:=by
  intro y hm;simp only [symbols,List.mem_cons,List.not_mem_nil,or_false] at hm
  rcases hm with rfl | rfl | rfl | rfl | rfl | rfl | rfl | rfl | rfl | rfl | rfl <;> decide
theorem tok_back {r:List UInt8} {k n:Int} {t:List UInt8} (h:tokL r=some (k,t,n)) (g:List UInt8) (hg:Gap g):tokL (t++g)=some (k,t,n):=by
  have hp:=tokL_pre h
  cases r with
  | nil=>cases h
  | cons x r =>
    have hx:∃ t',t=x::t':=by
      obtain ⟨u,hu⟩:=hp.2.1
      cases t with
      | nil=>exact absurd hp.1 (by decide)
      | cons y t'=>injection hu with h1 _;exact ⟨t',by rw [h1]⟩
    obtain ⟨t',ht'⟩:=hx;unfold tokL at h;simp only at h;unfold tokL
    by_cases hc:cls x.toNat=1∨cls x.toNat=2
    · simp only [if_pos hc] at h
      have ht:t=(x::r).takeWhile partB:=by
        repeat' split at h
        all_goals first | (cases h;done) | (injection h with h;injection h with h1 h2;injection h2 with h2 h3;exact h2.symm)
      have e:(t++g).takeWhile partB=t:=takeWhile_gap partB (by decide) (by decide) t g (fun y hy=>by rw [ht] at hy;exact mem_takeWhile hy) hg;rw [←ht] at h;rw [ht'] at e h ⊢;simp only [List.cons_append,if_pos hc] at e ⊢;rw [e];exact h
    · simp only [if_neg hc] at h
      by_cases h3:cls x.toNat=3
      · simp only [if_pos h3] at h
        have ht:t=(x::r).takeWhile isDig:=by
          split at h
          · injection h with h;injection h with h1 h2;injection h2 with h2 h3;exact h2.symm
          · cases h
        have e:(t++g).takeWhile isDig=t:=takeWhile_gap isDig (by decide) (by decide) t g (fun y hy=>by rw [ht] at hy;exact mem_takeWhile hy) hg;rw [←ht] at h;rw [ht'] at e h ⊢;simp only [List.cons_append,if_neg hc,if_pos h3] at e ⊢;rw [e];exact h
      · simp only [if_neg h3] at h
        rw [Option.map_eq_some_iff] at h;obtain ⟨y,hy,he⟩:=h
        injection he with h1 h2;injection h2 with h2 h4
        have hm:=List.mem_of_find?_eq_some hy
        have e:symbols.find? (fun z=>pre? z.data.toList (t++g))=some y:=by
          rw [find_congr (q:=fun z=>pre? z.data.toList t) (fun z hz=>pre_gap _ _ _ hg (sym_no10 z hz) (sym_no32 z hz))];rw [List.find?_eq_some_iff_append] at hy ⊢;obtain ⟨hy1,l1,l2,e1,e2⟩:=hy;refine ⟨by rw [h2,pre?];exact List.isPrefixOf_iff_prefix.2 (List.prefix_refl _),l1,l2,e1,fun z hz=>?_⟩;have :=e2 z hz;simp only [Bool.not_eq_true',pre?] at this ⊢;rw [Bool.eq_false_iff] at this ⊢;intro hh;exact this (List.isPrefixOf_iff_prefix.2 ((List.isPrefixOf_iff_prefix.1 hh).trans hp.2.1))
        rw [ht'] at e ⊢;simp only [List.cons_append,if_neg hc,if_neg h3] at e ⊢;rw [e];simp only [Option.map_some,Option.some.injEq,Prod.mk.injEq];exact ⟨h1,by rw [h2,ht'],h4⟩
theorem here_of {x:UInt8} {r:List UInt8} {l c:Nat} (h:skipG false (x::r) l c=(x::r,l,c)):x≠10∧x≠32∧ ¬(x=45∧r.head?=some 45):=by
  have key:∀ com l' c',skipG com r l' c'≠(x::r,l,c):=fun com l' c' e=>by
    have h5:=skipG_le com r l' c';rw [e] at h5;simp only [List.length_cons] at h5
    omega
  simp only [skipG] at h;refine ⟨fun e=>?_,fun e=>?_,fun e=>?_⟩
  · rw [if_pos e] at h;exact key _ _ _ h
  · rw [if_neg (by rw [e];decide),if_pos e] at h;exact key _ _ _ h
  · rw [if_neg (by rw [e.1];decide),if_neg (by rw [e.1];decide),if_pos e] at h;exact key _ _ _ h
theorem vt_of {x:UInt8} {r:List UInt8} {k n:Int} {t:List UInt8} (h:tokL (x::r)=some (k,t,n)) (hs:x≠10∧x≠32) (l c:Int):Vt ⟨k,str t,n,l,c⟩:=by
  have hp:=tokL_pre h;refine ⟨fun g hg=>tok_back h g hg,fun g hg l c=>?_⟩
  show skipG false (t++g) l c=(t++g,l,c)
  obtain ⟨u,hu⟩:=hp.2.1
  cases t with
  | nil=>exact absurd hp.1 (by decide)
  | cons y t' =>
    injection hu with h1 h2
    subst h1;have hx10:=hs.1;have hx32:=hs.2;refine skipG_here _ _ hx10 hx32 (fun hh=>?_);obtain ⟨rfl,hh2⟩:=hh;have h45:tokL (45::r)=some (k,45::t',n):=h
    have :t'=[]:=by
      unfold tokL at h45
      have hc: ¬(cls (45:UInt8).toNat=1∨cls (45:UInt8).toNat=2):=by decide
      have h3: ¬cls (45:UInt8).toNat=3:=by decide
      simp only [if_neg hc,if_neg h3] at h45;rw [Option.map_eq_some_iff] at h45;obtain ⟨z,hz,he⟩:=h45
      injection he with _ h2;injection h2 with h2 _
      have :=sym_dash z (List.mem_of_find?_eq_some hz) (by rw [h2];rfl);rw [h2] at this;injection this
    subst this
    rcases hg with rfl | ⟨w,u',rfl,hw⟩
    · simp at hh2
    · have hw45:w=45:=by simpa using hh2
      subst hw45
      rcases hw with h | h <;> exact absurd h (by decide)
theorem scan_good:∀ (n:Nat) (com:Bool) (A:List UInt8) (l c:Nat) (ts:List Tok),A.length≤n→scanB com A l c=(none,ts)→Good ts:=by
  intro n
  induction n with
  | zero =>
    intro com A l c ts hA h;have :A=[]:=List.eq_nil_of_length_eq_zero (by omega);subst this
    have e:scanB com [] l c=(none,[endT l c]):=by cases com <;> (show scanS [] l c=_;exact scanS_nil l c)
    rw [e] at h
    injection h with _ h
    subst h;exact .stop _ _
  | succ n ih =>
    intro com A l c ts hA h;have hle:=skipG_le com A l c;have hid:=skipG_idem com A l c;rw [scanB] at h;generalize skipG com A l c=R at hle hid h;obtain ⟨r,l1,c1⟩:=R;replace hle:r.length≤A.length:=hle;replace h:scanS r l1 c1=(none,ts):=h;replace hid:skipG false r l1 c1=(r,l1,c1):=hid
    cases r with
    | nil =>
      rw [scanS_nil] at h
      injection h with _ h
      subst h;exact .stop _ _
    | cons x r =>
      cases hk:tokL (x::r) with
      | none=>rw [scanS_bad _ _ (by simp) hk] at h;cases h
      | some v =>
        obtain ⟨k,t,m⟩:=v;have hp:=tokL_pre hk;rw [scanS_tok _ _ hk] at h
        rcases hX:scanB false ((x::r).drop t.length) l1 (c1+t.length) with ⟨f,us⟩
        rw [hX] at h;simp only [addT,Prod.mk.injEq] at h;obtain ⟨rfl,rfl⟩:=h;have hg:=ih false _ _ _ us (by rw [List.length_drop];omega) hX;have hs:=here_of hid;have hv:=vt_of hk ⟨hs.1,hs.2.1⟩ l1 c1
        by_cases hc:c1=1
        · rw [if_pos hc]
          exact .item _ _ _ ⟨rfl,rfl,rfl⟩ hv hp.2.2 hg
        · rw [if_neg hc]
          exact .tok _ _ hv hp.2.2 hg
end
section
def Gap3 (r:List UInt8):Prop:=r=[]∨∃ x u,r=x::u∧(x=32∨x=10∨x=41)
theorem takeWhile_gap3 (p:UInt8→Bool) (h32:p 32=false) (h10:p 10=false) (h41:p 41=false) (t r:List UInt8) (ht:∀ x∈t,p x=true) (hr:Gap3 r):(t++r).takeWhile p=t:=by
  rw [List.takeWhile_append_of_pos ht]
  rcases hr with rfl | ⟨x,u,rfl,hx⟩
  · simp
  · rw [List.takeWhile_cons_of_neg (by rcases hx with rfl | rfl | rfl <;> simp [h32,h10,h41])];simp
theorem pre_gap3 (y t r:List UInt8) (hr:Gap3 r) (h10:10 ∉ y) (h32:32 ∉ y) (h41:41 ∉ y):pre? y (t++r)=pre? y t:=by
  rcases hr with rfl | ⟨x,u,rfl,hx⟩
  · simp
  · induction y generalizing t with
    | nil=>simp [pre?,List.isPrefixOf]
    | cons z y ih =>
      have hz:z≠x:=fun e=>by
        rcases hx with rfl | rfl | rfl
        · exact h32 (by rw [e];exact List.mem_cons_self ..)
        · exact h10 (by rw [e];exact List.mem_cons_self ..)
        · exact h41 (by rw [e];exact List.mem_cons_self ..)
      cases t with
      | nil=>simp [pre?,List.isPrefixOf,hz]
      | cons w t =>
        have :=ih t (fun h=>h10 (List.mem_cons_of_mem _ h)) (fun h=>h32 (List.mem_cons_of_mem _ h)) (fun h=>h41 (List.mem_cons_of_mem _ h));simp only [pre?] at this;simp only [pre?,List.cons_append,List.isPrefixOf,this]
theorem pre_one (t r:List UInt8) (ht:t≠[]):pre? [41] (t++r)=pre? [41] t:=by
  cases t with
  | nil=>exact absurd rfl ht
  | cons x t=>simp [pre?,List.isPrefixOf]
theorem sym_no41:∀ y∈symbols,(41:UInt8) ∉ y.data.toList∨y.data.toList=[41]:=by
  intro y hm;simp only [symbols,List.mem_cons,List.not_mem_nil,or_false] at hm
  rcases hm with rfl | rfl | rfl | rfl | rfl | rfl | rfl | rfl | rfl | rfl | rfl <;> decide
theorem tok_back3 {r:List UInt8} {k n:Int} {t:List UInt8} (h:tokL r=some (k,t,n)) (g:List UInt8) (hg:Gap3 g):tokL (t++g)=some (k,t,n):=by
  have hp:=tokL_pre h
  cases r with
  | nil=>cases h
  | cons x r =>
    have hx:∃ t',t=x::t':=by
      obtain ⟨u,hu⟩:=hp.2.1
      cases t with
      | nil=>exact absurd hp.1 (by decide)
      | cons y t'=>injection hu with h1 _;exact ⟨t',by rw [h1]⟩
    obtain ⟨t',ht'⟩:=hx;unfold tokL at h;simp only at h;unfold tokL
    by_cases hc:cls x.toNat=1∨cls x.toNat=2
    · simp only [if_pos hc] at h
      have ht:t=(x::r).takeWhile partB:=by
        repeat' split at h
        all_goals first | (cases h;done) | (injection h with h;injection h with h1 h2;injection h2 with h2 h3;exact h2.symm)
      have e:(t++g).takeWhile partB=t:=takeWhile_gap3 partB (by decide) (by decide) (by decide) t g (fun y hy=>by rw [ht] at hy;exact mem_takeWhile hy) hg;rw [←ht] at h;rw [ht'] at e h ⊢;simp only [List.cons_append,if_pos hc] at e ⊢;rw [e];exact h
    · simp only [if_neg hc] at h
      by_cases h3:cls x.toNat=3
      · simp only [if_pos h3] at h
        have ht:t=(x::r).takeWhile isDig:=by
          split at h
          · injection h with h;injection h with h1 h2;injection h2 with h2 h3;exact h2.symm
          · cases h
        have e:(t++g).takeWhile isDig=t:=takeWhile_gap3 isDig (by decide) (by decide) (by decide) t g (fun y hy=>by rw [ht] at hy;exact mem_takeWhile hy) hg;rw [←ht] at h;rw [ht'] at e h ⊢;simp only [List.cons_append,if_neg hc,if_pos h3] at e ⊢;rw [e];exact h
      · simp only [if_neg h3] at h
        rw [Option.map_eq_some_iff] at h;obtain ⟨y,hy,he⟩:=h
        injection he with h1 h2;injection h2 with h2 h4
        have htn:t≠[]:=by rw [ht'];simp
        have e:symbols.find? (fun z=>pre? z.data.toList (t++g))=some y:=by
          rw [find_congr (q:=fun z=>pre? z.data.toList t) (fun z hz=>(sym_no41 z hz).elim (fun h41=>pre_gap3 _ _ _ hg (sym_no10 z hz) (sym_no32 z hz) h41) (fun e=>by rw [e];exact pre_one _ _ htn))];rw [List.find?_eq_some_iff_append] at hy ⊢;obtain ⟨hy1,l1,l2,e1,e2⟩:=hy;refine ⟨by rw [h2,pre?];exact List.isPrefixOf_iff_prefix.2 (List.prefix_refl _),l1,l2,e1,fun z hz=>?_⟩;have :=e2 z hz;simp only [Bool.not_eq_true',pre?] at this ⊢;rw [Bool.eq_false_iff] at this ⊢;intro hh;exact this (List.isPrefixOf_iff_prefix.2 ((List.isPrefixOf_iff_prefix.1 hh).trans hp.2.1))
        rw [ht'] at e ⊢;simp only [List.cons_append,if_neg hc,if_neg h3] at e ⊢;rw [e];simp only [Option.map_some,Option.some.injEq,Prod.mk.injEq];exact ⟨h1,by rw [h2,ht'],h4⟩
theorem tok_dash {r t:List UInt8} {k n:Int} (h:tokL (45::r)=some (k,45::t,n)):t=[]:=by
  unfold tokL at h
  have hc: ¬(cls (45:UInt8).toNat=1∨cls (45:UInt8).toNat=2):=by decide
  have h3: ¬cls (45:UInt8).toNat=3:=by decide
  simp only [if_neg hc,if_neg h3] at h;rw [Option.map_eq_some_iff] at h;obtain ⟨z,hz,he⟩:=h
  injection he with _ h2;injection h2 with h2 _
  have :=sym_dash z (List.mem_of_find?_eq_some hz) (by rw [h2];rfl);rw [h2] at this;injection this
def TokOk (k:Int) (t:List UInt8) (n:Int):Prop:=∃ r,tokL r=some (k,t,n)
theorem TokOk.kind {k n:Int} {t:List UInt8} (h:TokOk k t n):1<k∧t≠[]:=by
  obtain ⟨r,hr⟩:=h;have :=tokL_pre hr;exact ⟨this.2.2,List.length_pos_iff.1 this.1⟩
theorem TokOk.read {k n:Int} {t:List UInt8} (h:TokOk k t n) {g:List UInt8} (hg:Gap3 g):tokL (t++g)=some (k,t,n):=by
  obtain ⟨r,hr⟩:=h;exact tok_back3 hr g hg
theorem tokL_first {x:UInt8} {r t:List UInt8} {k n:Int} (h:tokL (x::r)=some (k,t,n)):x≠10∧x≠32:=by
  refine ⟨fun e=>?_,fun e=>?_⟩ <;>
  · subst e
    unfold tokL at h;simp only at h
    have hc: ¬(cls (10:UInt8).toNat=1∨cls (10:UInt8).toNat=2)∧ ¬cls (10:UInt8).toNat=3:=by decide
    have hd: ¬(cls (32:UInt8).toNat=1∨cls (32:UInt8).toNat=2)∧ ¬cls (32:UInt8).toNat=3:=by decide
    first
      | simp only [if_neg hc.1,if_neg hc.2] at h
      | simp only [if_neg hd.1,if_neg hd.2] at h
    simp [symbols,pre?,List.isPrefixOf] at h
theorem TokOk.here {k n:Int} {t:List UInt8} (h:TokOk k t n) {g:List UInt8} (hg:Gap3 g) (l c:Nat):skipG false (t++g) l c=(t++g,l,c):=by
  obtain ⟨r,hr⟩:=h;have hp:=tokL_pre hr
  cases r with
  | nil=>cases hr
  | cons x r =>
    cases t with
    | nil=>exact absurd hp.1 (by decide)
    | cons y t' =>
      obtain ⟨u,hu⟩:=hp.2.1
      injection hu with h1 _
      subst h1;have h2:=tokL_first hr;refine skipG_here _ _ h2.1 h2.2 fun hh=>?_;obtain ⟨rfl,hh2⟩:=hh;have :=tok_dash hr;subst this
      rcases hg with rfl | ⟨w,u',rfl,hw⟩
      · simp at hh2
      · have hw45:w=45:=by simpa using hh2
        subst hw45
        rcases hw with h | h | h <;> exact absurd h (by decide)
structure Pc where
  b:Nat
  k:Int
  s:List UInt8
  n:Int
def sepB:Nat→List UInt8
  | 0=>[]
  | 1=>[32]
  | _=>[10]
def Pc.txt (p:Pc):List UInt8:=sepB p.b++p.s
def txtP:List Pc→List UInt8
  | []=>[]
  | p::l=>p.txt++txtP l
theorem txtP_app (l m:List Pc):txtP (l++m)=txtP l++txtP m:=by
  induction l with
  | nil=>rfl
  | cons p l ih=>rw [List.cons_append,txtP,txtP,ih,List.append_assoc]
inductive OkP:List Pc→Prop
  | nil:OkP []
  | one (p:Pc) (h:TokOk p.k p.s p.n):OkP [p]
  | word (p q:Pc) (l:List Pc) (h:TokOk p.k p.s p.n) (hb:q.b≠0∨∃ u,q.s=41::u) (hl:OkP (q::l)):OkP (p::q::l)
  | brack (p q:Pc) (l:List Pc) (h:p.s=[40]∧p.k=6∧p.n=0) (hl:OkP (q::l)):OkP (p::q::l)
theorem tokL_openX (r:List UInt8):tokL (40::r)=some (6,[40],0):=by
  unfold tokL
  have h1: ¬(cls (40:UInt8).toNat=1∨cls (40:UInt8).toNat=2):=by decide
  have h2: ¬cls (40:UInt8).toNat=3:=by decide
  simp only [if_neg h1,if_neg h2]
  simp [symbols,pre?,List.isPrefixOf]
theorem sep_gap (q:Pc) (l:List Pc) (hb:q.b≠0∨∃ u,q.s=41::u) (tail:List UInt8):Gap3 (txtP (q::l)++tail):=by
  obtain ⟨b,k,s,n⟩:=q
  match b,hb with
  | 0, .inr ⟨u, hu⟩ =>
    simp only at hu;subst hu;exact .inr ⟨41,_,rfl,.inr (.inr rfl)⟩
  | 1,_=>exact .inr ⟨32,_,rfl,.inl rfl⟩
  | b+2,_=>exact .inr ⟨10,_,rfl,.inr (.inl rfl)⟩
theorem OkP.read {p:Pc} {l:List Pc} (h:OkP (p::l)) {tail:List UInt8} (ht:tail=[]∨tail=[10]):tokL (p.s++(txtP l++tail))=some (p.k,p.s,p.n)∧∀ ln c,skipG false (p.s++(txtP l++tail)) ln c=(p.s++(txtP l++tail),ln,c):=by
  cases h with
  | one _ h =>
    have hg:Gap3 (txtP []++tail):=by
      rcases ht with rfl | rfl
      · exact .inl rfl
      · exact .inr ⟨10,[],rfl,.inr (.inl rfl)⟩
    exact ⟨h.read hg,fun ln c=>h.here hg ln c⟩
  | word _ q l h hb hl =>
    have hg:=sep_gap q l hb tail;exact ⟨h.read hg,fun ln c=>h.here hg ln c⟩
  | brack _ q l h hl =>
    rw [h.1,h.2.1,h.2.2];exact ⟨tokL_openX _,fun ln c=>skipG_here _ _ (by decide) (by decide) (fun h=>absurd h.1 (by decide))⟩
theorem OkP.kind {p:Pc} {l:List Pc} (h:OkP (p::l)):1<p.k∧p.s≠[]:=by
  cases h with
  | one _ h=>exact h.kind
  | word _ q l h hb hl=>exact h.kind
  | brack _ q l h hl=>rw [h.1,h.2.1];exact ⟨by decide,by simp⟩
theorem OkP.tail {p:Pc} {l:List Pc} (h:OkP (p::l)):OkP l:=by
  cases h with
  | one _ h=>exact .nil
  | word _ q l h hb hl=>exact hl
  | brack _ q l h hl=>exact hl
def tokP:Bool→List Pc→List (Int × ByteArray × Int)
  | _,[]=>[(0,str [],0)]
  | first,p::l=>(if 2≤p.b∨(p.b=0∧first=true) then [(1,str [],0)] else [])++(p.k,str p.s,p.n)::tokP false l
theorem scan_txt {tail:List UInt8} (ht:tail=[]∨tail=[10]):∀ {l:List Pc},OkP l→∀ (ln c:Nat),1≤c→∃ us,scanB false (txtP l++tail) ln c=(none,us)∧us.map stripT=tokP (decide (c=1)) l:=by
  intro l
  induction l with
  | nil =>
    intro _ ln c _
    rcases ht with rfl | rfl
    · exact ⟨[⟨0,str [],0,ln,c⟩],scanS_nil ln c,rfl⟩
    · exact ⟨[⟨0,str [],0,((ln+1:Nat):Int),((1:Nat):Int)⟩],by show scanB false [10] ln c=_;rw [scanB_nl];exact scanS_nil _ _,rfl⟩
  | cons p l ih =>
    intro h ln c hc;obtain ⟨hr,hh⟩:=h.read ht;have hk:=h.kind;obtain ⟨b,k,s,n⟩:=p;simp only at hr hh hk;have hlen:1≤s.length:=List.length_pos_iff.2 hk.2
    have key:∀ (ln c:Nat),1≤c→∃ us,scanB false (s++(txtP l++tail)) ln c=(none,us)∧us.map stripT=(if c=1 then [(1,str [],0)] else [])++(k,str s,n)::tokP false l:=by
      intro ln c hc;obtain ⟨us,e2,e3⟩:=ih h.tail ln (c+s.length) (by omega);rw [decide_eq_false (by omega)] at e3;refine ⟨((if c=1 then [⟨1,str [],0,ln,c⟩] else [])++[⟨k,str s,n,ln,c⟩])++us,?_,?_⟩
      · rw [scanB_at (hh ln c),scanS_tok _ _ hr,List.drop_left,e2];rfl
      · rw [List.map_append,e3]
        by_cases h1:c=1
        · simp [h1,stripT]
        · simp [h1,stripT]
    have e:txtP (⟨b,k,s,n⟩::l)++tail=sepB b++(s++(txtP l++tail)):=by rw [txtP,Pc.txt];simp only [List.append_assoc]
    rw [e]
    match b with
    | 0 =>
      obtain ⟨us,e1,e2⟩:=key ln c hc;refine ⟨us,e1,?_⟩;rw [e2,tokP]
      simp
    | 1 =>
      obtain ⟨us,e1,e2⟩:=key ln (c+1) (by omega);refine ⟨us,by show scanB false (32::_) ln c=_;rw [scanB_sp];exact e1,?_⟩;rw [e2,tokP,if_neg (by omega),if_neg (by simp)]
    | b + 2 =>
      obtain ⟨us,e1,e2⟩:=key (ln+1) 1 (by omega);refine ⟨us,by show scanB false (10::_) ln c=_;rw [scanB_nl];exact e1,?_⟩;rw [e2,tokP,if_pos rfl,if_pos (by simp)]
theorem lexes_txt {s:ByteArray} {l:List Pc} {tail:List UInt8} (h:OkP l) (ht:tail=[]∨tail=[10]) (hs:s.data.toList=txtP l++tail) (hl:s.size≤4096):(lexes s).1=0∧(lexes s).2.2.2.map stripT=tokP true l:=by
  obtain ⟨us,e1,e2⟩:=scan_txt ht h 1 1 (Nat.le_refl _);have :=lexes_ok s (by omega) (ts:=us) (by rw [hs];exact e1);rw [this];exact ⟨rfl,by simpa using e2⟩
end
end Go.Proofs.YtcoiagfeoonpbaaGreat
