/-
  Types told zs texts, and read of them again. Plain laws. No condition but sizes.
-/
import Derived.Test.YtcoiagfeoonpbaaGreatSm4
import Derived.Test.YtcoiagfeoonpbaaGreatSm23
set_option maxHeartbeats 20000000
set_option maxRecDepth 100000
namespace Go.Proofs.YtcoiagfeoonpbaaGreat
section
mutual
def showTB:Tm→List UInt8
  | .mk k s _ ts=>if k=1 then s.data.toList else if k=2 then s.data.toList++argsTB ts else [63]
def argsTB:List Tm→List UInt8
  | []=>[]
  | t::ts=>32::((if t.kind=2∧t.args≠[] then 40::(showTB t++[41]) else showTB t)++argsTB ts)
end
mutual
def pcT (b:Nat):Tm→List Pc
  | .mk k s _ ts=>⟨b,if k=1 then 2 else 3,s.data.toList,0⟩::pcTs ts
def pcTs:List Tm→List Pc
  | []=>[]
  | t::ts=>(if t.args≠[] then (⟨1,6,[40],0⟩:Pc)::(pcT 0 t++[⟨0,6,[41],0⟩]) else pcT 1 t)++pcTs ts
end
mutual
def depT:Tm→Nat
  | .mk _ _ _ ts=>depTs ts
def depTs:List Tm→Nat
  | []=>0
  | t::ts=>max (if t.args≠[] then 1+depT t else 0) (depTs ts)
end
def TnOk (k:Int) (s:ByteArray):Prop:=(k=2∧isWord s 2=true)∨(k=1∧isWord s 1=true∧isKey s=false)
mutual
def OkTy:Tm→Prop
  | .mk k _ n ts=>n=0∧(k=1∧ts=[]∨k=2)∧OkTys ts
def OkTys:List Tm→Prop
  | []=>True
  | t::ts=>OkTy t∧OkTys ts
end
mutual
def NmTy:Tm→Prop
  | .mk k s _ ts=>TnOk k s∧NmTys ts
def NmTys:List Tm→Prop
  | []=>True
  | t::ts=>NmTy t∧NmTys ts
end
theorem OkTy.parts {t:Tm} (h:OkTy t):t.n=0∧(t.kind=1∧t.args=[]∨t.kind=2)∧OkTys t.args:=by
  cases t;rw [OkTy] at h;exact h
theorem depT_eq (t:Tm):depT t=depTs t.args:=by cases t;rw [depT];rfl
theorem pcT_eq (b:Nat) (t:Tm):pcT b t=⟨b,if t.kind=1 then 2 else 3,t.name.data.toList,0⟩::pcTs t.args:=by cases t;rw [pcT];rfl
mutual
theorem txt_ty:∀ (t:Tm) (b:Nat),OkTy t→txtP (pcT b t)=sepB b++showTB t
  | .mk k s n ts, b, h => by
    rw [OkTy] at h;obtain ⟨_,hk,hts⟩:=h;rw [pcT,txtP,showTB,Pc.txt,txt_tys ts hts]
    rcases hk with ⟨rfl,rfl⟩ | rfl
    · simp [argsTB]
    · simp
theorem txt_tys:∀ (ts:List Tm),OkTys ts→txtP (pcTs ts)=argsTB ts
  | [],_=>by rw [pcTs,argsTB,txtP]
  | t :: ts, h => by
    rw [OkTys] at h;rw [pcTs,argsTB,txtP_app,txt_tys ts h.2];have hk:=h.1.parts.2.1
    by_cases ha:t.args=[]
    · rw [if_neg (by simp [ha]),if_neg (by simp [ha]),txt_ty t 1 h.1]
      rfl
    · have hk2:t.kind=2:=by rcases hk with hk | hk;exact absurd hk.2 ha;exact hk
      rw [if_pos ha,if_pos ⟨hk2,ha⟩,txtP,txtP_app,txt_ty t 0 h.1]
      simp [Pc.txt,sepB,txtP]
end
def HeadOk (R:List Pc):Prop:=∀ q l,R=q::l→q.b≠0∨∃ u,q.s=41::u
theorem okP_word {p:Pc} {R:List Pc} (h:TokOk p.k p.s p.n) (hr:HeadOk R) (ho:OkP R):OkP (p::R):=by
  cases R with
  | nil=>exact .one p h
  | cons q l=>exact .word p q l h (hr q l rfl) ho
theorem okP_brack (b:Nat) {R:List Pc} (hn:R≠[]) (ho:OkP R):OkP (⟨b,6,[40],0⟩::R):=by
  cases R with
  | nil=>exact absurd rfl hn
  | cons q l=>exact .brack _ q l ⟨rfl,rfl,rfl⟩ ho
theorem tokOk_close:TokOk 6 [41] 0:=⟨[41],by decide⟩
theorem isWord_parts {s:ByteArray} {c:Int} (h:isWord s c=true):∃ x r,s.data.toList=x::r∧cls x.toNat=c∧(∀ y∈s.data.toList,partB y=true):=by
  unfold isWord at h;simp only [Bool.and_eq_true,decide_eq_true_eq,beq_iff_eq,List.all_eq_true] at h;obtain ⟨⟨⟨h1,_⟩,h2⟩,h3⟩:=h
  cases hs:s.data.toList with
  | nil =>
    have :=length_data s;rw [hs] at this
    simp at this
    omega
  | cons x r =>
    rw [hs] at h2 h3;exact ⟨x,r,rfl,by simpa using h2,fun y hy=>h3 y hy⟩
theorem takeWhile_self {p:UInt8→Bool} :∀ {l:List UInt8},(∀ y∈l,p y=true)→l.takeWhile p=l
  | [],_=>rfl
  | x::l,h=>by rw [List.takeWhile_cons_of_pos (h x (by simp)),takeWhile_self fun y hy=>h y (by simp [hy])]
theorem str_of_data (s:ByteArray):str s.data.toList=s:=str_eta s
theorem key_lower {s:ByteArray} (h:isKey s=true):∃ x r,s.data.toList=x::r∧cls x.toNat=1:=by
  unfold isKey at h;simp only [keyWords,List.any_cons,List.any_nil,Bool.or_false,Bool.or_eq_true] at h
  rcases h with h | h | h | h | h | h | h <;> (rw [eq_of_beq h];exact ⟨_,_,rfl,by decide⟩)
theorem tokOk_upper {s:ByteArray} (h:isWord s 2=true):TokOk 3 s.data.toList 0:=by
  obtain ⟨x,r,e,hc,hp⟩:=isWord_parts h
  have hk:isKey s=false:=by
    cases hk:isKey s with
    | false=>rfl
    | true =>
      obtain ⟨y,u,e2,hy⟩:=key_lower hk;rw [e] at e2
      injection e2 with e2 _
      subst e2;rw [hc] at hy;cases hy
  have h1:isWord s 1=false:=by
    cases h1:isWord s 1 with
    | false=>rfl
    | true =>
      obtain ⟨y,u,e2,hy,_⟩:=isWord_parts h1;rw [e] at e2
      injection e2 with e2 _
      subst e2;rw [hc] at hy;cases hy
  refine ⟨s.data.toList,?_⟩;rw [e] at hp ⊢;unfold tokL;simp only [if_pos (Or.inr hc:cls x.toNat=1∨cls x.toNat=2),takeWhile_self hp];rw [←e,str_of_data,hk,h1,h]
  rfl
theorem tokOk_lower {s:ByteArray} (h:isWord s 1=true) (hk:isKey s=false):TokOk 2 s.data.toList 0:=by
  obtain ⟨x,r,e,hc,hp⟩:=isWord_parts h;refine ⟨s.data.toList,?_⟩;rw [e] at hp ⊢;unfold tokL;simp only [if_pos (Or.inl hc:cls x.toNat=1∨cls x.toNat=2),takeWhile_self hp];rw [←e,str_of_data,hk,h]
  rfl
mutual
theorem okP_ty:∀ (t:Tm) (b:Nat) (R:List Pc),OkTy t→NmTy t→OkP R→HeadOk R→OkP (pcT b t++R)
  | .mk k s n ts, b, R, h, hn, ho, hh => by
    rw [OkTy] at h;rw [NmTy] at hn;obtain ⟨hR,hH⟩:=okP_tys ts R h.2.2 hn.2 ho hh;rw [pcT,List.cons_append];refine okP_word ?_ hH hR
    rcases hn.1 with ⟨rfl,hw⟩ | ⟨rfl,hw,hk⟩
    · exact tokOk_upper hw
    · exact tokOk_lower hw hk
theorem okP_tys:∀ (ts:List Tm) (R:List Pc),OkTys ts→NmTys ts→OkP R→HeadOk R→OkP (pcTs ts++R)∧HeadOk (pcTs ts++R)
  | [],R,_,_,ho,hh=>by rw [pcTs];exact ⟨ho,hh⟩
  | t :: ts, R, h, hn, ho, hh => by
    rw [OkTys] at h;rw [NmTys] at hn;obtain ⟨hR,hH⟩:=okP_tys ts R h.2 hn.2 ho hh;rw [pcTs]
    by_cases ha:t.args=[]
    · rw [if_neg (by simp [ha]),List.append_assoc]
      refine ⟨okP_ty t 1 _ h.1 hn.1 hR hH,fun q l e=>?_⟩;rw [pcT_eq,List.cons_append] at e
      injection e with e _
      subst e;exact .inl (by show ¬(1=0);decide)
    · rw [if_pos ha,List.append_assoc,List.cons_append,List.append_assoc]
      refine ⟨okP_brack 1 (by simp) (okP_ty t 0 _ h.1 hn.1 (okP_word tokOk_close hH hR) fun q l e=>?_),fun q l e=>?_⟩
      · rw [List.cons_append] at e
        injection e with e _
        subst e;exact .inr ⟨[],rfl⟩
      · injection e with e _
        subst e;exact .inl (by show ¬(1=0);decide)
end
def AtP (ts:List Tk) (i:Nat) (l:List Pc):Prop:=∀ j (hj:j<l.length),(nowT ts (i+j)).k=l[j].k∧(nowT ts (i+j)).s=str l[j].s
theorem AtP.app {ts:List Tk} {i:Nat} {l m:List Pc} (h:AtP ts i (l++m)):AtP ts i l∧AtP ts (i+l.length) m:=by
  refine ⟨fun j hj=>?_,fun j hj=>?_⟩
  · have :=h j (by rw [List.length_append];omega)
    rw [List.getElem_append_left hj] at this;exact this
  · have :=h (l.length+j) (by rw [List.length_append];omega)
    rw [List.getElem_append_right (by omega)] at this;simp only [Nat.add_sub_cancel_left] at this;rw [Nat.add_assoc];exact this
theorem AtP.head {ts:List Tk} {i:Nat} {p:Pc} {l:List Pc} (h:AtP ts i (p::l)):((nowT ts i).k=p.k∧(nowT ts i).s=str p.s)∧AtP ts (i+1) l:=by
  refine ⟨h 0 (by simp),fun j hj=>?_⟩;have :=h (j+1) (by simpa using hj);rw [show i+1+j=i+(j+1) by omega]
  simpa using this
section
variable {ts:List Tk}
theorem isT_at {i:Nat} {k:Int} {s:ByteArray} (h:(nowT ts i).k=k∧(nowT ts i).s=s):isT ts i k s=true:=by
  unfold isT;rw [decide_eq_true h.1,decide_eq_true h.2];rfl
theorem isT_not {i:Nat} {k:Int} {s:ByteArray} (h:(nowT ts i).k≠k):isT ts i k s=false:=by
  unfold isT;rw [decide_eq_false h];rfl
theorem takeS_at {i:Nat} {k:Int} {s:ByteArray} (h:(nowT ts i).k=k∧(nowT ts i).s=s):takeS ts ⟨i,none⟩ k s=⟨i+1,none⟩:=by
  unfold takeS isS;rw [if_pos (by rw [isT_at h];rfl)]
  rfl
theorem typeM_up {f g:Nat} {nt:Mt} {deep:Nat} {s:MS} {r:Tm × MS} (h:typeM ts f nt deep s=some r) (hg:f≤g):typeM ts g nt deep s=some r:=typeM_more f g nt deep s r hg h
mutual
theorem read_ty:∀ (t:Tm) (b deep i:Nat),OkTy t→AtP ts i (pcT b t)→startsS ts ⟨i+(pcT b t).length,none⟩=false→depT t+deep≤40→
    ∃ f,typeM ts f .typ deep ⟨i,none⟩=some (t,⟨i+(pcT b t).length,none⟩)
  | .mk k s n zs, b, deep, i, h, ha, hs, hd => by
    rw [OkTy] at h;obtain ⟨rfl,hk,hzs⟩:=h;rw [depT] at hd;rw [pcT] at ha hs ⊢;obtain ⟨⟨h1,h2⟩,h3⟩:=ha.head;rw [str_of_data] at h2
    rcases hk with ⟨rfl,rfl⟩ | rfl
    · refine ⟨2,?_⟩
      have h1':(nowT ts i).k=2:=h1;rw [typeM,if_neg (by simp [MS.ok]),if_neg (by show ¬(nowT ts i).k=3;rw [h1'];decide),typeM,if_pos h1'];rw [pcTs]
      show some (Tm.mk 1 (nowT ts i).s 0 [],(⟨i+1,none⟩:MS))=_
      rw [h2]
      rfl
    · have h1':(nowT ts i).k=3:=h1
      have e:i+1+(pcTs zs).length=i+((⟨b,if (2:Int)=1 then 2 else 3,s.data.toList,0⟩:Pc)::pcTs zs).length:=by rw [List.length_cons];omega
      obtain ⟨f,hf⟩:=read_tys zs deep (i+1) [] hzs h3 (by rw [e];exact hs) hd;refine ⟨f+1,?_⟩;rw [typeM,if_neg (by simp [MS.ok]),if_pos h1']
      show Option.map _ (typeM ts f (.atoms []) deep ⟨i+1,none⟩)=_
      rw [hf, ←e]
      show some (Tm.mk 2 (nowT ts i).s 0 zs,_)=_
      rw [h2]
theorem read_tys:∀ (zs:List Tm) (deep i:Nat) (l:List Tm),OkTys zs→AtP ts i (pcTs zs)→startsS ts ⟨i+(pcTs zs).length,none⟩=false→depTs zs+deep≤40→
    ∃ f,typeM ts f (.atoms l) deep ⟨i,none⟩=some (.mk 0 ⟨#[]⟩ 0 (l++zs),⟨i+(pcTs zs).length,none⟩)
  | [], deep, i, l, _, _, hs, _ => by
    rw [pcTs] at hs ⊢;refine ⟨1,?_⟩;rw [typeM,if_neg (by rw [show (⟨i,none⟩:MS)=⟨i+([]:List Pc).length,none⟩ from rfl,hs];decide),List.append_nil]
    rfl
  | t :: zs, deep, i, l, h, ha, hs, hd => by
    rw [OkTys] at h;rw [depTs] at hd;rw [pcTs] at ha hs ⊢;obtain ⟨g1,g2⟩:=ha.app;obtain ⟨P,hP⟩:∃ P,(if t.args≠[] then (⟨1,6,[40],0⟩:Pc)::(pcT 0 t++[⟨0,6,[41],0⟩]) else pcT 1 t)=P:=⟨_,rfl⟩;rw [hP] at g1 g2 ha hs ⊢
    have one:∃ f,typeM ts f .atom deep ⟨i,none⟩=some (t,⟨i+P.length,none⟩)∧startsS ts ⟨i,none⟩=true:=by
      have hk:=h.1.parts
      by_cases hn:t.args=[]
      · rw [if_neg (by simp [hn]),pcT_eq,hn,pcTs] at hP
        subst hP;obtain ⟨⟨h1,h2⟩,_⟩:=g1.head;rw [str_of_data] at h2;refine ⟨1,?_⟩
        rcases hk.2.1 with ⟨hk1,_⟩ | hk1
        · rw [hk1] at h1
          have h1':(nowT ts i).k=2:=h1;refine ⟨?_,by unfold startsS;rw [h1'];rfl⟩;rw [typeM,if_pos h1']
          show some (Tm.mk 1 (nowT ts i).s 0 [],(⟨i+1,none⟩:MS))=_
          rw [h2, ←t.eta,hk1,hk.1,hn]
          rfl
        · rw [hk1] at h1
          have h1':(nowT ts i).k=3:=h1;refine ⟨?_,by unfold startsS;rw [h1'];rfl⟩;rw [typeM,if_neg (by show ¬(nowT ts i).k=2;rw [h1'];decide),if_pos h1']
          show some (Tm.mk 2 (nowT ts i).s 0 [],(⟨i+1,none⟩:MS))=_
          rw [h2, ←t.eta,hk1,hk.1,hn]
          rfl
      · rw [if_pos hn] at hP hd
        subst hP;obtain ⟨ho,g3⟩:=g1.head;obtain ⟨g4,g5⟩:=g3.app;obtain ⟨hc,_⟩:=g5.head;have ho':(nowT ts i).k=6∧(nowT ts i).s=wOpen:=ho;have hc':(nowT ts (i+1+(pcT 0 t).length)).k=6∧(nowT ts (i+1+(pcT 0 t).length)).s=wClose:=hc
        obtain ⟨f,hf⟩:=read_ty t 0 (deep+1) (i+1) h.1 g4 (by
          unfold startsS isS isT
          show (true && (decide ((nowT ts (i+1+(pcT 0 t).length)).k=2) || (decide ((nowT ts (i+1+(pcT 0 t).length)).k=3) || (true && (decide ((nowT ts (i+1+(pcT 0 t).length)).k=6) && decide ((nowT ts (i+1+(pcT 0 t).length)).s=wOpen))))))=false
          rw [hc'.1,hc'.2]
          decide) (by omega)
        refine ⟨f+1,?_,by unfold startsS isS;rw [isT_at ho'];simp [MS.ok]⟩;rw [typeM,if_neg (by show ¬(nowT ts i).k=2;rw [ho'.1];decide),if_neg (by show ¬(nowT ts i).k=3;rw [ho'.1];decide),if_neg (by omega),takeS_at ho',hf]
        show some (t,takeS ts ⟨i+1+(pcT 0 t).length,none⟩ 6 wClose)=_
        rw [takeS_at hc'];simp only [List.length_cons,List.length_append,List.length_nil];rw [show i+1+(pcT 0 t).length+1=i+((pcT 0 t).length+(0+1)+1) by omega]
    obtain ⟨f,hf,hst⟩:=one
    have e:i+P.length+(pcTs zs).length=i+(P++pcTs zs).length:=by rw [List.length_append];omega
    obtain ⟨f2,hf2⟩:=read_tys zs deep (i+P.length) (l++[t]) h.2 g2 (by rw [e];exact hs) (by omega);refine ⟨max f f2+1,?_⟩;rw [typeM,if_pos hst,typeM_up hf (Nat.le_max_left _ _)]
    show typeM ts (max f f2) (.atoms (l++[t])) deep ⟨i+P.length,none⟩=_
    rw [typeM_up hf2 (Nat.le_max_right _ _),e]
    simp
end
end
end
section
theorem depTs_app (l m:List Tm):depTs (l++m)=max (depTs l) (depTs m):=by
  induction l with
  | nil=>simp [depTs]
  | cons t l ih=>rw [List.cons_append,depTs,depTs,ih];omega
theorem okTys_app {l m:List Tm} (h:OkTys l) (h':OkTys m):OkTys (l++m):=by
  induction l with
  | nil=>exact h'
  | cons t l ih=>rw [OkTys] at h;rw [List.cons_append,OkTys];exact ⟨h.1,ih h.2⟩
section
variable {ts:List Tk}
theorem takeS_ok {s:MS} {k:Int} {x:ByteArray} (h:(takeS ts s k x).ok=true):s.ok=true∧isT ts s.i k x=true∧takeS ts s k x=s.next:=by
  unfold takeS at h ⊢
  split at h
  · rename_i hi
    have :=isS_parts hi;exact ⟨this.1,this.2,by rw [if_pos hi]⟩
  · rw [fail_notok] at h;cases h
def tyDone (nt:Mt) (s:MS) (x:Tm) (s':MS):Prop:=
  match nt with
  | .atom=>OkTy x∧2 * (if x.args≠[] then 1+depT x else 0)+1+s.i≤s'.i
  | .typ=>OkTy x∧2 * depT x+1+s.i≤s'.i
  | .atoms l=>OkTys l→OkTys x.args∧s.i≤s'.i∧2 * depTs x.args≤max (2 * depTs l) (s'.i - s.i)
theorem typeM_done:∀ (f:Nat) (nt:Mt) (deep:Nat) (s:MS) (x:Tm) (s':MS),typeM ts f nt deep s=some (x,s')→s.ok=true→s'.ok=true→s.i≤ts.length→tyDone nt s x s'∧s'.i≤ts.length:=by
  intro f
  induction f with
  | zero=>intro nt deep s x s' h;rw [typeM] at h;cases h
  | succ f ih =>
    intro nt deep s x s' h hs hs' hl
    have low:∀ k:Int,(nowT ts s.i).k=k→k≠ -1→s.i<ts.length:=fun k hk hn=>now_lt (by rw [hk];exact hn)
    cases nt with
    | atom =>
      rw [typeM] at h
      split at h
      · rename_i h2
        have :=low _ h2 (by decide);cases h;exact ⟨⟨by rw [OkTy];exact ⟨rfl,.inl ⟨rfl,rfl⟩,trivial⟩,by show 2 * (if ([]:List Tm)≠[] then _ else 0)+1+s.i≤s.i+1;simp;omega⟩,by show s.i+1≤_;omega⟩
      · split at h
        · rename_i h2 h3
          have :=low _ h3 (by decide);cases h;exact ⟨⟨by rw [OkTy];exact ⟨rfl,.inr rfl,trivial⟩,by show 2 * (if ([]:List Tm)≠[] then _ else 0)+1+s.i≤s.i+1;simp;omega⟩,by show s.i+1≤_;omega⟩
        · obtain ⟨p,h1,h2⟩:=Option.map_eq_some_iff.1 h
          obtain ⟨z,sz⟩:=p;cases h2;obtain ⟨k1,k2,k3⟩:=takeS_ok hs';have g1:=(typeM_step _ _ _ _ _ _ h1).fwd k1;obtain ⟨k4,k5,k6⟩:=takeS_ok g1.1
          have hd: ¬deep=40:=fun e=>by rw [if_pos e,fail_notok] at k4;cases k4
          rw [if_neg hd] at h1 k5 k6;rw [k6] at h1;have hlt:=isT_lt k5 (by decide);obtain ⟨⟨q1,q2⟩,q3⟩:=ih .typ _ _ _ _ h1 hs k1 (by show s.i+1≤_;omega);have hlt2:sz.i<ts.length:=isT_lt k2 (by decide);have enx:s.next.i=s.i+1:=rfl;rw [k3];refine ⟨⟨q1,?_⟩,by show sz.i+1≤_;omega⟩;have q2':2 * depT z+1+(s.i+1)≤sz.i:=q2
          show 2 * (if z.args≠[] then 1+depT z else 0)+1+s.i≤sz.i+1
          split <;> omega
    | typ =>
      rw [typeM,if_neg (by rw [hs];decide)] at h
      split at h
      · rename_i h3
        have :=low _ h3 (by decide);obtain ⟨p,h1,h2⟩:=Option.map_eq_some_iff.1 h;obtain ⟨z,sz⟩:=p;cases h2;obtain ⟨q0,q3⟩:=ih (.atoms []) _ _ _ _ h1 hs hs' (by show s.i+1≤_;omega);obtain ⟨q1,q2,q4⟩:=q0 (by rw [OkTys];trivial);refine ⟨⟨by rw [OkTy];exact ⟨rfl,.inr rfl,q1⟩,?_⟩,q3⟩;have q2':s.i+1≤sz.i:=q2;have q4':2 * depTs z.args≤max (2 * depTs []) (sz.i - (s.i+1)):=q4;rw [depTs] at q4'
        show 2 * depT (.mk 2 _ 0 z.args)+1+s.i≤sz.i
        rw [depT]
        omega
      · obtain ⟨⟨q1,q2⟩,q3⟩:=ih .atom _ _ _ _ h hs hs' hl
        refine ⟨⟨q1,?_⟩,q3⟩
        show 2 * depT x+1+s.i≤s'.i
        by_cases ha:x.args=[]
        · rw [depT_eq,ha,depTs]
          simp [ha] at q2
          omega
        · rw [if_pos ha] at q2
          omega
    | atoms l =>
      rw [typeM] at h
      split at h
      · obtain ⟨p,h1,h2⟩:=Option.bind_eq_some_iff.1 h
        obtain ⟨z,sz⟩:=p;have g1:=(typeM_step _ _ _ _ _ _ h2).fwd hs';obtain ⟨⟨q1,q2⟩,q3⟩:=ih .atom _ _ _ _ h1 hs g1.1 hl;obtain ⟨r0,r3⟩:=ih (.atoms (l++[z])) _ _ _ _ h2 g1.1 hs' q3;refine ⟨fun hok=>?_,r3⟩;obtain ⟨r1,r2,r4⟩:=r0 (okTys_app hok (by rw [OkTys,OkTys];exact ⟨q1,trivial⟩));rw [depTs_app,depTs,depTs] at r4;have q2':2 * (if z.args≠[] then 1+depT z else 0)+1+s.i≤sz.i:=q2;have r2':sz.i≤s'.i:=r2;have r4':2 * depTs x.args≤max (2 * max (depTs l) (max (if z.args≠[] then 1+depT z else 0) 0)) (s'.i - sz.i):=r4;exact ⟨r1,by omega,by omega⟩
      · cases h
        exact ⟨fun hok=>⟨hok,Nat.le_refl _,by show 2 * depTs l≤_;omega⟩,hl⟩
theorem typeM_det {f g:Nat} {nt:Mt} {deep:Nat} {s:MS} {a b:Tm × MS} (h:typeM ts f nt deep s=some a) (h':typeM ts g nt deep s=some b):a=b:=by
  have h1:=typeM_up h (Nat.le_max_left f g);have h2:=typeM_up h' (Nat.le_max_right f g);rw [h1] at h2;exact Option.some.inj h2
end
theorem toks_at {s:ByteArray} {L:List (Int × ByteArray × Int)} (h:(lexes s).2.2.2.map stripT=L) {j:Nat} {v:Int × ByteArray × Int} (hj:L[j]?=some v):(nowT (toksA s) j).k=v.1∧(nowT (toksA s) j).s=v.2.1∧(nowT (toksA s) j).n=v.2.2:=by
  subst h;rw [List.getElem?_map,Option.map_eq_some_iff] at hj;obtain ⟨t,ht,rfl⟩:=hj;have :nowT (toksA s) j=tkOf t:=now_at (by unfold toksA;rw [List.getElem?_map,ht];rfl);rw [this];exact ⟨rfl,rfl,rfl⟩
mutual
theorem pcT_flat:∀ (t:Tm) (b:Nat),b<2→∀ p∈pcT b t,p.b<2
  | .mk k s n zs, b, hb, p, hp => by
    rw [pcT] at hp
    rcases List.mem_cons.1 hp with rfl | hp
    · exact hb
    · exact pcTs_flat zs p hp
theorem pcTs_flat:∀ (zs:List Tm),∀ p∈pcTs zs,p.b<2
  | [],p,hp=>by rw [pcTs] at hp;cases hp
  | t :: zs, p, hp => by
    rw [pcTs] at hp
    rcases List.mem_append.1 hp with hp | hp
    · split at hp
      · rcases List.mem_cons.1 hp with rfl | hp
        · show 1<2;decide
        · rcases List.mem_append.1 hp with hp | hp
          · exact pcT_flat t 0 (by decide) p hp
          · rw [List.mem_singleton.1 hp];show 0<2;decide
      · exact pcT_flat t 1 (by decide) p hp
    · exact pcTs_flat zs p hp
end
end
end Go.Proofs.YtcoiagfeoonpbaaGreat
