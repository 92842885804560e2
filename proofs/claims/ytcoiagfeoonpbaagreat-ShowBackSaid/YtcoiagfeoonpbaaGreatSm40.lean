/-
  An expression that was parsed, told as a text, is parsed as the same. Plain laws. No condition but sizes.
-/
import Derived.Test.YtcoiagfeoonpbaaGreatSm39
import Derived.Test.YtcoiagfeoonpbaaGreatSm24
import Derived.Test.YtcoiagfeoonpbaaGreatSm36
set_option maxHeartbeats 20000000
set_option maxRecDepth 100000
namespace Go.Proofs.YtcoiagfeoonpbaaGreat
section
theorem lex_tokok {s:ByteArray} (h:(lexes s).1=0):∀ t∈(lexes s).2.2.2,1<t.k→TokOk t.k t.s.data.toList t.n:=by
  by_cases hl:4096<s.size
  · rw [lexes_long s hl] at h;cases h
  · cases hs:scanB false s.data.toList 1 1 with
    | mk o ts =>
      cases o with
      | some p=>rw [lexes_bad s hl hs] at h;cases h
      | none =>
        have hg:=scan_good _ false s.data.toList 1 1 ts (Nat.le_refl _) hs;rw [lexes_ok s hl hs]
        have one:∀ {t:Tok},Vt t→TokOk t.k t.s.data.toList t.n:=fun {t} hv=>⟨_,hv.read [] (.inl rfl)⟩
        show ∀ t∈ts,1<t.k→TokOk t.k t.s.data.toList t.n
        clear hs
        induction hg with
        | stop l c =>
          intro t ht hk;rw [List.mem_singleton.1 ht] at hk;have hk:(1:Int)<0:=hk
          omega
        | tok u us hv hk hg ih =>
          intro t ht hk
          rcases List.mem_cons.1 ht with rfl | ht
          · exact one hv
          · exact ih t ht hk
        | item i u us hi hv hk hg ih =>
          intro t ht hk
          rcases List.mem_cons.1 ht with rfl | ht
          · omega
          · rcases List.mem_cons.1 ht with rfl | ht
            · exact one hv
            · exact ih t ht hk
def AlX (x y:Ex):Prop:=x.kind=y.kind∧x.name=y.name∧showX x=showX y
theorem op_alike {s:ByteArray} {a b a' b':Ex} (ha:AlX a a') (hb:AlX b b'):opX s a b (showX a) (showX b)=opX s a' b' (showX a') (showX b'):=by
  unfold opX opndX lessX;rw [ha.1,ha.2.1,ha.2.2,hb.1,hb.2.1,hb.2.2]
theorem atom_alike {x y:Ex} (h:AlX x y):atomX x (showX x)=atomX y (showX y):=by
  unfold atomX;rw [h.1,h.2.2]
theorem shows_alike {xs ys:List Ex} (h:All2 AlX xs ys):showXs xs=showXs ys∧List.zipWith atomX xs (showXs xs)=List.zipWith atomX ys (showXs ys)∧xs.length=ys.length:=by
  induction h with
  | nil=>exact ⟨rfl,rfl,rfl⟩
  | cons hx _ ih =>
    rw [showXs,showXs,List.zipWith_cons_cons,List.zipWith_cons_cons,ih.2.1,atom_alike hx];exact ⟨by rw [ih.1,hx.2.2],rfl,by simp [ih.2.2]⟩
theorem form_alike {k:Int} {s:ByteArray} {n:Int} {xs ys:List Ex} (h:All2 AlX xs ys):formX k s n xs (showXs xs)=formX k s n ys (showXs ys):=by
  obtain ⟨h1,h2,h3⟩:=shows_alike h
  have I:∀ {c:Prop} [Decidable c] {a b a' b':ByteArray},a=a'→b=b'→(if c then a else b)=if c then a' else b':=by
    intro c _ a b a' b' e1 e2;rw [e1,e2]
  have h5:(xs≠[])=(ys≠[]):=by
    cases h with
    | nil=>rfl
    | cons ha h=>simp
  unfold formX;simp only [h2,h3,h5];refine I rfl (I rfl (I rfl (I rfl (I ?_ (by rw [h1])))));clear h1 h2 h3 h5
  cases h with
  | nil=>rfl
  | cons ha h =>
    cases h with
    | nil=>simp only
    | cons hb h =>
      cases h with
      | nil=>simp only [showXs];exact op_alike ha hb
      | cons hc h=>simp only
theorem same_show {e e':Ex} (h:SamE false e e'):AlX e e':=by
  induction h with
  | mk k s n xs ys l c l' c' hl ha hp ih =>
    refine ⟨rfl,rfl,?_⟩;rw [showX,showX];exact form_alike (all2_of xs ys hl ih)
end
section
inductive WfP:Ex→Prop
  | wild (l c:Int):WfP (.mk 9 .empty 0 [] l c)
  | var (s:ByteArray) (l c:Int) (h:TokOk 2 s.data.toList 0):WfP (.mk 1 s 0 [] l c)
  | con (s:ByteArray) (l c:Int) (h:TokOk 3 s.data.toList 0):WfP (.mk 2 s 0 [] l c)
  | int (n l c:Int) (h:TokOk 4 (digs n) n):WfP (.mk 3 .empty n [] l c)
  | app (s:ByteArray) (l0 c0:Int) (xs:List Ex) (l c:Int) (h:TokOk 3 s.data.toList 0) (hxs:∀ y∈xs,WfP y) (hn:xs≠[]):WfP (.mk 4 .empty 0 (.mk 2 s 0 [] l0 c0::xs) l c)
def isAp (e:Ex):Bool:=decide (e.kind=4)
def pcQ (e:Ex) (b:Nat):List Pc:=brP (isAp e) b (pcX e)
def patX (e:Ex):ByteArray:=brkX (isAp e) (showX e)
def pcQs:List Ex→List Pc
  | []=>[]
  | y::ys=>pcQ y 1++pcQs ys
theorem ap_small {e:Ex} (h:WfP e):(!smallX e.kind)=isAp e:=by cases h <;> rfl
theorem pc_wild {l c:Int} {b:Nat} :pcX (.mk 9 .empty 0 [] l c) b=[⟨b,6,[95],0⟩]:=by rw [pcX];rfl
theorem sh_wild {l c:Int} :showX (.mk 9 .empty 0 [] l c)=⟨#[95]⟩:=by rw [showX];rfl
theorem atomsP_q:∀ {xs:List Ex},(∀ y∈xs,WfP y)→atomsP 1 xs (xs.map pcX)=pcQs xs
  | [],_=>rfl
  | y :: ys, h => by
    rw [List.map_cons,atomsP,pcQs,atomsP_q fun z hz=>h z (by simp [hz]),ap_small (h y (by simp))]
    rfl
theorem q_small {e:Ex} (h:isAp e=false) (b:Nat):pcQ e b=pcX e b:=by unfold pcQ brP;rw [h];rfl
theorem q_app {s:ByteArray} {l0 c0 l c:Int} {xs:List Ex} (h:∀ y∈xs,WfP y) (b:Nat):pcQ (.mk 4 .empty 0 (.mk 2 s 0 [] l0 c0::xs) l c) b=(⟨b,6,[40],0⟩:Pc)::⟨0,3,s.data.toList,0⟩::(pcQs xs++[⟨0,6,[41],0⟩]):=by
  unfold pcQ brP;rw [show isAp (.mk 4 .empty 0 (.mk 2 s 0 [] l0 c0::xs) l c)=true from rfl,if_pos rfl,pc_app,atomsP_q h];unfold brP;rw [show (!smallX (Ex.mk 2 s 0 [] l0 c0).kind)=false from rfl,if_neg (by decide),pc_con]
  rfl
theorem txt_patX {e:Ex} (h:WfP e):∀ b,txtP (pcX e b)=sepB b++(showX e).data.toList:=by
  induction h with
  | wild l c=>intro b;rw [pc_wild,sh_wild];simp [txtP,Pc.txt]
  | var s l c h=>intro b;rw [pc_var,sh_var];simp [txtP,Pc.txt]
  | con s l c h=>intro b;rw [pc_con,sh_con];simp [txtP,Pc.txt]
  | int n l c h=>intro b;rw [pc_int,sh_int];simp [txtP,Pc.txt]
  | app s l0 c0 xs l c h hxs hn ihxs =>
    intro b
    have ihx:∀ b,txtP (pcX (.mk 2 s 0 [] l0 c0) b)=sepB b++(showX (.mk 2 s 0 [] l0 c0)).data.toList:=fun b=>by rw [pc_con,sh_con];simp [txtP,Pc.txt]
    rw [pc_app,sh_app,txtP_app,txt_br ihx,txt_atoms ihxs,atom_brk]
    show _=sepB b++Lib.join _ [32]
    rw [List.map_cons,Lib.join_cons,List.append_assoc]
theorem txt_pat {e:Ex} (h:WfP e) (b:Nat):txtP (pcQ e b)=sepB b++(patX e).data.toList:=txt_br (txt_patX h) _ b
theorem tkw_wild:TokOk 6 [95] 0:=⟨[95],by decide⟩
theorem pat_head {e:Ex} (h:WfP e) (b:Nat):∃ p l,pcQ e b=p::l∧p.b=b:=by
  cases h with
  | wild l c=>rw [q_small rfl,pc_wild];exact ⟨_,_,rfl,rfl⟩
  | var s l c h=>rw [q_small rfl,pc_var];exact ⟨_,_,rfl,rfl⟩
  | con s l c h=>rw [q_small rfl,pc_con];exact ⟨_,_,rfl,rfl⟩
  | int n l c h=>rw [q_small rfl,pc_int];exact ⟨_,_,rfl,rfl⟩
  | app s l0 c0 xs l c h hxs hn=>rw [q_app hxs];exact ⟨_,_,rfl,rfl⟩
theorem headOk_pat {e:Ex} (h:WfP e) (R:List Pc):HeadOk (pcQ e 1++R):=by
  obtain ⟨p,l,h1,h2⟩:=pat_head h 1;rw [h1];exact headOk_cons (.inl (by rw [h2];decide))
theorem headOk_pats {xs:List Ex} (h:∀ y∈xs,WfP y) {R:List Pc} (hR:HeadOk R):HeadOk (pcQs xs++R):=by
  cases xs with
  | nil=>exact hR
  | cons y ys=>rw [pcQs,List.append_assoc];exact headOk_pat (h y (by simp)) _
theorem okP_pats {xs:List Ex} (h:∀ y∈xs,WfP y) (ih:∀ y∈xs,∀ b R,OkP R→HeadOk R→OkP (pcQ y b++R)) (R:List Pc) (ho:OkP R) (hh:HeadOk R):OkP (pcQs xs++R):=by
  induction xs with
  | nil=>exact ho
  | cons y ys ihl =>
    rw [pcQs,List.append_assoc];exact ih y (by simp) 1 _ (ihl (fun z hz=>h z (by simp [hz])) fun z hz=>ih z (by simp [hz])) (headOk_pats (fun z hz=>h z (by simp [hz])) hh)
theorem okP_pat {e:Ex} (h:WfP e):∀ b R,OkP R→HeadOk R→OkP (pcQ e b++R):=by
  induction h with
  | wild l c=>intro b R ho hh;rw [q_small rfl,pc_wild];exact okP_word tkw_wild hh ho
  | var s l c h=>intro b R ho hh;rw [q_small rfl,pc_var];exact okP_word h hh ho
  | con s l c h=>intro b R ho hh;rw [q_small rfl,pc_con];exact okP_word h hh ho
  | int n l c h=>intro b R ho hh;rw [q_small rfl,pc_int];exact okP_word h hh ho
  | app s l0 c0 xs l c h hxs hn ih =>
    intro b R ho hh;rw [q_app hxs,List.cons_append,List.cons_append,List.append_assoc];have hc:HeadOk ([(⟨0,6,[41],0⟩:Pc)]++R):=headOk_cons (.inr ⟨[],rfl⟩);exact okP_brack b (by simp) (okP_word h (headOk_pats hxs hc) (okP_pats hxs ih _ (okP_word tokOk_close hh ho) hc))
theorem pats_short {xs:List Ex} (h:∀ y∈xs,∀ b,b<2→Short (pcQ y b)):Short (pcQs xs):=by
  induction xs with
  | nil=>exact .nil
  | cons y ys ih=>rw [pcQs];exact (h y (by simp) 1 (by decide)).app (ih fun z hz=>h z (by simp [hz]))
theorem short_pat {e:Ex} (h:WfP e):∀ b,b<2→Short (pcQ e b):=by
  induction h with
  | wild l c=>intro b hb;rw [q_small rfl,pc_wild];exact .cons ⟨hb,by show 1≤24;decide⟩ .nil
  | var s l c h=>intro b hb;rw [q_small rfl,pc_var];exact .cons ⟨hb,tok_word h (.inl rfl)⟩ .nil
  | con s l c h=>intro b hb;rw [q_small rfl,pc_con];exact .cons ⟨hb,tok_word h (.inr rfl)⟩ .nil
  | int n l c h=>intro b hb;rw [q_small rfl,pc_int];exact .cons ⟨hb,Nat.le_trans (digs_short (tok_num h).2) (by decide)⟩ .nil
  | app s l0 c0 xs l c h hxs hn ih =>
    intro b hb;rw [q_app hxs];exact .cons ⟨hb,by show 1≤24;decide⟩ (.cons ⟨by show 0<2;decide,tok_word h (.inr rfl)⟩ ((pats_short ih).app (.cons ⟨by show 0<2;decide,by show 1≤24;decide⟩ .nil)))
def lenQ (e:Ex):Nat:=(pcQ e 1).length
mutual
def depQ:Ex→Nat
  | .mk _ _ _ args _ _=>if args=[] then 0 else 1+depQs args
def depQs:List Ex→Nat
  | []=>0
  | e::es=>max (depQ e) (depQs es)
end
theorem dep_qapp {s:ByteArray} {l0 c0 l c:Int} {xs:List Ex} :depQ (.mk 4 .empty 0 (.mk 2 s 0 [] l0 c0::xs) l c)=1+depQs xs:=by
  rw [depQ,if_neg (by simp),depQs,depQ,if_pos rfl]
  omega
theorem depQs_app:∀ (l:List Ex) (x:Ex),depQs (l++[x])=max (depQs l) (depQ x)
  | [],x=>by rw [List.nil_append,depQs,depQs,depQs];omega
  | y::l,x=>by rw [List.cons_append,depQs,depQs,depQs_app l x];omega
section
variable {ts:List Tk}
def RdP (ts:List Tk) (e:Ex):Prop:=∀ (b i deep:Nat),AtX ts i (pcQ e b)→depQ e+deep≤40→∃ e' g,SamE false e e'∧readE ts g .pat i deep=some (.ok e' (i+(pcQ e b).length))
theorem pat_plain {e e':Ex} {i deep:Nat} (h:plainE (nowT ts i)=some e') (hk:(nowT ts i).k≠6) (hs:SamE false e e'):∃ e' g,SamE false e e'∧readE ts g .pat i deep=some (.ok e' (i+1)):=by
  refine ⟨e',1,hs,?_⟩;rw [readE,if_neg (by unfold isT;rw [decide_eq_false hk];simp),h]
theorem isT_str {i:Nat} {k n:Int} {u:List UInt8} {w:ByteArray} (h:(nowT ts i).k=k∧(nowT ts i).s=str u∧(nowT ts i).n=n) (hw:str u=w):isT ts i k w=true:=by
  unfold isT;rw [decide_eq_true h.1,decide_eq_true (h.2.1.trans hw)]
  rfl
theorem pat_noclose {e:Ex} (h:WfP e) {b i:Nat} (ha:AtX ts i (pcQ e b)):isT ts i 6 wClose=false:=by
  have c1:∀ {k:Int},(nowT ts i).k=k→k≠6→isT ts i 6 wClose=false:=fun {k} h hk=>by unfold isT;rw [h,decide_eq_false hk];rfl
  cases h with
  | wild l c =>
    rw [q_small rfl,pc_wild] at ha;have h0:=ha.head.1;unfold isT;rw [h0.2.1]
    simp [show ¬(str [95]=wClose) from by decide]
  | var s l c h=>rw [q_small rfl,pc_var] at ha;exact c1 (k:=2) ha.head.1.1 (by decide)
  | con s l c h=>rw [q_small rfl,pc_con] at ha;exact c1 (k:=3) ha.head.1.1 (by decide)
  | int n l c h=>rw [q_small rfl,pc_int] at ha;exact c1 (k:=4) ha.head.1.1 (by decide)
  | app s l0 c0 xs l c h hxs hn =>
    rw [q_app hxs] at ha;have h0:=ha.head.1;unfold isT;rw [h0.2.1]
    simp [show ¬(str [40]=wClose) from by decide]
theorem pats_read {xs:List Ex} (hw:∀ y∈xs,WfP y) (h:∀ y∈xs,RdP ts y):∀ (i deep:Nat),AtX ts i (pcQs xs++[⟨0,6,[41],0⟩])→depQs xs+deep≤40→∃ xs' g,All2 (SamE false) xs xs'∧∀ l,readE ts g (.pats l) i deep=some (.ok (appE (l++xs')) (i+(pcQs xs).length+1)):=by
  induction xs with
  | nil =>
    intro i deep ha _;have h0:=(AtX.head (l:=[]) ha).1;refine ⟨[],1,.nil,fun l=>?_⟩;have c:isT ts i 6 wClose=true:=isT_str h0 rfl;rw [readE,if_pos c,List.append_nil]
    rfl
  | cons y ys ih =>
    intro i deep ha hd;rw [pcQs,List.append_assoc] at ha;rw [depQs] at hd;obtain ⟨h1,h2⟩:=ha.app;obtain ⟨y',f,hsy,hf⟩:=h y (by simp) 1 i deep h1 (by omega);obtain ⟨ys',g,hsys,hg⟩:=ih (fun z hz=>hw z (by simp [hz])) (fun z hz=>h z (by simp [hz])) _ deep h2 (by omega);refine ⟨y'::ys',max f g+1,.cons hsy hsys,fun l=>?_⟩;rw [readE,if_neg (by rw [pat_noclose (hw y (by simp)) h1];decide),readE_up _ _ _ _ _ (Nat.le_max_left f g) _ hf]
    show readE ts (max f g) (.pats (l++[y'])) _ deep=_
    rw [readE_up _ _ _ _ _ (Nat.le_max_right f g) _ (hg (l++[y'])),pcQs,List.length_append]
    simp [Nat.add_assoc]
theorem rd_pat {e:Ex} (hw:WfP e):RdP ts e:=by
  induction hw with
  | wild l c =>
    intro b i deep ha hd;rw [q_small rfl,pc_wild] at ha ⊢;have h0:=ha.head.1;refine ⟨.mk 9 .empty 0 [] (nowT ts i).l (nowT ts i).c,1,mkS .nil,?_⟩;have c:isT ts i 6 wWild=true:=isT_str h0 rfl;rw [readE,if_pos c]
    rfl
  | var s l c h =>
    intro b i deep ha hd;rw [q_small rfl,pc_var] at ha ⊢;have h0:=ha.head.1;have hk:(nowT ts i).k=2:=h0.1
    have e2:(nowT ts i).s=s:=by rw [h0.2.1];exact str_of_data s
    exact pat_plain (e':=.mk 1 s 0 [] (nowT ts i).l (nowT ts i).c) (by unfold plainE;rw [if_pos hk,e2]) (by rw [hk];decide) (mkS .nil)
  | con s l c h =>
    intro b i deep ha hd;rw [q_small rfl,pc_con] at ha ⊢;have h0:=ha.head.1;have hk:(nowT ts i).k=3:=h0.1
    have e2:(nowT ts i).s=s:=by rw [h0.2.1];exact str_of_data s
    exact pat_plain (e':=.mk 2 s 0 [] (nowT ts i).l (nowT ts i).c) (by unfold plainE;rw [if_neg (by rw [hk];decide),if_pos hk,e2]) (by rw [hk];decide) (mkS .nil)
  | int n l c h =>
    intro b i deep ha hd;rw [q_small rfl,pc_int] at ha ⊢;have h0:=ha.head.1;have hk:(nowT ts i).k=4:=h0.1;have e2:(nowT ts i).n=n:=h0.2.2;exact pat_plain (e':=.mk 3 .empty n [] (nowT ts i).l (nowT ts i).c) (by unfold plainE;rw [if_neg (by rw [hk];decide),if_neg (by rw [hk];decide),if_pos hk,e2]) (by rw [hk];decide) (mkS .nil)
  | app s l0 c0 xs l c h hxs hn ih =>
    intro b i deep ha hd;rw [q_app hxs] at ha ⊢;rw [dep_qapp] at hd;obtain ⟨t0,a1⟩:=ha.head;obtain ⟨t1,a2⟩:=a1.head;have hk:(nowT ts (i+1)).k=3:=t1.1
    have e2:(nowT ts (i+1)).s=s:=by rw [t1.2.1];exact str_of_data s
    obtain ⟨xs',g,hs,hg⟩:=pats_read hxs ih (i+1+1) (deep+1) a2 (by omega);have o:isT ts i 6 wOpen=true:=isT_str t0 rfl
    have nw:isT ts i 6 wWild=false:=by unfold isT;rw [t0.2.1];simp [show ¬(str [40]=wWild) from by decide]
    have hp:plainE (nowT ts i)=none:=by unfold plainE;rw [t0.1];rfl
    have hx:readE ts (g+1) .pat (i+1) (deep+1)=some (.ok (.mk 2 s 0 [] (nowT ts (i+1)).l (nowT ts (i+1)).c) (i+1+1)):=by
      rw [readE,if_neg (by unfold isT;rw [hk];simp)]
      have :plainE (nowT ts (i+1))=some (.mk 2 s 0 [] (nowT ts (i+1)).l (nowT ts (i+1)).c):=by unfold plainE;rw [if_neg (by rw [hk];decide),if_pos hk,e2]
      rw [this]
    refine ⟨.mk 4 .empty 0 (.mk 2 s 0 [] (nowT ts (i+1)).l (nowT ts (i+1)).c::xs') (nowT ts (i+1)).l (nowT ts (i+1)).c,g+2,mkS (.cons (mkS .nil) hs),?_⟩;rw [readE,if_neg (by rw [nw];decide),hp]
    show (if isT ts i 6 wOpen=true then _ else _)=_
    rw [if_pos o,if_neg (by omega),if_pos hk,hx]
    show readE ts (g+1) (.pats [.mk 2 s 0 [] (nowT ts (i+1)).l (nowT ts (i+1)).c]) (i+1+1) (deep+1)=_
    rw [readE_up _ _ _ _ _ (Nat.le_succ g) _ (hg [.mk 2 s 0 [] (nowT ts (i+1)).l (nowT ts (i+1)).c])]
    have hx':xs'≠[]:=fun e=>by
      have :=hs.len;rw [e] at this;exact hn (List.eq_nil_of_length_eq_zero this)
    have he:appE ([.mk 2 s 0 [] (nowT ts (i+1)).l (nowT ts (i+1)).c]++xs')=.mk 4 .empty 0 (.mk 2 s 0 [] (nowT ts (i+1)).l (nowT ts (i+1)).c::xs') (nowT ts (i+1)).l (nowT ts (i+1)).c:=by
      cases xs' with
      | nil=>exact absurd rfl hx'
      | cons y ys=>rfl
    rw [he,List.length_cons,List.length_cons,List.length_append]
    congr 2
    show i+1+1+(pcQs xs).length+1=i+((pcQs xs).length+1+1+1)
    omega
end
end
section
theorem num_pat {e:Ex} (h:WfP e):NumX e:=by
  have z:(-9223372036854775808:Int)≤0∧(0:Int)≤9223372036854775807:=by decide
  induction h with
  | wild l c=>rw [NumX,NumXs];exact ⟨z,trivial⟩
  | var s l c h=>rw [NumX,NumXs];exact ⟨z,trivial⟩
  | con s l c h=>rw [NumX,NumXs];exact ⟨z,trivial⟩
  | int n l c h=>rw [NumX,NumXs];have :=tok_num h;exact ⟨⟨by omega,by omega⟩,trivial⟩
  | app s l0 c0 xs l c h hxs hn ihxs =>
    rw [NumX,NumXs];refine ⟨z,by rw [NumX,NumXs];exact ⟨z,trivial⟩,?_⟩;clear hn hxs
    induction xs with
    | nil=>rw [NumXs];trivial
    | cons y ys ih=>rw [NumXs];exact ⟨ihxs y (by simp),ih fun z hz=>ihxs z (by simp [hz])⟩
def FitQ (e:Ex) (i j deep:Nat):Prop:=WfP e∧depQ e+deep≤40∧lenQ e+i≤j
def lenQs (l:List Ex):Nat:=(pcQs l).length
def FitQs (l:List Ex) (i j deep:Nat):Prop:=(∀ x∈l,WfP x)∧depQs l+deep≤40∧lenQs l+i≤j
theorem lenQs_app:∀ (l:List Ex) (x:Ex),lenQs (l++[x])=lenQs l+lenQ x
  | [],x=>by unfold lenQs lenQ;rw [List.nil_append,pcQs];show (pcQ x 1++[]).length=0+_;rw [List.append_nil,Nat.zero_add]
  | y :: l, x => by
    have :=lenQs_app l x;unfold lenQs lenQ at this ⊢
    rw [List.cons_append,pcQs,pcQs,List.length_append,List.length_append,this];omega
theorem FitQs.add {l:List Ex} {x:Ex} {i m j deep:Nat} (h:FitQs l i m deep) (hx:FitQ x m j deep):FitQs (l++[x]) i j deep:=by
  refine ⟨fun y hy=>?_,?_,?_⟩
  · rcases List.mem_append.1 hy with hy | hy
    · exact h.1 y hy
    · rw [List.mem_singleton.1 hy];exact hx.1
  · rw [depQs_app];have :=h.2.1;have :=hx.2.1;omega
  · rw [lenQs_app];have :=h.2.2;have :=hx.2.2;omega
theorem fit_qapp {s:ByteArray} {l0 c0:Int} {ys:List Ex} {i j deep:Nat} (hs:TokOk 3 s.data.toList 0) (h:FitQs ys (i+2) j (deep+1)):FitQ (appE (.mk 2 s 0 [] l0 c0::ys)) i (j+1) deep:=by
  cases ys with
  | nil =>
    show FitQ (.mk 2 s 0 [] l0 c0) i (j+1) deep
    have h2:=h.2.1;have h3:=h.2.2;refine ⟨.con s l0 c0 hs,?_,?_⟩
    · rw [depQ,if_pos rfl];omega
    · unfold lenQ;rw [q_small rfl,pc_con,List.length_cons,List.length_nil];omega
  | cons y ys =>
    show FitQ (.mk 4 .empty 0 (.mk 2 s 0 [] l0 c0::y::ys) _ _) i (j+1) deep
    obtain ⟨h1,h2,h3⟩:=h;refine ⟨.app s l0 c0 (y::ys) _ _ hs h1 (by simp),?_,?_⟩
    · rw [dep_qapp];omega
    · unfold lenQ
      rw [q_app h1,List.length_cons,List.length_cons,List.length_append,List.length_cons,List.length_nil];unfold lenQs at h3
      omega
def fitQR (nt:Nt) (i j deep:Nat) (e:Ex):Prop:=
  match nt with
  | .pat=>FitQ e i j deep
  | .pats l=>∀ s l0 c0 ys d i0,l=.mk 2 s 0 [] l0 c0::ys→deep=d+1→TokOk 3 s.data.toList 0→FitQs ys (i0+2) i deep→FitQ e i0 j d
  | _=>True
theorem plain_pat {t:Tk} {e:Ex} {i deep:Nat} (h:plainE t=some e) (ht:TkOk t) (hd:deep≤40):FitQ e i (i+1) deep:=by
  have hf:=plain_fit (i:=i) h ht hd;have hw:=hf.1
  have one:∀ {e:Ex},WfP e→isAp e=false→e.args=[]→(pcX e 1).length=1→FitQ e i (i+1) deep:=fun {e} hw ha hargs hl=>by
    refine ⟨hw,?_,?_⟩
    · obtain ⟨k,s,n,args,l,c⟩:=e
      have :args=[]:=hargs;subst this
      rw [depQ,if_pos rfl];omega
    · unfold lenQ;rw [q_small ha];omega
  unfold plainE at h
  split at h
  · cases h
    cases hw with
    | var s l c h=>exact one (.var _ _ _ h) rfl rfl (by rw [pc_var];rfl)
  · split at h
    · cases h
      cases hw with
      | con s l c h=>exact one (.con _ _ _ h) rfl rfl (by rw [pc_con];rfl)
    · split at h
      · cases h
        cases hw with
        | int n l c h=>exact one (.int _ _ _ h) rfl rfl (by rw [pc_int];rfl)
      · cases h
theorem plain_three {t:Tk} (h:t.k=3):plainE t=some (.mk 2 t.s 0 [] t.l t.c):=by unfold plainE;rw [if_neg (by rw [h];decide),if_pos h]
theorem readP_fit {ts:List Tk} (htk:∀ i,TkOk (nowT ts i)):∀ (f:Nat) (nt:Nt) (i deep:Nat) (e:Ex) (j:Nat),deep≤40→readE ts f nt i deep=some (.ok e j)→fitQR nt i j deep e:=by
  intro f
  induction f with
  | zero=>intro nt i deep e j _ h;rw [readE] at h;cases h
  | succ f ih =>
    intro nt i deep e j hd h
    cases nt with
    | pat =>
      rw [readE] at h
      by_cases hw:isT ts i 6 wWild=true
      · rw [if_pos hw] at h
        injection h with h;injection h with h1 h2;subst h1 h2
        refine ⟨.wild _ _,by rw [depQ,if_pos rfl];omega,by unfold lenQ;rw [q_small rfl,pc_wild,List.length_cons,List.length_nil];omega⟩
      · rw [if_neg hw] at h
        cases hp:plainE (nowT ts i) with
        | some y =>
          rw [hp] at h
          injection h with h;injection h with h1 h2;subst h1 h2
          exact plain_pat hp (htk i) hd
        | none =>
          rw [hp] at h;simp only at h
          split at h
          · split at h
            · cases h
            rename_i hd40
            split at h
            · rename_i hk
              obtain ⟨x,j1,hx,h⟩:=andT_ok h
              have e1:x=.mk 2 (nowT ts (i+1)).s 0 [] (nowT ts (i+1)).l (nowT ts (i+1)).c∧j1=i+1+1:=by
                cases f with
                | zero=>rw [readE] at hx;cases hx
                | succ f =>
                  rw [readE,if_neg (by unfold isT;rw [hk];simp),plain_three hk] at hx
                  injection hx with hx;injection hx with h1 h2
                  exact ⟨h1.symm,h2.symm⟩
              obtain ⟨rfl,rfl⟩:=e1
              have hs:TokOk 3 (nowT ts (i+1)).s.data.toList 0:=by
                have :=htk (i+1) (.inr (.inl hk));rw [hk] at this;obtain ⟨r,hr⟩:=this;have e0:=tok_nought hr (.inr rfl);rw [e0] at hr;exact ⟨r,hr⟩
              exact ih (.pats [.mk 2 (nowT ts (i+1)).s 0 [] (nowT ts (i+1)).l (nowT ts (i+1)).c]) _ _ _ _ (by omega) h _ _ _ [] deep i rfl rfl hs ⟨fun y hy=>absurd hy List.not_mem_nil,by rw [depQs];omega,by show 0+(i+2)≤i+1+1;omega⟩
            · obtain ⟨x,j1,hx,h⟩:=andT_ok h
              obtain ⟨_,h⟩:=takeT_ok h
              injection h with h;injection h with h1 h2;subst h1 h2
              obtain ⟨g1,g2,g3⟩:FitQ x (i+1) j1 (deep+1):=ih .pat _ _ _ _ (by omega) hx;exact ⟨g1,by omega,by omega⟩
          · cases h
    | pats l =>
      rw [readE] at h;intro s l0 c0 ys d i0 hl hdd hs hf
      by_cases hc:isT ts i 6 wClose=true
      · rw [if_pos hc] at h
        injection h with h;injection h with h1 h2;subst h1 h2
        rw [hl];rw [hdd] at hf;exact fit_qapp hs hf
      · rw [if_neg hc] at h
        obtain ⟨x,j1,hx,h⟩:=andT_ok h;have gx:FitQ x i j1 deep:=ih .pat _ _ _ _ hd hx;exact ih (.pats (l++[x])) _ _ _ _ hd h s l0 c0 (ys++[x]) d i0 (by rw [hl];rfl) hdd hs (hf.add gx)
    | expr=>trivial
    | or=>trivial
    | left r=>trivial
    | more r x=>trivial
    | apps l=>trivial
    | atom=>trivial
end
section
def conP (b:Nat) (c:Cn):List Pc:=⟨b,3,c.name.data.toList,0⟩::pcTs c.types
def consP:List Cn→List Pc
  | []=>[]
  | c::cs=>(⟨1,6,[124],0⟩:Pc)::(conP 1 c++consP cs)
def varsP:List ByteArray→List Pc
  | []=>[]
  | v::vs=>(⟨1,2,v.data.toList,0⟩:Pc)::varsP vs
def consF:List Cn→List Pc
  | []=>[]
  | c::cs=>conP 1 c++consP cs
def dataP (b:Nat) (d:Da):List Pc:=(⟨b,5,[100,97,116,97],0⟩:Pc)::⟨1,3,d.name.data.toList,0⟩::(varsP d.vars++(⟨1,6,[61],0⟩:Pc)::consF d.cons)
def guardP:List Ex→List Pc
  | []=>[]
  | g::gs=>(⟨1,6,[124],0⟩:Pc)::(pcX g 1++guardP gs)
def ruleP (b:Nat) (r:Ru):List Pc:=(⟨b,2,r.name.data.toList,0⟩:Pc)::(pcQs r.pats++(guardP r.guard++(⟨1,6,[61],0⟩:Pc)::pcX r.body 1))
structure WfCn (c:Cn):Prop where
  name:TokOk 3 c.name.data.toList 0
  ok:OkTys c.types
  nm:NmTys c.types
  dep:depTs c.types≤40
structure WfDa (d:Da):Prop where
  name:TokOk 3 d.name.data.toList 0
  vars:∀ v∈d.vars,TokOk 2 v.data.toList 0
  cons:∀ c∈d.cons,WfCn c
  some:d.cons≠[]
structure WfRu (r:Ru):Prop where
  name:TokOk 2 r.name.data.toList 0
  pats:∀ p∈r.pats,WfP p∧depQ p≤40
  guard:∀ g∈r.guard,WfX g∧depX g≤40
  one:r.guard.length≤1
  body:WfX r.body∧depX r.body≤40
theorem AtX.p {ts:List Tk} {i:Nat} {l:List Pc} (h:AtX ts i l):AtP ts i l:=fun j hj=>⟨(h j hj).1,(h j hj).2.1⟩
def Endy (t:Tk):Prop:=t.k=0∨t.k=1∨(t.k=6∧(t.s=str [124]∨t.s=str [61]))
section
variable {ts:List Tk}
theorem Endy.no {t:Tk} (h:Endy t):startsE t=false∧NoOp t 1∧t.k≠2∧t.k≠3:=by
  rcases h with h | h | ⟨h,h2 | h2⟩
  · refine ⟨by unfold startsE;rw [h];rfl,fun h'=>by rw [h] at h';exact absurd h'.1 (by decide),by rw [h];decide,by rw [h];decide⟩
  · refine ⟨by unfold startsE;rw [h];rfl,fun h'=>by rw [h] at h';exact absurd h'.1 (by decide),by rw [h];decide,by rw [h];decide⟩
  · refine ⟨by unfold startsE;rw [h,h2];decide,fun h'=>by rw [h2] at h';exact absurd h'.2 (by decide),by rw [h];decide,by rw [h];decide⟩
  · refine ⟨by unfold startsE;rw [h,h2];decide,fun h'=>by rw [h2] at h';exact absurd h'.2 (by decide),by rw [h];decide,by rw [h];decide⟩
theorem Endy.starts {j:Nat} (h:Endy (nowT ts j)):startsS ts ⟨j,none⟩=false:=by
  have hs:=h.no.1;unfold startsE at hs;unfold startsS isS isT;simp only [Bool.or_eq_false_iff] at hs;obtain ⟨⟨⟨h1,h2⟩,_⟩,h4⟩:=hs
  show (true && (decide ((nowT ts j).k=2) || (decide ((nowT ts j).k=3) || (true && (decide ((nowT ts j).k=6) && decide ((nowT ts j).s=wOpen))))))=false
  rw [h1,h2,h4]
  rfl
theorem part_of {F:Nat} {nt:Nt} {i j g:Nat} {x:Ex} (hg:readE ts g nt i 0=some (.ok x j)) (hF:8 * (ts.length - i)+wNt nt≤F):partM ts F nt ⟨i,none⟩=some (x,⟨j,none⟩):=by
  obtain ⟨r,hr⟩:=Option.isSome_iff_exists.1 (readE_total F nt i 0 hF);have u1:=readE_up _ _ _ _ _ (Nat.le_max_left F g) _ hr;have u2:=readE_up _ _ _ _ _ (Nat.le_max_right F g) _ hg;rw [u1] at u2;have e:=Option.some.inj u2;subst e;unfold partM;rw [if_neg (by simp [MS.ok])]
  show (match readE ts F nt i 0 with | none=>none | some (.ok x j)=>some (x,(⟨j,none⟩:MS)) | some (.bad l c)=>_)=_
  rw [hr]
theorem name_at {i:Nat} {k n:Int} {s:ByteArray} (h:(nowT ts i).k=k∧(nowT ts i).s=str s.data.toList∧(nowT ts i).n=n):nameS ts ⟨i,none⟩ k=(s,⟨i+1,none⟩):=by
  unfold nameS;have h1:(nowT ts (⟨i,none⟩:MS).i).k=k:=h.1;rw [if_pos h1]
  show ((nowT ts i).s,_)=_
  rw [h.2.1,str_of_data]
  rfl
theorem rd_con {c:Cn} {b i g:Nat} (h:WfCn c) (ha:AtX ts i (conP b c)) (he:Endy (nowT ts (i+(conP b c).length))) (hg:4 * ts.length+4≤g):∃ c',CnS c c'∧conM ts g ⟨i,none⟩=some (c',⟨i+(conP b c).length,none⟩):=by
  unfold conP at ha he ⊢;obtain ⟨t0,a1⟩:=ha.head
  have e:i+1+(pcTs c.types).length=i+((⟨b,3,c.name.data.toList,0⟩:Pc)::pcTs c.types).length:=by rw [List.length_cons];omega
  obtain ⟨f,hf⟩:=read_tys c.types 0 (i+1) [] h.ok a1.p (by rw [e];exact he.starts) (by have :=h.dep;omega)
  obtain ⟨r,hr⟩:=Option.isSome_iff_exists.1 (conM_some hg ⟨i,none⟩);refine ⟨⟨c.name,c.types,(nowT ts i).l,(nowT ts i).c⟩,⟨rfl,rfl⟩,?_⟩;unfold conM at hr ⊢;rw [name_at t0] at hr ⊢;simp only at hr ⊢;obtain ⟨p,hp,_⟩:=Option.map_eq_some_iff.1 hr;have :=typeM_det hp hf;rw [hp,this,e]
  rfl
theorem rd_vars:∀ (vs:List ByteArray) (i:Nat) (acc:List ByteArray) (f:Nat),vs.length<f→AtX ts i (varsP vs)→(nowT ts (i+(varsP vs).length)).k≠2→varsM ts f acc ⟨i,none⟩=some (acc++vs,⟨i+(varsP vs).length,none⟩)
  | [], i, acc, f, hf, _, hk => by
    obtain ⟨f,rfl⟩:∃ k,f=k+1:=⟨f - 1,by simp at hf;omega⟩;have hk:(nowT ts i).k≠2:=hk;rw [varsM,if_neg (by simp [MS.ok,hk]),List.append_nil]
    rfl
  | v :: vs, i, acc, f, hf, ha, hk => by
    obtain ⟨f,rfl⟩:∃ k,f=k+1:=⟨f - 1,by simp at hf;omega⟩;rw [varsP] at ha hk ⊢;rw [List.length_cons] at hf hk ⊢;obtain ⟨t0,a1⟩:=ha.head;have h1:(nowT ts i).k=2:=t0.1
    have h2:(nowT ts i).s=v:=by rw [t0.2.1];exact str_of_data v
    rw [varsM,if_pos (by simp [MS.ok,h1])]
    show varsM ts f (acc++[(nowT ts i).s]) ⟨i+1,none⟩=_
    rw [h2,rd_vars vs (i+1) (acc++[v]) f (by omega) a1 (by rw [show i+1+(varsP vs).length=i+((varsP vs).length+1) by omega];exact hk)];rw [show i+1+(varsP vs).length=i+((varsP vs).length+1) by omega]
    simp
theorem isS_at {i:Nat} {k n:Int} {u:List UInt8} {w:ByteArray} (h:(nowT ts i).k=k∧(nowT ts i).s=str u∧(nowT ts i).n=n) (hw:str u=w):isS ts ⟨i,none⟩ k w=true:=by
  unfold isS;rw [show isT ts (⟨i,none⟩:MS).i k w=true from isT_str h hw]
  rfl
theorem consP_end {cs:List Cn} {i:Nat} (ha:AtX ts i (consP cs)) (he:(nowT ts (i+(consP cs).length)).k=0∨(nowT ts (i+(consP cs).length)).k=1):Endy (nowT ts i):=by
  cases cs with
  | nil=>exact he.elim .inl fun h=>.inr (.inl h)
  | cons c cs =>
    rw [consP] at ha;exact .inr (.inr ⟨ha.head.1.1,.inl ha.head.1.2.1⟩)
theorem rd_cons {g:Nat} (hg:4 * ts.length+4≤g):∀ (cs:List Cn) (i:Nat) (acc:List Cn) (f:Nat),cs.length<f→(∀ c∈cs,WfCn c)→AtX ts i (consP cs)→(nowT ts (i+(consP cs).length)).k=0∨(nowT ts (i+(consP cs).length)).k=1→∃ cs',All2 CnS cs cs'∧consM ts g f acc ⟨i,none⟩=some (acc++cs',⟨i+(consP cs).length,none⟩)
  | [], i, acc, f, hf, _, _, hk => by
    obtain ⟨f,rfl⟩:∃ k,f=k+1:=⟨f - 1,by simp at hf;omega⟩
    have hk:(nowT ts i).k≠6:=by
      have hk:(nowT ts i).k=0∨(nowT ts i).k=1:=hk
      omega
    refine ⟨[],.nil,?_⟩;rw [consM,if_neg (by unfold isS;rw [show isT ts (⟨i,none⟩:MS).i 6 wBar=false from isT_not hk];simp),List.append_nil]
    rfl
  | c :: cs, i, acc, f, hf, hw, ha, hk => by
    obtain ⟨f,rfl⟩:∃ k,f=k+1:=⟨f - 1,by simp at hf;omega⟩;rw [List.length_cons] at hf;rw [consP] at ha hk ⊢;obtain ⟨t0,a1⟩:=ha.head;obtain ⟨ac,a2⟩:=a1.app
    have e:i+((⟨1,6,[124],0⟩:Pc)::(conP 1 c++consP cs)).length=i+1+(conP 1 c).length+(consP cs).length:=by rw [List.length_cons,List.length_append];omega
    rw [e] at hk ⊢;obtain ⟨c',hc,h1⟩:=rd_con (g:=g) (hw c (by simp)) ac (consP_end a2 hk) hg;obtain ⟨cs',hcs,h2⟩:=rd_cons hg cs _ (acc++[c']) f (by omega) (fun z hz=>hw z (by simp [hz])) a2 hk;refine ⟨c'::cs',.cons hc hcs,?_⟩;have hb:isS ts ⟨i,none⟩ 6 wBar=true:=isS_at t0 rfl;rw [consM,if_pos hb]
    show (conM ts g ⟨i+1,none⟩).bind _=_
    rw [h1]
    show consM ts g f (acc++[c']) ⟨i+1+(conP 1 c).length,none⟩=_
    rw [h2]
    simp
theorem vars_len (vs:List ByteArray):(varsP vs).length=vs.length:=by
  induction vs with
  | nil=>rfl
  | cons v vs ih=>rw [varsP,List.length_cons,List.length_cons,ih]
theorem cons_len (cs:List Cn):cs.length≤(consP cs).length:=by
  induction cs with
  | nil=>exact Nat.zero_le _
  | cons c cs ih=>rw [consP,List.length_cons,List.length_cons,List.length_append];omega
theorem rd_data {d:Da} {b i g:Nat} (h:WfDa d) (ha:AtX ts i (dataP b d)) (hl:i+(dataP b d).length≤ts.length) (he:(nowT ts (i+(dataP b d).length)).k=0∨(nowT ts (i+(dataP b d).length)).k=1) (hg:4 * ts.length+4≤g):∃ d',DaS d d'∧dataM ts g ⟨i,none⟩=some (d',⟨i+(dataP b d).length,none⟩):=by
  obtain ⟨name,vars,cons,l,c⟩:=d;have hn:cons≠[]:=h.some
  obtain ⟨c0,cs,rfl⟩:∃ c0 cs,cons=c0::cs:=by cases cons with
    | nil=>exact absurd rfl hn
    | cons x y=>exact ⟨x,y,rfl⟩
  have e:i+(dataP b ⟨name,vars,c0::cs,l,c⟩).length=i+1+1+(varsP vars).length+1+(conP 1 c0).length+(consP cs).length:=by
    unfold dataP consF
    simp only [List.length_cons,List.length_append];omega
  rw [e] at he hl ⊢;unfold dataP consF at ha;obtain ⟨t0,a1⟩:=ha.head;obtain ⟨t1,a2⟩:=a1.head;obtain ⟨av,a3⟩:=a2.app;obtain ⟨t2,a4⟩:=a3.head;obtain ⟨ac,a5⟩:=a4.app;have v1:=vars_len vars;have c1:=cons_len cs
  have k2:(nowT ts (i+1+1+(varsP vars).length)).k≠2:=by rw [t2.1];show (6:Int)≠2;decide
  obtain ⟨c',hc,h1⟩:=rd_con (g:=g) (h.cons c0 (by simp)) ac (consP_end a5 he) hg;obtain ⟨cs',hcs,h2⟩:=rd_cons hg cs _ [c'] g (by omega) (fun z hz=>h.cons z (by simp [hz])) a5 he;refine ⟨⟨name,vars,c'::cs',(nowT ts i).l,(nowT ts i).c⟩,⟨rfl,rfl,.cons hc hcs⟩,?_⟩;have d0:takeS ts ⟨i,none⟩ 5 wData=⟨i+1,none⟩:=takeS_at ⟨t0.1,t0.2.1⟩;have d1:nameS ts ⟨i+1,none⟩ 3=(name,⟨i+1+1,none⟩):=name_at t1;have d2:=rd_vars vars (i+1+1) [] g (by omega) av k2;have d3:takeS ts ⟨i+1+1+(varsP vars).length,none⟩ 6 wEq=⟨i+1+1+(varsP vars).length+1,none⟩:=takeS_at ⟨t2.1,t2.2.1⟩;unfold dataM;rw [d0,d1]
  show (varsM ts g [] ⟨i+1+1,none⟩).bind _=_
  rw [d2]
  show (conM ts g (takeS ts ⟨i+1+1+(varsP vars).length,none⟩ 6 wEq)).bind _=_
  rw [d3,h1]
  show Option.map _ (consM ts g g [c'] ⟨_,none⟩)=_
  rw [h2]
  rfl
theorem pat_nobar {e:Ex} (h:WfP e) {b i:Nat} (ha:AtX ts i (pcQ e b)):isT ts i 6 wBar=false∧isT ts i 6 wEq=false:=by
  have c1:∀ {k:Int},(nowT ts i).k=k→k≠6→isT ts i 6 wBar=false∧isT ts i 6 wEq=false:=fun {k} h hk=>by unfold isT;rw [h,decide_eq_false hk];exact ⟨rfl,rfl⟩
  cases h with
  | wild l c =>
    rw [q_small rfl,pc_wild] at ha;have h0:=ha.head.1;unfold isT;rw [h0.2.1]
    simp [show ¬(str [95]=wBar) from by decide,show ¬(str [95]=wEq) from by decide]
  | var s l c h=>rw [q_small rfl,pc_var] at ha;exact c1 (k:=2) ha.head.1.1 (by decide)
  | con s l c h=>rw [q_small rfl,pc_con] at ha;exact c1 (k:=3) ha.head.1.1 (by decide)
  | int n l c h=>rw [q_small rfl,pc_int] at ha;exact c1 (k:=4) ha.head.1.1 (by decide)
  | app s l0 c0 xs l c h hxs hn =>
    rw [q_app hxs] at ha;have h0:=ha.head.1;unfold isT;rw [h0.2.1]
    simp [show ¬(str [40]=wBar) from by decide,show ¬(str [40]=wEq) from by decide]
theorem rd_pats {F:Nat} (hF:8 * ts.length+8≤F):∀ (xs:List Ex) (i:Nat) (acc:List Ex) (f:Nat),xs.length<f→(∀ p∈xs,WfP p∧depQ p≤40)→AtX ts i (pcQs xs)→(nowT ts (i+(pcQs xs).length)).k=6∧((nowT ts (i+(pcQs xs).length)).s=str [124]∨(nowT ts (i+(pcQs xs).length)).s=str [61])→∃ xs',All2 (SamE false) xs xs'∧patsM ts F f acc ⟨i,none⟩=some (acc++xs',⟨i+(pcQs xs).length,none⟩)
  | [], i, acc, f, hf, _, _, hk => by
    obtain ⟨f,rfl⟩:∃ k,f=k+1:=⟨f - 1,by simp at hf;omega⟩;have hk:(nowT ts i).k=6∧((nowT ts i).s=str [124]∨(nowT ts i).s=str [61]):=hk;refine ⟨[],.nil,?_⟩
    have hb:isS ts ⟨i,none⟩ 6 wBar=true∨isS ts ⟨i,none⟩ 6 wEq=true:=by
      rcases hk.2 with h | h
      · exact .inl (isS_at (n:=(nowT ts i).n) ⟨hk.1,h,rfl⟩ rfl)
      · exact .inr (isS_at (n:=(nowT ts i).n) ⟨hk.1,h,rfl⟩ rfl)
    rw [patsM,if_neg (by rcases hb with h | h <;> simp [h]),List.append_nil]
    rfl
  | x :: xs, i, acc, f, hf, hw, ha, hk => by
    obtain ⟨f,rfl⟩:∃ k,f=k+1:=⟨f - 1,by simp at hf;omega⟩;rw [List.length_cons] at hf;rw [pcQs] at ha hk ⊢;obtain ⟨ax,a2⟩:=ha.app
    have e:i+(pcQ x 1++pcQs xs).length=i+(pcQ x 1).length+(pcQs xs).length:=by rw [List.length_append];omega
    rw [e] at hk ⊢;obtain ⟨hwx,hdx⟩:=hw x (by simp);obtain ⟨x',g,hs,hg⟩:=rd_pat hwx 1 i 0 ax (by omega);have h1:=part_of hg (F:=F) (by simp only [wNt];omega);obtain ⟨xs',hxs,h2⟩:=rd_pats hF xs _ (acc++[x']) f (by omega) (fun z hz=>hw z (by simp [hz])) a2 hk;refine ⟨x'::xs',.cons hs hxs,?_⟩;have hb:=pat_nobar hwx ax
    have hc:((⟨i,none⟩:MS).ok && (!isS ts ⟨i,none⟩ 6 wBar && !isS ts ⟨i,none⟩ 6 wEq))=true:=by
      unfold isS;rw [show isT ts (⟨i,none⟩:MS).i 6 wBar=false from hb.1,show isT ts (⟨i,none⟩:MS).i 6 wEq=false from hb.2]
      rfl
    rw [patsM,if_pos hc,h1]
    show patsM ts F f (acc++[x']) ⟨i+(pcQ x 1).length,none⟩=_
    rw [h2]
    simp
theorem pats_len {xs:List Ex} (h:∀ p∈xs,WfP p):xs.length≤(pcQs xs).length:=by
  induction xs with
  | nil=>exact Nat.zero_le _
  | cons x xs ih =>
    have :=ih fun z hz=>h z (by simp [hz])
    obtain ⟨p,l,e,_⟩:=pat_head (h x (by simp)) 1;rw [pcQs,List.length_append,e,List.length_cons,List.length_cons]
    omega
theorem rd_rule {r:Ru} {b i F f:Nat} (h:WfRu r) (ha:AtX ts i (ruleP b r)) (hl:i+(ruleP b r).length≤ts.length) (he:(nowT ts (i+(ruleP b r).length)).k=0∨(nowT ts (i+(ruleP b r).length)).k=1) (hF:8 * ts.length+8≤F) (hf:4 * ts.length+4≤f):∃ r',RuS r r'∧ruleM ts F f ⟨i,none⟩=some (r',⟨i+(ruleP b r).length,none⟩):=by
  obtain ⟨name,pats,guard,body,l,c⟩:=r
  have e:i+(ruleP b ⟨name,pats,guard,body,l,c⟩).length=i+1+(pcQs pats).length+(guardP guard).length+1+(pcX body 1).length:=by
    unfold ruleP
    simp only [List.length_cons,List.length_append];omega
  rw [e] at he hl ⊢;unfold ruleP at ha;obtain ⟨t0,a1⟩:=ha.head;obtain ⟨ap,a2⟩:=a1.app;obtain ⟨ag,a3⟩:=a2.app;obtain ⟨t1,ab⟩:=a3.head;simp only at t0 t1 ap a2 ag a3 ab hl
  have pl:=pats_len fun p hp=>(h.pats p hp).1
  simp only at pl
  have hend:(nowT ts (i+1+(pcQs pats).length)).k=6∧((nowT ts (i+1+(pcQs pats).length)).s=str [124]∨(nowT ts (i+1+(pcQs pats).length)).s=str [61]):=by
    cases guard with
    | nil=>exact ⟨a2.head.1.1,.inr a2.head.1.2.1⟩
    | cons g gs=>rw [guardP,List.cons_append] at a2;exact ⟨a2.head.1.1,.inl a2.head.1.2.1⟩
  obtain ⟨pats',hps,h1⟩:=rd_pats hF pats (i+1) [] f (by omega) h.pats ap hend
  have hg:∃ guard',All2 (SamE false) guard guard'∧guardM ts F ⟨i+1+(pcQs pats).length,none⟩=some (guard',⟨i+1+(pcQs pats).length+(guardP guard).length,none⟩):=by
    have hg1:=h.guard;have hone:=h.one
    match guard,hg1,hone,ag,a2,t1 with
    | [], _, _, _, a2, _ =>
      refine ⟨[],.nil,?_⟩;have t:=a2.head.1
      have hn:isS ts ⟨i+1+(pcQs pats).length,none⟩ 6 wBar=false:=by
        unfold isS isT
        show (true && (decide ((nowT ts (i+1+(pcQs pats).length)).k=6) && decide ((nowT ts (i+1+(pcQs pats).length)).s=wBar)))=false
        rw [t.2.1]
        simp [show ¬(str [61]=wBar) from by decide]
      unfold guardM;rw [if_neg (by rw [hn];decide)]
      rfl
    | [g], hg1, _, ag, _, t1 =>
      have ag':AtX ts (i+1+(pcQs pats).length) ((⟨1,6,[124],0⟩:Pc)::(pcX g 1++[])):=ag;rw [List.append_nil] at ag';obtain ⟨tb,ax⟩:=ag'.head;have hy:isS ts ⟨i+1+(pcQs pats).length,none⟩ 6 wBar=true:=isS_at tb rfl;obtain ⟨hwg,hdg⟩:=hg1 g (by simp)
      have el:(guardP [g]).length=(pcX g 1).length+1:=by rw [guardP,guardP,List.append_nil,List.length_cons]
      have ee:i+1+(pcQs pats).length+(guardP [g]).length=i+1+(pcQs pats).length+1+(pcX g 1).length:=by rw [el];omega
      rw [ee] at t1 ⊢;have hq:Endy (nowT ts (i+1+(pcQs pats).length+1+(pcX g 1).length)):=.inr (.inr ⟨t1.1,.inr t1.2.1⟩);obtain ⟨g',k,hs,hk⟩:=rd_ex (deep:=0) hwg (rd_all hwg) ax (by omega) hq.no.1 hq.no.2.1;have h1:=part_of hk (F:=F) (by simp only [wNt];omega);refine ⟨[g'],.cons hs .nil,?_⟩;unfold guardM;rw [if_pos hy]
      show Option.map _ (partM ts F .expr ⟨i+1+(pcQs pats).length+1,none⟩)=_
      rw [h1]
      rfl
    | _::_::_,_,hone,_,_,_=>simp at hone
  obtain ⟨guard',hgs,h2⟩:=hg
  have hee:Endy (nowT ts (i+1+(pcQs pats).length+(guardP guard).length+1+(pcX body 1).length)):=he.elim .inl fun h=>.inr (.inl h)
  obtain ⟨body',k,hsb,hk⟩:=rd_ex (deep:=0) h.body.1 (rd_all h.body.1) ab (by have :=h.body.2;simp only at this ⊢;omega) hee.no.1 hee.no.2.1
  have h3:=part_of hk (F:=F) (by simp only [wNt];omega);have d0:nameS ts ⟨i,none⟩ 2=(name,⟨i+1,none⟩):=name_at t0;have d1:takeS ts ⟨i+1+(pcQs pats).length+(guardP guard).length,none⟩ 6 wEq=⟨i+1+(pcQs pats).length+(guardP guard).length+1,none⟩:=takeS_at ⟨t1.1,t1.2.1⟩;refine ⟨⟨name,pats',guard',body',(nowT ts i).l,(nowT ts i).c⟩,⟨rfl,hps,hgs,hsb⟩,?_⟩;unfold ruleM;rw [d0]
  show (patsM ts F f [] ⟨i+1,none⟩).bind _=_
  rw [h1]
  show (guardM ts F ⟨i+1+(pcQs pats).length,none⟩).bind _=_
  rw [h2]
  show Option.map _ (partM ts F .expr (takeS ts ⟨i+1+(pcQs pats).length+(guardP guard).length,none⟩ 6 wEq))=_
  rw [d1,h3]
  rfl
end
end
end Go.Proofs.YtcoiagfeoonpbaaGreat
