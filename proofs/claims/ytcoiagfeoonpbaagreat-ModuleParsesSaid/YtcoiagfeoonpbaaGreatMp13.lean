/-
 The parser's pat: a Pat. Under what the other reading functions do with less fuel.
-/
import Derived.Test.YtcoiagfeoonpbaaGreatMp12
import Derived.Test.YtcoiagfeoonpbaaGreatMp9
import Derived.Test.YtcoiagfeoonpbaaGreatMp10
set_option maxHeartbeats 20000000
set_option maxRecDepth 100000
namespace Go.Proofs.YtcoiagfeoonpbaaGreat
section
open Go.RowKit
theorem tk_kind (k n l c:Int) (s:ByteArray) (w:World):Sem.run Tryz.prog (Instr.field 53 (.agg #[.int .i64 k,.string s,.int .i64 n,.int .i64 l,.int .i64 c]) 0) w=.ok (.int .i64 k) w:=by kernel_rfl
attribute [local go_sem] tk_pos tk_kind
theorem Far.setS {g:Nat} {a w:World} (h:Far (fun b=>b=g) a w) (j:Nat) (v:Value):Far (fun b=>b=g) a (w.setCell ⟨g,j,none⟩ v):=h.setCell (p:=⟨g,j,none⟩) rfl v
theorem Far.drewC {Z:Nat→Prop} {a w:World} (h:Far Z a w):Far Z a w.drew:=Far.trans h (Far.of (below_drew _))
section
variable {ts:List Tk} {aL:Option Addr} {n cap q:Nat}
theorem pat_succ {f i D:Nat} {r:Rd1} (u:readE ts (f+1) .pat i D=some r) (w:World) (hd:D≤40) (H:∀ g,g<f+1→Reads ts aL n cap q 95 .pat g) (E:PS ts aL n cap q i (D:Int) w):
  Calls Tryz.prog 95 #[.pointer (some ⟨q,0,none⟩)] w (Ans ts aL n cap q r D w):=by
 have d:=zz E;have bq:=E.lt;have o:=zz (FarB.refl q w.heap.size w);clear E;rw [readE] at u
 go_enter_defers Tryz.func95,Tryz.ntmps95
 refine Code.wp_mono (doorQ_mono _ r D w) ?_
 go_wp2_with (fail)
 generalize a:(w.alloc (.cells #[.int .i64 0,.string ⟨#[]⟩,.int .i64 0,.slice none 0 0,.int .i64 0,.int .i64 0] 60))=w1 at *;have bz:=sizeA a;replace d:=pA d a;replace o:=fA o a;have m:=nB a (w.heap.size);clear a;refine (now_any _ d.out.bo d.out.mem).mono ?_;rintro _ w2 ⟨rfl,C⟩;have p:=FarQ.of (q:=q) C;replace m:=qB m p;replace o:=qF o p;have bt:=p.size;replace d:=kP d C;clear p C;simp only [tkV]
 go_wp2_with (fail)
 generalize a:(w2.alloc (.cells #[.int .i64 (nowT ts i).l,.int .i64 (nowT ts i).c] 29))=w3 at *;have c0:=sizeA a;replace d:=pA d a;replace o:=fA o a;replace m:=bA m a;have a3:=nB a (w2.heap.size);clear a;have hI:=iq_0_0_0 q w w2 w3
 rcases ad:isT ts i 6 wWild
 rotate_left
 ·
  simp only [ad,if_true] at u;cases u;refine (is_any 6 wWild _ d.out).mono ?_;rintro _ w4 ⟨rfl,C⟩;have p:=FarQ.of (q:=q) C;replace m:=qB m p;replace a3:=qB a3 p;replace o:=qF o p;have bd:=p.size;replace d:=kP d C;clear p C;rw [ad];have ar:i<ts.length:=isT_lt ad (by decide)
  have bp:(i:Int)+1≤9223372036854775807:=by have :=d.out.len;omega
  clear hI;have qc:=kcP d;have G:=kc6 m;have pc:=kc2 a3;have hI:=iq_0_0_0 q w w2 w4
  go_wp2_with (fail)
  clear qc G pc;generalize a:(w4.setCell ⟨q,1,none⟩ (.int .i64 ((i:Int)+1)))=c8 at *;replace d:=zz (d.out.setIE (k:=(i+1)) a (by omega));replace o:=zz (o.out.setQE a);replace m:=bF1 m a;clear a;generalize a:World.setCell _ ⟨w.heap.size,5,none⟩ _=w5 at *;replace d:=pO6 d a;replace o:=fN6 o a;replace m:=bS6 m a;clear a;clear hI;refine door_plain ?_;have X:=kc6 m;refine ⟨.agg #[.int .i64 9,.string ⟨#[]⟩,.int .i64 0,.slice none 0 0,.int .i64 (nowT ts i).l,.int .i64 (nowT ts i).c],(by clear d o m a3;simp [results,Tryz.results95,go_sem,X]),?_⟩;exact ⟨_,_,_,rfl,o.out.out,d.out,(memNone (x:=.mk 9 .empty 0 [] (nowT ts i).l (nowT ts i).c) rfl)⟩
 simp only [ad,Bool.false_eq_true,if_false] at u;refine (is_any 6 wWild _ d.out).mono ?_;rintro _ w4 ⟨rfl,C⟩;have p:=FarQ.of (q:=q) C;replace m:=qB m p;replace o:=qF o p;have bd:=p.size;replace d:=kP d C;clear p C;rw [ad];clear hI
 go_wp2_with (fail)
 cases hpl:plainE (nowT ts i) with
 | some x=>
  simp only [hpl] at u;cases u;refine (plain_ok _ d.out hpl).mono ?_;rintro _ w5 ⟨rfl,p,E⟩;replace m:=qB m p;replace o:=qF o p;have be:=p.size;replace d:=zz E;clear p E;simp only [exV];have G:=kc6 m;have hI:=iq_0_0_0 q w w2 w5
  go_wp2_with (fail)
  clear G;generalize a:World.setCell _ ⟨w.heap.size,5,none⟩ _=bn at *;replace d:=pO6 d a;replace o:=fN6 o a;replace m:=bS6 m a;clear a;generalize a:(bn.alloc (.cells #[.int .i64 x.kind,.string x.name,.int .i64 x.n,.slice none 0 0,.int .i64 x.line,.int .i64 x.col] 60))=w6 at *;replace d:=pA d a;replace o:=fA o a;replace m:=bA m a;clear a;clear hI;refine door_plain ?_;have X:=kc6 m;refine ⟨.agg #[.int .i64 x.kind,.string x.name,.int .i64 x.n,.slice none 0 0,.int .i64 x.line,.int .i64 x.col],(by clear d o m a3;simp [results,Tryz.results95,go_sem,X]),?_⟩;exact ⟨_,_,_,rfl,o.out.out,d.out,memNone (plain_args hpl)⟩
 | none=>
  simp only [hpl] at u;refine (plain_bad _ d.out hpl).mono ?_;rintro _ w5 ⟨⟨s_,l_,c_,rfl⟩,p,E⟩;replace m:=qB m p;replace o:=qF o p;have be:=p.size;replace d:=zz E;clear p E
  go_wp2_with (fail)
  generalize a:(w5.alloc (.cells #[.int .i64 0,.string s_,.int .i64 0,.slice none 0 0,.int .i64 l_,.int .i64 c_] 60))=w6 at *;have c6:=sizeA a;replace d:=pA d a;replace o:=fA o a;replace m:=bA m a;clear a
  rcases ac:isT ts i 6 wOpen
  ·
   simp only [ac,Bool.false_eq_true,if_false] at u;cases u;refine (is_any 6 wOpen _ d.out).mono ?_;rintro _ w7 ⟨rfl,C⟩;have p:=FarQ.of (q:=q) C;replace o:=qF o p;replace d:=kP d C;clear p C;rw [ac]
   go_wp2_with (fail)
   refine (fail_any _ d.out.bo d.out.mem).mono ?_;rintro _ w8 ⟨rfl,C⟩;have p:=FarQ.of (q:=q) C;have T:=(d.out.keep C).any
   go_wp2_with (fail)
   exact ⟨_,_,rfl,rfl,.inl rfl,FarB.out (o.out.farq p),T⟩
  simp only [ac,if_true] at u;refine (is_any 6 wOpen _ d.out).mono ?_;rintro _ w7 ⟨rfl,C⟩;have p:=FarQ.of (q:=q) C;replace m:=qB m p;replace o:=qF o p;have bu:=p.size;replace d:=kP d C;clear p C;rw [ac]
  go_wp2_with (fail)
  by_cases ag:D=40
  ·
   rw [if_pos ag] at u;cases u;subst ag;refine (down_bad _ (by exact d.out)).mono ?_;rintro _ w8 ⟨rfl,C⟩;have p:=FarQ.of (q:=q) C;have T:=(d.out.keep C).any
   go_wp2_with (fail)
   exact ⟨_,_,rfl,rfl,.inl rfl,FarB.out (o.out.farq p),T⟩
  rw [if_neg ag] at u;have ar:i<ts.length:=isT_lt ac (by decide)
  have a6:D+1≤40:=by omega
  refine (down_ok _ d.out (by omega) (by omega) (by omega) ar).mono ?_;rintro _ w8 ⟨rfl,p,E⟩;replace m:=qB m p;replace o:=qF o p;have bv:=p.size;replace d:=zz E;clear p E
  replace d:=zz (by have h:=d.out;rw [show ((D:Int)+1)=((D+1:Nat):Int) by omega] at h;exact h)
  go_wp2_with (fail)
  refine (now_any _ d.out.bo d.out.mem).mono ?_;rintro _ W ⟨rfl,C⟩;have p:=FarQ.of (q:=q) C;replace m:=qB m p;replace o:=qF o p;have bw:=p.size;replace d:=kP d C;clear p C;simp only [tkV]
  by_cases hu:(nowT ts (i+1)).k=3
  rotate_left
  ·
   have eu:((nowT ts (i+1)).k==3)=false:=by simp [hu]
   rw [if_neg hu] at u;clear hu
   go_wp2_with (fail)
   rcases V:readE ts f .pat (i+1) (D+1) with _ | ⟨x,j⟩ | ⟨l_,c_⟩
   · (rw [V] at u;cases u)
   rotate_left
   ·
    rw [V] at u
    first | simp only at u | simp only [andT] at u
    cases u;refine ((H f (Nat.lt_succ_self f)) (i+1) (D+1) _ _ a6 V d.out).mono ?_;rintro _ a5 ⟨rfl,p,T⟩
    go_wp2_with (fail)
    exact ⟨_,_,rfl,rfl,.inr rfl,FarB.out (o.out.farq p),T⟩
   rw [V] at u
   first | simp only at u | simp only [andT] at u
   refine ((H f (Nat.lt_succ_self f)) (i+1) (D+1) _ _ a6 V d.out).mono ?_;rintro _ a5 ⟨ax,mx,cx,rfl,p,E,hm⟩;replace m:=qB m p;replace o:=qF o p;have bc:=p.size;replace d:=zz E;have a9:=zz hm;clear p E hm;simp only [exV];have ak:i+1<j∧j≤ts.length:=readE_fwd f .pat (i+1) (D+1) x j V
   go_wp2_with (fail)
   generalize a:(a5.alloc (.cells #[.int .i64 x.kind,.string x.name,.int .i64 x.n,.slice ax mx cx,.int .i64 x.line,.int .i64 x.col] 60))=bi at *;have bf:=sizeA a;have aa:=zz (builtE1E (base:=W.heap.size) (memNw a9.out (by omega)) a (b:=a5.heap.size) (by omega) (by omega));replace d:=pA d a;replace o:=fA o a;replace m:=bA m a;have B:=aa;clear aa;clear a;clear a9
   go_loopw [7] (fun v wr=>∃ (l:List Ex) (P:Nat),(takeT ts P 6 wClose (some (.ok (appE l) (P+1)))=some r)∧Hid (PS ts aL n cap q P ((D+1:Nat):Int) wr)∧Hid (FarB q w.heap.size w wr)∧Hid (Bo wr w.heap.size 60 #[.int .i64 0,.string ⟨#[]⟩,.int .i64 0,.slice none 0 0,.int .i64 0,.int .i64 0])∧Hid (OwnD 0 W.heap.size 60 6 wr v (Ex.rows l))∧l≠[]∧l.length≤P∧P≤ts.length∧W.heap.size≤wr.heap.size) (fun v _=>ts.length+1 - lenV v)
   case atStart=>exact ⟨[x],j,u,d,o,m,B,(by simp),(by simp only [List.length_cons,List.length_nil];omega),ak.2,by omega⟩
   case round=>
    clear d o m B u;obtain ⟨l,P,u,d,o,m,B,a0,b5,b6,bh⟩:=hrel;clear a3;obtain ⟨a1,Q,c1,rfl,ab,b7,al⟩:=B.out.form2
    have bg:Q≤1048576:=by have h1:=d.out.len.1;have h2:=d.out.sm;omega
    have Z:=zz ab;clear ab al
    go_wp2_with (fail)
    go_wp2_with (fail)
    rcases U:isT ts P 6 wClose
    ·
     first | simp only [U,Bool.false_eq_true,if_false] at u | simp only [takeT,U,Bool.false_eq_true,if_false] at u
     cases u;refine (take_bad 6 wClose _ d.out U).mono ?_;rintro _ a7 ⟨rfl,C⟩;have p:=FarQ.of (q:=q) C;have T:=(d.out.keep C).any
     go_wp2_with (fail)
     exact ⟨_,_,rfl,rfl,.inr rfl,FarB.out (o.out.farq p),T⟩
    first | simp only [U,if_true] at u | simp only [takeT,U,if_true] at u
    cases u;refine (take_ok 6 wClose _ d.out U (by decide)).mono ?_;rintro _ a7 ⟨rfl,p,E⟩;replace m:=qB m p;replace B:=qO B p;replace o:=qF o p;replace d:=zz E;clear p E;have a4:Hid (Mem (Nw 0 W.heap.size a7.heap.size) a7 (.s 6 (Ex.rows l)) (.slice a1 Q c1)):=zz B.out.mem;obtain ⟨A,o2,z,a2,m2,c2,rfl,hz,I,J,L,M,N,O,R⟩:=ex_at a4.out 0 (List.length_pos_iff.2 a0);rw [Nat.zero_mul,Nat.add_zero] at I J L M N O;have b3:W.heap.size≤A:=(B.out.lt A rfl).1
    by_cases h1:l.length=1
    ·
     obtain rfl:Q=1:=by have :=Z.out;omega
     have HZ:Hid (appE l=z):=zz (by match l,h1,hz.out with | [e],_,h=>simpa [appE] using h);have G:=kc6 m
     go_wp2_with (fail)
     clear a4;clear G;generalize a:World.setCell _ ⟨w.heap.size,5,none⟩ _=Y at *;replace d:=pO6 d a;replace o:=fN6 o a;replace m:=bS6 m a;replace R:=mS6 R a;clear a;rw [HZ.out];refine door_up d.out.bo ?_;generalize a:(Y.setCell ⟨q,2,none⟩ (.int .i64 (wrap64 (((D+1:Nat):Int) - 1))))=a8 at *;replace d:=zz (d.out.setDE (k:=((D:Int))) a (wrap_up hd));replace o:=zz (o.out.setQE a);replace m:=bF1 m a;replace R:=mS1 R a;clear a;have X:=kc6 m;refine ⟨.agg #[.int .i64 z.kind,.string z.name,.int .i64 z.n,.slice a2 m2 c2,.int .i64 z.line,.int .i64 z.col],(by clear d o m R B;simp [results,Tryz.results95,go_sem,X]),?_⟩;exact ⟨_,_,_,rfl,o.out.out,d.out,memNw R.out (by omega)⟩
    have bb:((Q:Int)==1)=false:=by have :=Z.out;have h0:=List.length_pos_iff.2 a0;simp;omega
    have ba:1<Q:=by have :=Z.out;have h0:=List.length_pos_iff.2 a0;omega
    have b9:0<Q:=by omega
    have G:=kc6 m
    go_wp2_with (fail)
    clear a4 R
    have HZ:Hid (appE l=.mk 4 .empty 0 l z.line z.col):=zz (by match l,h1,a0,hz.out with | e::e2::es,_,_,h=>(have h2:e=z:=by simpa using h);rw [←h2];rfl)
    refine wp_region_held_drew (S:=fun w'=>Far (fun b=>b=w.heap.size) (a7) w') (by kernel_rfl) (Far.of (below_drew _)) (fun b0=>?_);refine takeA 0 (v:=?_) rfl ?_ ?_;rotate_left
    · (intro w t;replace I:=Far.cellZ I t (by intro e;have e:A=_:=e;omega);replace J:=Far.cellZ J t (by intro e;have e:A=_:=e;omega);replace L:=Far.cellZ L t (by intro e;have e:A=_:=e;omega);replace M:=Far.cellZ M t (by intro e;have e:A=_:=e;omega);replace N:=Far.cellZ N t (by intro e;have e:A=_:=e;omega);replace O:=Far.cellZ O t (by intro e;have e:A=_:=e;omega);go_simp;try rfl)
    (try simp only [pu]);refine takeA 1 (v:=?_) rfl ?_ ?_;rotate_left
    · (intro w t;replace I:=Far.cellZ I t (by intro e;have e:A=_:=e;omega);replace J:=Far.cellZ J t (by intro e;have e:A=_:=e;omega);replace L:=Far.cellZ L t (by intro e;have e:A=_:=e;omega);replace M:=Far.cellZ M t (by intro e;have e:A=_:=e;omega);replace N:=Far.cellZ N t (by intro e;have e:A=_:=e;omega);replace O:=Far.cellZ O t (by intro e;have e:A=_:=e;omega);go_simp;try rfl)
    (try simp only [pu]);refine takeA 2 (v:=?_) rfl ?_ ?_;rotate_left
    · (intro w t;replace I:=Far.cellZ I t (by intro e;have e:A=_:=e;omega);replace J:=Far.cellZ J t (by intro e;have e:A=_:=e;omega);replace L:=Far.cellZ L t (by intro e;have e:A=_:=e;omega);replace M:=Far.cellZ M t (by intro e;have e:A=_:=e;omega);replace N:=Far.cellZ N t (by intro e;have e:A=_:=e;omega);replace O:=Far.cellZ O t (by intro e;have e:A=_:=e;omega);go_simp;try rfl)
    (try simp only [pu]);refine takeA 3 (v:=?_) rfl ?_ ?_;rotate_left
    · (intro w t;replace I:=Far.cellZ I t (by intro e;have e:A=_:=e;omega);replace J:=Far.cellZ J t (by intro e;have e:A=_:=e;omega);replace L:=Far.cellZ L t (by intro e;have e:A=_:=e;omega);replace M:=Far.cellZ M t (by intro e;have e:A=_:=e;omega);replace N:=Far.cellZ N t (by intro e;have e:A=_:=e;omega);replace O:=Far.cellZ O t (by intro e;have e:A=_:=e;omega);go_simp;try rfl)
    (try simp only [pu]);refine takeA 4 (v:=?_) rfl ?_ ?_;rotate_left
    · (intro w t;replace I:=Far.cellZ I t (by intro e;have e:A=_:=e;omega);replace J:=Far.cellZ J t (by intro e;have e:A=_:=e;omega);replace L:=Far.cellZ L t (by intro e;have e:A=_:=e;omega);replace M:=Far.cellZ M t (by intro e;have e:A=_:=e;omega);replace N:=Far.cellZ N t (by intro e;have e:A=_:=e;omega);replace O:=Far.cellZ O t (by intro e;have e:A=_:=e;omega);go_simp;try rfl)
    (try simp only [pu]);refine callA 5 rfl fun K F=>?_;go_simp;refine F.out _ _ ?_ (fun ah=>?_);· exact (by refine Far.drewC ?_;(iterate 6 (with_reducible refine Far.setS ?_ _ _));exact Far.refl _ _)
    clear F K;clear G;generalize a:World.setCell _ ⟨w.heap.size,5,none⟩ _=bj at *;replace d:=pO6 d a;replace o:=fN6 o a;replace m:=bS6 m a;replace B:=oS6 B a;clear a;generalize a:(bj.drew)=Y at *;replace d:=pD d a;replace o:=fD o a;replace m:=bD m a;replace B:=oD B a;clear a;have G:=kc6 m;refine takeA 6 (v:=?_) rfl ?_ ?_;rotate_left
    · (intro w t;go_simp;try rfl)
    (try simp only [pu]);refine callA 7 rfl fun K F=>?_;go_simp;refine F.out _ _ ?_ (fun ai=>?_);· exact Far.setS ah _ _
    clear F K;clear G;generalize a:(Y.setCell ⟨w.heap.size,0,none⟩ (.int .i64 4))=a8 at *;replace d:=pO1 d a;replace o:=fN1 o a;replace m:=s6_0 m a;replace B:=oS1 B a;clear a;have G:=kc6 m;refine takeA 8 (v:=?_) rfl ?_ ?_;rotate_left
    · (intro w t;go_simp;try rfl)
    (try simp only [pu]);refine callA 9 rfl fun K F=>?_;go_simp;refine F.out _ _ ?_ (fun aj=>?_);· exact Far.setS ai _ _
    clear F K;clear G;generalize a:(a8.setCell ⟨w.heap.size,3,none⟩ (.slice (some ⟨A,o2,none⟩) Q c1))=af at *;replace d:=pO1 d a;replace o:=fN1 o a;replace m:=s6_3 m a;replace B:=oS1 B a;clear a;have G:=kc6 m;refine takeA 10 (v:=?_) rfl ?_ ?_;rotate_left
    · (intro w t;go_simp;try rfl)
    (try simp only [pu]);refine callA 11 rfl fun K F=>?_;go_simp;refine F.out _ _ ?_ (fun b1=>?_);· exact Far.setS (Far.setS aj _ _) _ _
    clear F K;refine wpAnyH_done (by kernel_rfl) ?_ _;clear G;generalize a:(af.setCell ⟨w.heap.size,4,none⟩ (.int .i64 z.line))=bl at *;replace d:=pO1 d a;replace o:=fN1 o a;replace m:=s6_4 m a;replace B:=oS1 B a;clear a;generalize a:(bl.setCell ⟨w.heap.size,5,none⟩ (.int .i64 z.col))=an at *;replace d:=pO1 d a;replace o:=fN1 o a;replace m:=s6_5 m a;replace B:=oS1 B a;clear a
    go_wp2_with (fail)
    rw [HZ.out];refine door_up d.out.bo ?_;generalize a:(an.setCell ⟨q,2,none⟩ (.int .i64 (wrap64 (((D+1:Nat):Int) - 1))))=au at *;replace d:=zz (d.out.setDE (k:=((D:Int))) a (wrap_up hd));replace o:=zz (o.out.setQE a);replace m:=bF1 m a;replace B:=oS1 B a;clear a;have X:=kc6 m;refine ⟨.agg #[.int .i64 4,.string ⟨#[]⟩,.int .i64 0,.slice (some ⟨A,o2,none⟩) Q c1,.int .i64 z.line,.int .i64 z.col],(by clear d o m B;simp [results,Tryz.results95,go_sem,X]),?_⟩;exact ⟨_,_,_,rfl,o.out.out,d.out,memNw B.out.mem (by omega)⟩
  have eu:((nowT ts (i+1)).k==3)=true:=by simp [hu]
  rw [if_pos hu] at u;clear hu
  go_wp2_with (fail)
  rcases V:readE ts f .pat (i+1) (D+1) with _ | ⟨x,j⟩ | ⟨l_,c_⟩
  · (rw [V] at u;cases u)
  rotate_left
  ·
   rw [V] at u
   first | simp only at u | simp only [andT] at u
   cases u;refine ((H f (Nat.lt_succ_self f)) (i+1) (D+1) _ _ a6 V d.out).mono ?_;rintro _ a5 ⟨rfl,p,T⟩
   go_wp2_with (fail)
   exact ⟨_,_,rfl,rfl,.inr rfl,FarB.out (o.out.farq p),T⟩
  rw [V] at u
  first | simp only at u | simp only [andT] at u
  refine ((H f (Nat.lt_succ_self f)) (i+1) (D+1) _ _ a6 V d.out).mono ?_;rintro _ a5 ⟨ax,mx,cx,rfl,p,E,hm⟩;replace m:=qB m p;replace o:=qF o p;have bc:=p.size;replace d:=zz E;have a9:=zz hm;clear p E hm;simp only [exV];have ak:i+1<j∧j≤ts.length:=readE_fwd f .pat (i+1) (D+1) x j V
  go_wp2_with (fail)
  generalize a:(a5.alloc (.cells #[.int .i64 x.kind,.string x.name,.int .i64 x.n,.slice ax mx cx,.int .i64 x.line,.int .i64 x.col] 60))=bi at *;have bf:=sizeA a;have aa:=zz (builtE1E (base:=W.heap.size) (memNw a9.out (by omega)) a (b:=a5.heap.size) (by omega) (by omega));replace d:=pA d a;replace o:=fA o a;replace m:=bA m a;have B:=aa;clear aa;clear a;clear a9
  go_loopw [7] (fun v wr=>∃ (l:List Ex) (P:Nat),(∃ g,g≤f∧readE ts g (.pats l) P (D+1)=some r)∧Hid (PS ts aL n cap q P ((D+1:Nat):Int) wr)∧Hid (FarB q w.heap.size w wr)∧Hid (Bo wr w.heap.size 60 #[.int .i64 0,.string ⟨#[]⟩,.int .i64 0,.slice none 0 0,.int .i64 0,.int .i64 0])∧Hid (OwnD 0 W.heap.size 60 6 wr v (Ex.rows l))∧l≠[]∧l.length≤P∧P≤ts.length∧W.heap.size≤wr.heap.size) (fun v _=>ts.length+1 - lenV v)
  case atStart=>exact ⟨[x],j,⟨f,Nat.le_refl _,u⟩,d,o,m,B,(by simp),(by simp only [List.length_cons,List.length_nil];omega),ak.2,by omega⟩
  case round=>
   clear d o m B u;obtain ⟨l,P,u,d,o,m,B,a0,b5,b6,bh⟩:=hrel;clear a3;obtain ⟨a1,Q,c1,rfl,ab,b7,al⟩:=B.out.form2
   have bg:Q≤1048576:=by have h1:=d.out.len.1;have h2:=d.out.sm;omega
   have Z:=zz ab;clear ab al
   go_wp2_with (fail)
   obtain ⟨g,hg,u⟩:=u
   cases g with
   | zero=>rw [readE] at u;cases u
   | succ g=>
    rw [readE] at u
    cases hce:isT ts P 6 wClose with
    | true=>
     simp only [hce,if_true] at u;refine (is_any 6 wClose _ d.out).mono ?_;rintro _ a7 ⟨rfl,C⟩;have p:=FarQ.of (q:=q) C;replace m:=qB m p;replace B:=qO B p;replace o:=qF o p;replace d:=kP d C;clear p C;rw [hce]
     have u:takeT ts P 6 wClose (some (.ok (appE l) (P+1)))=some r:=by simp only [takeT,hce,if_true];exact u
     go_wp2_with (fail)
     rcases U:isT ts P 6 wClose
     ·
      first | simp only [U,Bool.false_eq_true,if_false] at u | simp only [takeT,U,Bool.false_eq_true,if_false] at u
      cases u;refine (take_bad 6 wClose _ d.out U).mono ?_;rintro _ Y ⟨rfl,C⟩;have p:=FarQ.of (q:=q) C;have T:=(d.out.keep C).any
      go_wp2_with (fail)
      exact ⟨_,_,rfl,rfl,.inr rfl,FarB.out (o.out.farq p),T⟩
     first | simp only [U,if_true] at u | simp only [takeT,U,if_true] at u
     cases u;refine (take_ok 6 wClose _ d.out U (by decide)).mono ?_;rintro _ Y ⟨rfl,p,E⟩;replace m:=qB m p;replace B:=qO B p;replace o:=qF o p;replace d:=zz E;clear p E;have a4:Hid (Mem (Nw 0 W.heap.size Y.heap.size) Y (.s 6 (Ex.rows l)) (.slice a1 Q c1)):=zz B.out.mem;obtain ⟨A,o2,z,a2,m2,c2,rfl,hz,I,J,L,M,N,O,R⟩:=ex_at a4.out 0 (List.length_pos_iff.2 a0);rw [Nat.zero_mul,Nat.add_zero] at I J L M N O;have b3:W.heap.size≤A:=(B.out.lt A rfl).1
     by_cases h1:l.length=1
     ·
      obtain rfl:Q=1:=by have :=Z.out;omega
      have HZ:Hid (appE l=z):=zz (by match l,h1,hz.out with | [e],_,h=>simpa [appE] using h);have G:=kc6 m
      go_wp2_with (fail)
      clear a4;clear G;generalize a:World.setCell _ ⟨w.heap.size,5,none⟩ _=a8 at *;replace d:=pO6 d a;replace o:=fN6 o a;replace m:=bS6 m a;replace R:=mS6 R a;clear a;rw [HZ.out];refine door_up d.out.bo ?_;generalize a:(a8.setCell ⟨q,2,none⟩ (.int .i64 (wrap64 (((D+1:Nat):Int) - 1))))=af at *;replace d:=zz (d.out.setDE (k:=((D:Int))) a (wrap_up hd));replace o:=zz (o.out.setQE a);replace m:=bF1 m a;replace R:=mS1 R a;clear a;have X:=kc6 m;refine ⟨.agg #[.int .i64 z.kind,.string z.name,.int .i64 z.n,.slice a2 m2 c2,.int .i64 z.line,.int .i64 z.col],(by clear d o m R B;simp [results,Tryz.results95,go_sem,X]),?_⟩;exact ⟨_,_,_,rfl,o.out.out,d.out,memNw R.out (by omega)⟩
     have bb:((Q:Int)==1)=false:=by have :=Z.out;have h0:=List.length_pos_iff.2 a0;simp;omega
     have ba:1<Q:=by have :=Z.out;have h0:=List.length_pos_iff.2 a0;omega
     have b9:0<Q:=by omega
     have G:=kc6 m
     go_wp2_with (fail)
     clear a4 R
     have HZ:Hid (appE l=.mk 4 .empty 0 l z.line z.col):=zz (by match l,h1,a0,hz.out with | e::e2::es,_,_,h=>(have h2:e=z:=by simpa using h);rw [←h2];rfl)
     refine wp_region_held_drew (S:=fun w'=>Far (fun b=>b=w.heap.size) (Y) w') (by kernel_rfl) (Far.of (below_drew _)) (fun b0=>?_);refine takeA 0 (v:=?_) rfl ?_ ?_;rotate_left
     · (intro w t;replace I:=Far.cellZ I t (by intro e;have e:A=_:=e;omega);replace J:=Far.cellZ J t (by intro e;have e:A=_:=e;omega);replace L:=Far.cellZ L t (by intro e;have e:A=_:=e;omega);replace M:=Far.cellZ M t (by intro e;have e:A=_:=e;omega);replace N:=Far.cellZ N t (by intro e;have e:A=_:=e;omega);replace O:=Far.cellZ O t (by intro e;have e:A=_:=e;omega);go_simp;try rfl)
     (try simp only [pu]);refine takeA 1 (v:=?_) rfl ?_ ?_;rotate_left
     · (intro w t;replace I:=Far.cellZ I t (by intro e;have e:A=_:=e;omega);replace J:=Far.cellZ J t (by intro e;have e:A=_:=e;omega);replace L:=Far.cellZ L t (by intro e;have e:A=_:=e;omega);replace M:=Far.cellZ M t (by intro e;have e:A=_:=e;omega);replace N:=Far.cellZ N t (by intro e;have e:A=_:=e;omega);replace O:=Far.cellZ O t (by intro e;have e:A=_:=e;omega);go_simp;try rfl)
     (try simp only [pu]);refine takeA 2 (v:=?_) rfl ?_ ?_;rotate_left
     · (intro w t;replace I:=Far.cellZ I t (by intro e;have e:A=_:=e;omega);replace J:=Far.cellZ J t (by intro e;have e:A=_:=e;omega);replace L:=Far.cellZ L t (by intro e;have e:A=_:=e;omega);replace M:=Far.cellZ M t (by intro e;have e:A=_:=e;omega);replace N:=Far.cellZ N t (by intro e;have e:A=_:=e;omega);replace O:=Far.cellZ O t (by intro e;have e:A=_:=e;omega);go_simp;try rfl)
     (try simp only [pu]);refine takeA 3 (v:=?_) rfl ?_ ?_;rotate_left
     · (intro w t;replace I:=Far.cellZ I t (by intro e;have e:A=_:=e;omega);replace J:=Far.cellZ J t (by intro e;have e:A=_:=e;omega);replace L:=Far.cellZ L t (by intro e;have e:A=_:=e;omega);replace M:=Far.cellZ M t (by intro e;have e:A=_:=e;omega);replace N:=Far.cellZ N t (by intro e;have e:A=_:=e;omega);replace O:=Far.cellZ O t (by intro e;have e:A=_:=e;omega);go_simp;try rfl)
     (try simp only [pu]);refine takeA 4 (v:=?_) rfl ?_ ?_;rotate_left
     · (intro w t;replace I:=Far.cellZ I t (by intro e;have e:A=_:=e;omega);replace J:=Far.cellZ J t (by intro e;have e:A=_:=e;omega);replace L:=Far.cellZ L t (by intro e;have e:A=_:=e;omega);replace M:=Far.cellZ M t (by intro e;have e:A=_:=e;omega);replace N:=Far.cellZ N t (by intro e;have e:A=_:=e;omega);replace O:=Far.cellZ O t (by intro e;have e:A=_:=e;omega);go_simp;try rfl)
     (try simp only [pu]);refine callA 5 rfl fun K F=>?_;go_simp;refine F.out _ _ ?_ (fun ah=>?_);· exact (by refine Far.drewC ?_;(iterate 6 (with_reducible refine Far.setS ?_ _ _));exact Far.refl _ _)
     clear F K;clear G;generalize a:World.setCell _ ⟨w.heap.size,5,none⟩ _=bk at *;replace d:=pO6 d a;replace o:=fN6 o a;replace m:=bS6 m a;replace B:=oS6 B a;clear a;generalize a:(bk.drew)=a8 at *;replace d:=pD d a;replace o:=fD o a;replace m:=bD m a;replace B:=oD B a;clear a;have G:=kc6 m;refine takeA 6 (v:=?_) rfl ?_ ?_;rotate_left
     · (intro w t;go_simp;try rfl)
     (try simp only [pu]);refine callA 7 rfl fun K F=>?_;go_simp;refine F.out _ _ ?_ (fun ai=>?_);· exact Far.setS ah _ _
     clear F K;clear G;generalize a:(a8.setCell ⟨w.heap.size,0,none⟩ (.int .i64 4))=af at *;replace d:=pO1 d a;replace o:=fN1 o a;replace m:=s6_0 m a;replace B:=oS1 B a;clear a;have G:=kc6 m;refine takeA 8 (v:=?_) rfl ?_ ?_;rotate_left
     · (intro w t;go_simp;try rfl)
     (try simp only [pu]);refine callA 9 rfl fun K F=>?_;go_simp;refine F.out _ _ ?_ (fun aj=>?_);· exact Far.setS ai _ _
     clear F K;clear G;generalize a:(af.setCell ⟨w.heap.size,3,none⟩ (.slice (some ⟨A,o2,none⟩) Q c1))=an at *;replace d:=pO1 d a;replace o:=fN1 o a;replace m:=s6_3 m a;replace B:=oS1 B a;clear a;have G:=kc6 m;refine takeA 10 (v:=?_) rfl ?_ ?_;rotate_left
     · (intro w t;go_simp;try rfl)
     (try simp only [pu]);refine callA 11 rfl fun K F=>?_;go_simp;refine F.out _ _ ?_ (fun b1=>?_);· exact Far.setS (Far.setS aj _ _) _ _
     clear F K;refine wpAnyH_done (by kernel_rfl) ?_ _;clear G;generalize a:(an.setCell ⟨w.heap.size,4,none⟩ (.int .i64 z.line))=bm at *;replace d:=pO1 d a;replace o:=fN1 o a;replace m:=s6_4 m a;replace B:=oS1 B a;clear a;generalize a:(bm.setCell ⟨w.heap.size,5,none⟩ (.int .i64 z.col))=au at *;replace d:=pO1 d a;replace o:=fN1 o a;replace m:=s6_5 m a;replace B:=oS1 B a;clear a
     go_wp2_with (fail)
     rw [HZ.out];refine door_up d.out.bo ?_;generalize a:(au.setCell ⟨q,2,none⟩ (.int .i64 (wrap64 (((D+1:Nat):Int) - 1))))=c7 at *;replace d:=zz (d.out.setDE (k:=((D:Int))) a (wrap_up hd));replace o:=zz (o.out.setQE a);replace m:=bF1 m a;replace B:=oS1 B a;clear a;have X:=kc6 m;refine ⟨.agg #[.int .i64 4,.string ⟨#[]⟩,.int .i64 0,.slice (some ⟨A,o2,none⟩) Q c1,.int .i64 z.line,.int .i64 z.col],(by clear d o m B;simp [results,Tryz.results95,go_sem,X]),?_⟩;exact ⟨_,_,_,rfl,o.out.out,d.out,memNw B.out.mem (by omega)⟩
    | false=>
     simp only [hce,Bool.false_eq_true,if_false] at u;refine (is_any 6 wClose _ d.out).mono ?_;rintro _ a7 ⟨rfl,C⟩;have p:=FarQ.of (q:=q) C;replace m:=qB m p;replace B:=qO B p;replace o:=qF o p;have br:=p.size;replace d:=kP d C;clear p C;rw [hce]
     go_wp2_with (fail)
     have ap:g<f+1:=by omega
     rcases hy:readE ts g .pat P (D+1) with _ | ⟨y,k⟩ | ⟨l_,c_⟩
     · (rw [hy] at u;cases u)
     rotate_left
     ·
      rw [hy] at u
      first | simp only at u | simp only [andT] at u
      cases u;refine ((H g ap) P (D+1) _ _ a6 hy d.out).mono ?_;rintro _ Y ⟨rfl,p,T⟩
      go_wp2_with (fail)
      exact ⟨_,_,rfl,rfl,.inr rfl,FarB.out (o.out.farq p),T⟩
     rw [hy] at u
     first | simp only at u | simp only [andT] at u
     have az:=B;refine ((H g ap) P (D+1) _ _ a6 hy d.out).mono ?_;rintro _ Y ⟨ay,my,cy,rfl,p,E,hm⟩;replace m:=qB m p;replace B:=qO B p;replace o:=qF o p;have bs:=p.size;replace d:=zz E;have av:=zz hm;clear p E hm;simp only [exV];have b4:P<k∧k≤ts.length:=readE_fwd g .pat P (D+1) y k hy
     go_wp2_with (first | (at_builtin;refine wpList_append_D rfl _ _ rfl Tryz.underlying58 info_ex rfl (by decide) rfl rfl (B.out.alloc _) (newRow az.out (by omega) (by omega) av.out) (by have :=Z.out;simp only [Ex.rows_len,List.length_cons,List.length_nil];omega) (by have :=Z.out;simp only [Ex.rows_len,List.length_cons,List.length_nil];omega) (by rw [World.size_alloc];omega) ?_;intro vA wA ho aq;have aw:=zz ho;clear ho;have ae:=zz aq;clear aq))
     have am:∀ k,(Value.slice a1 Q c1).ownBlock=some k→W.heap.size≤k:=fun k hk=>(B.out.lt k hk).1
     have ao:Hid (OwnD 0 W.heap.size 60 6 wA vA (Ex.rows (l++[y]))):=zz (by rw [Ex.rows_app];exact aw.out);obtain ⟨a2,m2,c2,rfl,b8,_,_⟩:=ao.out.form2;rw [List.length_append,List.length_cons,List.length_nil] at b8
     have bx:Y.heap.size+1≤wA.heap.size:=by have h:=ae.out.size;rw [World.size_alloc] at h;exact h
     go_roundw
     case rel=>exact ⟨l++[y],k,⟨g,by omega,u⟩,zz ((d.out.alloc (.cells #[.int .i64 y.kind,.string y.name,.int .i64 y.n,.slice ay my cy,.int .i64 y.line,.int .i64 y.col] 60)).grown ae.out fun k hk=>by have :=am k hk;omega),zz ((o.out.alloc (.cells #[.int .i64 y.kind,.string y.name,.int .i64 y.n,.slice ay my cy,.int .i64 y.line,.int .i64 y.col] 60)).grown ae.out fun k hk=>by have :=am k hk;omega),zz ((m.out.alloc (.cells #[.int .i64 y.kind,.string y.name,.int .i64 y.n,.slice ay my cy,.int .i64 y.line,.int .i64 y.col] 60)).grown ae.out fun k hk=>by have :=am k hk;omega),ao,by simp,by rw [List.length_append,List.length_cons,List.length_nil];omega,b4.2,by omega⟩
     case measure=>have :=Z.out;simp only [lenV];omega
theorem pat_reads (F:Nat):∀ g,g≤F→Reads ts aL n cap q 95 .pat g:=by
  induction F with
  | zero =>
    intro g hg i deep r w hd hr hp
    obtain rfl:g=0:=by omega
    rw [readE] at hr;cases hr
  | succ F ih =>
    intro g hg i deep r w hd hr hp
    cases g with
    | zero=>rw [readE] at hr;cases hr
    | succ f=>exact pat_succ hr w hd (fun g2 h2=>ih g2 (by omega)) hp
end
end
section
open Go.RowKit
section
variable {ts:List Tk} {aL:Option Addr} {n cap q:Nat}
theorem pat1_any {F i:Nat} {r:Rd1} (s:readE ts F .pat i 0=some r) (w:World) (f:PS ts aL n cap q i ((0:Nat):Int) w):
  Calls Tryz.prog 94 #[.pointer (some ⟨q,0,none⟩)] w (Ans ts aL n cap q r 0 w):=by
 have d:=zz f;have E:=f.lt;have b:=zz (FarB.refl q w.heap.size w)
 have o:=fun g (D:g<F+1)=>pat_reads (ts:=ts) (aL:=aL) (n:=n) (cap:=cap) (q:=q) F g (by omega)
 clear f;go_enter Tryz.func94,Tryz.ntmps94
 go_wp2_with (fail)
 generalize a:(w.alloc (.cells #[.int .i64 0,.string ⟨#[]⟩,.int .i64 0,.slice none 0 0,.int .i64 0,.int .i64 0] 60))=H at *;have G:=sizeA a;replace d:=pA d a;replace b:=fA b a;have e:=nB a (w.heap.size);clear a
 cases r with
 | bad l_ c_=>
  refine (o F (Nat.lt_succ_self F) i 0 _ _ (Nat.zero_le _) s d.out).mono ?_;rintro _ C ⟨rfl,h,z⟩
  go_wp2_with (fail)
  exact ⟨rfl,rfl,FarB.out (b.out.farq h),z⟩
 | ok x j=>
  refine (o F (Nat.lt_succ_self F) i 0 _ _ (Nat.zero_le _) s d.out).mono ?_;rintro _ C ⟨t,A,u,rfl,h,f,p⟩;replace e:=qB e h;replace b:=qF b h;replace d:=zz f;have m:=zz p;clear h f p;simp only [exV];have B:=kc6 e
  go_wp2_with (fail)
  clear B;generalize a:World.setCell _ ⟨w.heap.size,5,none⟩ _=I at *;replace d:=pO6 d a;replace b:=fN6 b a;replace e:=bS6 e a;replace m:=mS6 m a;clear a;have y:=kc6 e;refine bodyPost_ret (v:=.agg #[.int .i64 x.kind,.string x.name,.int .i64 x.n,.slice t A u,.int .i64 x.line,.int .i64 x.col]) (by clear d b e m;simp [results,Tryz.results94,go_sem,y]) rfl ?_;exact ⟨_,_,_,rfl,b.out.out,d.out,memNw m.out (by omega)⟩
theorem run_pat_neg {F:Nat} {i:Int} (hi:i<0) {r:Rd1} (w:World) (h:MemW w (.s 5 (tkRows ts)) (.slice aL n cap)) (hn:n≤1048576) (hr:readE ts F .pat 0 0=some r):
  Calls Tryz.prog 93 #[.slice aL n cap,.int .i64 i,.func (.func 94) #[] #[]] w (RunAns r w):=by
 have H:=zz h
 have hE:∀ args w,Sem.run Tryz.prog (callFunc 94 args) w=.ok (.enter 94 args) w:=fun _ _=>by kernel_rfl
 clear h
 go_enter_defers Tryz.func93,Tryz.ntmps93
 go_wp2_with (fail)
 have a5:((((w.alloc (.cells #[.int .i64 0,.string ⟨#[]⟩,.int .i64 0,.slice none 0 0,.int .i64 0,.int .i64 0] 60)).alloc (.cells #[.int .i64 0] 3)).alloc (.cells #[.int .i64 0,.int .i64 0,.int .i64 0] 31)).alloc (.cells #[.slice aL n cap,.int .i64 0,.int .i64 0] 162)).heap.size=w.heap.size+1+1+1+1:=by simp only [World.size_alloc]
 have d:Hid (Bo ((((w.alloc (.cells #[.int .i64 0,.string ⟨#[]⟩,.int .i64 0,.slice none 0 0,.int .i64 0,.int .i64 0] 60)).alloc (.cells #[.int .i64 0] 3)).alloc (.cells #[.int .i64 0,.int .i64 0,.int .i64 0] 31)).alloc (.cells #[.slice aL n cap,.int .i64 0,.int .i64 0] 162)) w.heap.size 60 #[.int .i64 0,.string ⟨#[]⟩,.int .i64 0,.slice none 0 0,.int .i64 0,.int .i64 0]):=zz ((((Bo.new w 60 #[.int .i64 0,.string ⟨#[]⟩,.int .i64 0,.slice none 0 0,.int .i64 0,.int .i64 0]).alloc _).alloc _).alloc _)
 have m:Hid (Bo ((((w.alloc (.cells #[.int .i64 0,.string ⟨#[]⟩,.int .i64 0,.slice none 0 0,.int .i64 0,.int .i64 0] 60)).alloc (.cells #[.int .i64 0] 3)).alloc (.cells #[.int .i64 0,.int .i64 0,.int .i64 0] 31)).alloc (.cells #[.slice aL n cap,.int .i64 0,.int .i64 0] 162)) (w.heap.size+1) 3 #[.int .i64 0]):=zz ((((by have h:=Bo.new (w.alloc (.cells #[.int .i64 0,.string ⟨#[]⟩,.int .i64 0,.slice none 0 0,.int .i64 0,.int .i64 0] 60)) 3 #[.int .i64 0];rw [World.size_alloc] at h;exact h:Bo ((w.alloc (.cells #[.int .i64 0,.string ⟨#[]⟩,.int .i64 0,.slice none 0 0,.int .i64 0,.int .i64 0] 60)).alloc (.cells #[.int .i64 0] 3)) (w.heap.size+1) 3 #[.int .i64 0])).alloc _).alloc _)
 have g:Hid (Bo ((((w.alloc (.cells #[.int .i64 0,.string ⟨#[]⟩,.int .i64 0,.slice none 0 0,.int .i64 0,.int .i64 0] 60)).alloc (.cells #[.int .i64 0] 3)).alloc (.cells #[.int .i64 0,.int .i64 0,.int .i64 0] 31)).alloc (.cells #[.slice aL n cap,.int .i64 0,.int .i64 0] 162)) (w.heap.size+1+1) 31 #[.int .i64 0,.int .i64 0,.int .i64 0]):=zz (((by have h:=Bo.new ((w.alloc (.cells #[.int .i64 0,.string ⟨#[]⟩,.int .i64 0,.slice none 0 0,.int .i64 0,.int .i64 0] 60)).alloc (.cells #[.int .i64 0] 3)) 31 #[.int .i64 0,.int .i64 0,.int .i64 0];rw [World.size_alloc,World.size_alloc] at h;exact h:Bo (((w.alloc (.cells #[.int .i64 0,.string ⟨#[]⟩,.int .i64 0,.slice none 0 0,.int .i64 0,.int .i64 0] 60)).alloc (.cells #[.int .i64 0] 3)).alloc (.cells #[.int .i64 0,.int .i64 0,.int .i64 0] 31)) (w.heap.size+1+1) 31 #[.int .i64 0,.int .i64 0,.int .i64 0])).alloc _)
 have M:Bo ((((w.alloc (.cells #[.int .i64 0,.string ⟨#[]⟩,.int .i64 0,.slice none 0 0,.int .i64 0,.int .i64 0] 60)).alloc (.cells #[.int .i64 0] 3)).alloc (.cells #[.int .i64 0,.int .i64 0,.int .i64 0] 31)).alloc (.cells #[.slice aL n cap,.int .i64 0,.int .i64 0] 162)) (w.heap.size+1+1+1) 162 #[.slice aL n cap,.int .i64 0,.int .i64 0]:=by have h:=Bo.new (((w.alloc (.cells #[.int .i64 0,.string ⟨#[]⟩,.int .i64 0,.slice none 0 0,.int .i64 0,.int .i64 0] 60)).alloc (.cells #[.int .i64 0] 3)).alloc (.cells #[.int .i64 0,.int .i64 0,.int .i64 0] 31)) 162 #[.slice aL n cap,.int .i64 0,.int .i64 0];rw [World.size_alloc,World.size_alloc,World.size_alloc] at h;exact h
 have L:Below w.heap.size w ((((w.alloc (.cells #[.int .i64 0,.string ⟨#[]⟩,.int .i64 0,.slice none 0 0,.int .i64 0,.int .i64 0] 60)).alloc (.cells #[.int .i64 0] 3)).alloc (.cells #[.int .i64 0,.int .i64 0,.int .i64 0] 31)).alloc (.cells #[.slice aL n cap,.int .i64 0,.int .i64 0] 162)):=(((below_new w _).alloc (by simp) _).alloc (by simp only [World.size_alloc];omega) _).alloc (by simp only [World.size_alloc];omega) _;generalize ((((w.alloc (.cells #[.int .i64 0,.string ⟨#[]⟩,.int .i64 0,.slice none 0 0,.int .i64 0,.int .i64 0] 60)).alloc (.cells #[.int .i64 0] 3)).alloc (.cells #[.int .i64 0,.int .i64 0,.int .i64 0] 31)).alloc (.cells #[.slice aL n cap,.int .i64 0,.int .i64 0] 162))=I at *;have a1:Mem (· <w.heap.size+1+1+1) I (.s 5 (tkRows ts)) (.slice aL n cap):=(Mem.keep H.out (Nat.le_refl _) L).le (by omega);generalize hq:w.heap.size+1+1+1=q at *;have D:Hid (PS ts aL n cap q 0 ((0:Nat):Int) I):=zz ⟨M,a1,hn⟩;have o:Hid (FarB q w.heap.size w I):=zz (Far.of L)
 have aa:w.heap.size+1+1<q:=by omega
 have a6:I.heap.size=q+1:=by omega
 clear hq a5 M a1 L
 cases r with
 | bad l_ c_=>
  refine (pat1_any hr _ D.out).mono ?_;rintro _ w2 ⟨rfl,z,M⟩;replace d:=qB d z;replace m:=qB m z;replace g:=qB g z;replace o:=qF o z
  go_wp2_with (fail)
  refine leaves_cons (f:=127) (args:=#[.pointer (some ⟨w.heap.size,0,none⟩),.pointer (some ⟨w.heap.size+1,0,none⟩),.pointer (some ⟨w.heap.size+1+1,0,none⟩)]) (by simp) (by simp [go_sem]) ?_;refine (caught_fault w2 l_ c_ (by omega) (by omega) d.out m.out g.out).mono ?_;rintro e u N ⟨rfl,hu,a0,C,g1,G⟩
  show Leaves _ _ _ _ [] (settle u) N
  rw [hu];have O:=C.cell (j:=0) rfl;have P:=C.cell (j:=1) rfl;have Q:=C.cell (j:=2) rfl;have R:=C.cell (j:=3) rfl;have T:=C.cell (j:=4) rfl;have U:=C.cell (j:=5) rfl;have V:=g1.cell (j:=0) rfl;have W:=G.cell (j:=0) rfl;have X:=G.cell (j:=1) rfl;have Y:=G.cell (j:=2) rfl;refine ⟨_,?_,rfl,?_⟩
  · (clear o d m g H C g1 G a0;simp [results,Tryz.results93,go_sem,O,P,Q,R,T,U,V,W,X,Y])
  · exact Far.toB (Far.trans (Far.mono o.out (fun b e=>by rcases e with e | e <;> omega)) (Far.mono a0 (fun b e=>by rcases e with e | e | e <;> omega))) (Nat.le_refl _)
 | ok x j=>
  refine (pat1_any hr _ D.out).mono ?_;rintro _ w2 ⟨Z,mx,cx,rfl,z,hp,hm⟩;replace d:=qB d z;replace m:=qB m z;replace g:=qB g z;replace o:=qF o z;have a6:=z.size;replace D:=zz hp;have t:=zz hm;clear z hp hm;simp only [exV];have E:=zz D.out.bo;clear D;have J:=kc6 d
  go_wp2_with (fail)
  clear J;generalize a:World.setCell _ ⟨w.heap.size,5,none⟩ _=N at *;have ab:=sizeS6 a;replace o:=fN6 o a;replace d:=bS6 d a;replace m:=bF6 m a;replace g:=bF6 g a;replace E:=bF6 E a;replace t:=mS6 t a;clear a;have J:=kc6 d;have A:=kc3 E;refine wp_nopanic ?_;refine wp_region_held_drew (S:=fun w'=>Far (fun b=>b=w.heap.size∨b=w.heap.size+1∨b=w.heap.size+1+1) (N) w') (by kernel_rfl) (Far.of (below_drew _)) (fun a2=>?_);refine takeA 1 (v:=?_) rfl ?_ ?_;rotate_left
  · (intro w B;replace A:=Far.c3z A B (by intro e;rcases e with e | e | e <;> omega);go_simp;try rfl)
  (try simp only [pu]);refine takeA 2 (v:=?_) rfl ?_ ?_;rotate_left
  · (intro w B;replace A:=Far.c3z A B (by intro e;rcases e with e | e | e <;> omega);go_simp;try rfl)
  (try simp only [pu]);refine takeA 3 (v:=?_) rfl ?_ ?_;rotate_left
  · (intro w B;replace A:=Far.c3z A B (by intro e;rcases e with e | e | e <;> omega);go_simp;try rfl)
  (try simp only [pu]);refine takeA 4 (v:=?_) rfl ?_ ?_;rotate_left
  · (intro w B;replace A:=Far.c3z A B (by intro e;rcases e with e | e | e <;> omega);go_simp;try rfl)
  (try simp only [pu]);refine takeA 5 (v:=?_) rfl ?_ ?_;rotate_left
  · (intro w B;replace A:=Far.c3z A B (by intro e;rcases e with e | e | e <;> omega);go_simp;try rfl)
  (try simp only [pu]);refine callA 0 rfl fun K y=>?_;go_simp;refine y.out _ _ ?_ (fun a8=>?_);· exact a2
  clear y K;refine callA 6 rfl fun K y=>?_;go_simp;refine y.out _ _ ?_ (fun a3=>?_);· exact (by refine Far.trans ?_ (Far.of (below_drew _));(iterate 6 (refine Far.setCell (p:=⟨w.heap.size,_,none⟩) ?_ (.inl rfl) _));exact Far.refl _ _)
  clear y K;clear J A;generalize a:World.setCell _ ⟨w.heap.size,5,none⟩ _=a7 at *;replace o:=fN6 o a;replace d:=bS6 d a;replace m:=bF6 m a;replace g:=bF6 g a;replace t:=mS6 t a;clear a;generalize a:(a7.drew)=w4 at *;replace o:=fD o a;replace d:=bD d a;replace m:=bD m a;replace g:=bD g a;replace t:=mD t a;clear a;have nc:=kc1 m;refine callA 7 rfl fun K y=>?_;go_simp;refine y.out _ _ ?_ (fun a4=>?_);· exact Far.setCell (p:=⟨w.heap.size+1,0,none⟩) a3 (.inr (.inl rfl)) _
  clear y K;clear nc;generalize a:(w4.setCell ⟨(w.heap.size+1),0,none⟩ (.int .i64 (j:Int)))=w5 at *;replace o:=fN1 o a;replace d:=bF1 d a;replace m:=s1_0 m a;replace g:=bF1 g a;replace t:=mS1 t a;clear a;have fc:=kc3 g;refine callA 8 rfl fun K y=>?_;go_simp;refine y.out _ _ ?_ (fun a9=>?_);· exact Far.setCell (p:=⟨w.heap.size+1+1,2,none⟩) (Far.setCell (p:=⟨w.heap.size+1+1,1,none⟩) (Far.setCell (p:=⟨w.heap.size+1+1,0,none⟩) a4 (.inr (.inr rfl)) _) (.inr (.inr rfl)) _) (.inr (.inr rfl)) _
  clear y K;refine wpAnyH_done (by kernel_rfl) ?_ _;clear fc;generalize a:(((w5.setCell ⟨(w.heap.size+1+1),0,none⟩ (.int .i64 0)).setCell ⟨(w.heap.size+1+1),1,none⟩ (.int .i64 0)).setCell ⟨(w.heap.size+1+1),2,none⟩ (.int .i64 0))=w6 at *;replace o:=fN3 o a;replace d:=bF3 d a;replace m:=bF3 m a;replace g:=bS3 g a;replace t:=mS3 t a;clear a
  show Exit.then _ _ Exit.normal _ _
  go_wp2_with (fail)
  refine leaves_cons (f:=127) (args:=#[.pointer (some ⟨w.heap.size,0,none⟩),.pointer (some ⟨w.heap.size+1,0,none⟩),.pointer (some ⟨w.heap.size+1+1,0,none⟩)]) (by simp) (by simp [go_sem]) ?_;refine (caught_none _).mono ?_;rintro e u w9 ⟨rfl,rfl,rfl⟩;have O:=d.out.cell (j:=0) rfl;have P:=d.out.cell (j:=1) rfl;have Q:=d.out.cell (j:=2) rfl;have R:=d.out.cell (j:=3) rfl;have T:=d.out.cell (j:=4) rfl;have U:=d.out.cell (j:=5) rfl;have V:=m.out.cell (j:=0) rfl;have W:=g.out.cell (j:=0) rfl;have X:=g.out.cell (j:=1) rfl;have Y:=g.out.cell (j:=2) rfl;refine ⟨.tuple #[exV x Z mx cx,.int .i64 (j:Int),.agg #[.int .i64 0,.int .i64 0,.int .i64 0]],?_,Z,mx,cx,rfl,?_,memNw t.out (by omega)⟩
  · (clear o d m g E t H;simp [results,Tryz.results93,go_sem,exV,O,P,Q,R,T,U,V,W,X,Y])
  · exact Far.toB (Far.mono o.out (fun b e=>by rcases e with e | e <;> omega)) (Nat.le_refl _)
theorem run_pat_pos {F:Nat} {k:Nat} {r:Rd1} (w:World) (h:MemW w (.s 5 (tkRows ts)) (.slice aL n cap)) (hn:n≤1048576) (hr:readE ts F .pat k 0=some r):
  Calls Tryz.prog 93 #[.slice aL n cap,.int .i64 (k:Int),.func (.func 94) #[] #[]] w (RunAns r w):=by
 have H:=zz h
 have hE:∀ args w,Sem.run Tryz.prog (callFunc 94 args) w=.ok (.enter 94 args) w:=fun _ _=>by kernel_rfl
 clear h
 go_enter_defers Tryz.func93,Tryz.ntmps93
 go_wp2_with (fail)
 have a5:((((w.alloc (.cells #[.int .i64 0,.string ⟨#[]⟩,.int .i64 0,.slice none 0 0,.int .i64 0,.int .i64 0] 60)).alloc (.cells #[.int .i64 0] 3)).alloc (.cells #[.int .i64 0,.int .i64 0,.int .i64 0] 31)).alloc (.cells #[.slice aL n cap,.int .i64 (k:Int),.int .i64 0] 162)).heap.size=w.heap.size+1+1+1+1:=by simp only [World.size_alloc]
 have d:Hid (Bo ((((w.alloc (.cells #[.int .i64 0,.string ⟨#[]⟩,.int .i64 0,.slice none 0 0,.int .i64 0,.int .i64 0] 60)).alloc (.cells #[.int .i64 0] 3)).alloc (.cells #[.int .i64 0,.int .i64 0,.int .i64 0] 31)).alloc (.cells #[.slice aL n cap,.int .i64 (k:Int),.int .i64 0] 162)) w.heap.size 60 #[.int .i64 0,.string ⟨#[]⟩,.int .i64 0,.slice none 0 0,.int .i64 0,.int .i64 0]):=zz ((((Bo.new w 60 #[.int .i64 0,.string ⟨#[]⟩,.int .i64 0,.slice none 0 0,.int .i64 0,.int .i64 0]).alloc _).alloc _).alloc _)
 have i:Hid (Bo ((((w.alloc (.cells #[.int .i64 0,.string ⟨#[]⟩,.int .i64 0,.slice none 0 0,.int .i64 0,.int .i64 0] 60)).alloc (.cells #[.int .i64 0] 3)).alloc (.cells #[.int .i64 0,.int .i64 0,.int .i64 0] 31)).alloc (.cells #[.slice aL n cap,.int .i64 (k:Int),.int .i64 0] 162)) (w.heap.size+1) 3 #[.int .i64 0]):=zz ((((by have h:=Bo.new (w.alloc (.cells #[.int .i64 0,.string ⟨#[]⟩,.int .i64 0,.slice none 0 0,.int .i64 0,.int .i64 0] 60)) 3 #[.int .i64 0];rw [World.size_alloc] at h;exact h:Bo ((w.alloc (.cells #[.int .i64 0,.string ⟨#[]⟩,.int .i64 0,.slice none 0 0,.int .i64 0,.int .i64 0] 60)).alloc (.cells #[.int .i64 0] 3)) (w.heap.size+1) 3 #[.int .i64 0])).alloc _).alloc _)
 have g:Hid (Bo ((((w.alloc (.cells #[.int .i64 0,.string ⟨#[]⟩,.int .i64 0,.slice none 0 0,.int .i64 0,.int .i64 0] 60)).alloc (.cells #[.int .i64 0] 3)).alloc (.cells #[.int .i64 0,.int .i64 0,.int .i64 0] 31)).alloc (.cells #[.slice aL n cap,.int .i64 (k:Int),.int .i64 0] 162)) (w.heap.size+1+1) 31 #[.int .i64 0,.int .i64 0,.int .i64 0]):=zz (((by have h:=Bo.new ((w.alloc (.cells #[.int .i64 0,.string ⟨#[]⟩,.int .i64 0,.slice none 0 0,.int .i64 0,.int .i64 0] 60)).alloc (.cells #[.int .i64 0] 3)) 31 #[.int .i64 0,.int .i64 0,.int .i64 0];rw [World.size_alloc,World.size_alloc] at h;exact h:Bo (((w.alloc (.cells #[.int .i64 0,.string ⟨#[]⟩,.int .i64 0,.slice none 0 0,.int .i64 0,.int .i64 0] 60)).alloc (.cells #[.int .i64 0] 3)).alloc (.cells #[.int .i64 0,.int .i64 0,.int .i64 0] 31)) (w.heap.size+1+1) 31 #[.int .i64 0,.int .i64 0,.int .i64 0])).alloc _)
 have L:Bo ((((w.alloc (.cells #[.int .i64 0,.string ⟨#[]⟩,.int .i64 0,.slice none 0 0,.int .i64 0,.int .i64 0] 60)).alloc (.cells #[.int .i64 0] 3)).alloc (.cells #[.int .i64 0,.int .i64 0,.int .i64 0] 31)).alloc (.cells #[.slice aL n cap,.int .i64 (k:Int),.int .i64 0] 162)) (w.heap.size+1+1+1) 162 #[.slice aL n cap,.int .i64 (k:Int),.int .i64 0]:=by have h:=Bo.new (((w.alloc (.cells #[.int .i64 0,.string ⟨#[]⟩,.int .i64 0,.slice none 0 0,.int .i64 0,.int .i64 0] 60)).alloc (.cells #[.int .i64 0] 3)).alloc (.cells #[.int .i64 0,.int .i64 0,.int .i64 0] 31)) 162 #[.slice aL n cap,.int .i64 (k:Int),.int .i64 0];rw [World.size_alloc,World.size_alloc,World.size_alloc] at h;exact h
 have J:Below w.heap.size w ((((w.alloc (.cells #[.int .i64 0,.string ⟨#[]⟩,.int .i64 0,.slice none 0 0,.int .i64 0,.int .i64 0] 60)).alloc (.cells #[.int .i64 0] 3)).alloc (.cells #[.int .i64 0,.int .i64 0,.int .i64 0] 31)).alloc (.cells #[.slice aL n cap,.int .i64 (k:Int),.int .i64 0] 162)):=(((below_new w _).alloc (by simp) _).alloc (by simp only [World.size_alloc];omega) _).alloc (by simp only [World.size_alloc];omega) _;generalize ((((w.alloc (.cells #[.int .i64 0,.string ⟨#[]⟩,.int .i64 0,.slice none 0 0,.int .i64 0,.int .i64 0] 60)).alloc (.cells #[.int .i64 0] 3)).alloc (.cells #[.int .i64 0,.int .i64 0,.int .i64 0] 31)).alloc (.cells #[.slice aL n cap,.int .i64 (k:Int),.int .i64 0] 162))=G at *;have a1:Mem (· <w.heap.size+1+1+1) G (.s 5 (tkRows ts)) (.slice aL n cap):=(Mem.keep H.out (Nat.le_refl _) J).le (by omega);generalize hq:w.heap.size+1+1+1=q at *;have C:Hid (PS ts aL n cap q k ((0:Nat):Int) G):=zz ⟨L,a1,hn⟩;have m:Hid (FarB q w.heap.size w G):=zz (Far.of J)
 have aa:w.heap.size+1+1<q:=by omega
 have a6:G.heap.size=q+1:=by omega
 clear hq a5 L a1 J
 cases r with
 | bad l_ c_=>
  refine (pat1_any hr _ C.out).mono ?_;rintro _ w2 ⟨rfl,y,L⟩;replace d:=qB d y;replace i:=qB i y;replace g:=qB g y;replace m:=qF m y
  go_wp2_with (fail)
  refine leaves_cons (f:=127) (args:=#[.pointer (some ⟨w.heap.size,0,none⟩),.pointer (some ⟨w.heap.size+1,0,none⟩),.pointer (some ⟨w.heap.size+1+1,0,none⟩)]) (by simp) (by simp [go_sem]) ?_;refine (caught_fault w2 l_ c_ (by omega) (by omega) d.out i.out g.out).mono ?_;rintro e u M ⟨rfl,hu,a0,B,g1,E⟩
  show Leaves _ _ _ _ [] (settle u) M
  rw [hu];have N:=B.cell (j:=0) rfl;have O:=B.cell (j:=1) rfl;have P:=B.cell (j:=2) rfl;have Q:=B.cell (j:=3) rfl;have R:=B.cell (j:=4) rfl;have T:=B.cell (j:=5) rfl;have U:=g1.cell (j:=0) rfl;have V:=E.cell (j:=0) rfl;have W:=E.cell (j:=1) rfl;have X:=E.cell (j:=2) rfl;refine ⟨_,?_,rfl,?_⟩
  · (clear m d i g H B g1 E a0;simp [results,Tryz.results93,go_sem,N,O,P,Q,R,T,U,V,W,X])
  · exact Far.toB (Far.trans (Far.mono m.out (fun b e=>by rcases e with e | e <;> omega)) (Far.mono a0 (fun b e=>by rcases e with e | e | e <;> omega))) (Nat.le_refl _)
 | ok x j=>
  refine (pat1_any hr _ C.out).mono ?_;rintro _ w2 ⟨Y,mx,Z,rfl,y,hp,hm⟩;replace d:=qB d y;replace i:=qB i y;replace g:=qB g y;replace m:=qF m y;have a6:=y.size;replace C:=zz hp;have o:=zz hm;clear y hp hm;simp only [exV];have D:=zz C.out.bo;clear C;have I:=kc6 d
  go_wp2_with (fail)
  clear I;generalize a:World.setCell _ ⟨w.heap.size,5,none⟩ _=M at *;have ab:=sizeS6 a;replace m:=fN6 m a;replace d:=bS6 d a;replace i:=bF6 i a;replace g:=bF6 g a;replace D:=bF6 D a;replace o:=mS6 o a;clear a;have I:=kc6 d;have z:=kc3 D;refine wp_nopanic ?_;refine wp_region_held_drew (S:=fun w'=>Far (fun b=>b=w.heap.size∨b=w.heap.size+1∨b=w.heap.size+1+1) (M) w') (by kernel_rfl) (Far.of (below_drew _)) (fun a2=>?_);refine takeA 1 (v:=?_) rfl ?_ ?_;rotate_left
  · (intro w A;replace z:=Far.c3z z A (by intro e;rcases e with e | e | e <;> omega);go_simp;try rfl)
  (try simp only [pu]);refine takeA 2 (v:=?_) rfl ?_ ?_;rotate_left
  · (intro w A;replace z:=Far.c3z z A (by intro e;rcases e with e | e | e <;> omega);go_simp;try rfl)
  (try simp only [pu]);refine takeA 3 (v:=?_) rfl ?_ ?_;rotate_left
  · (intro w A;replace z:=Far.c3z z A (by intro e;rcases e with e | e | e <;> omega);go_simp;try rfl)
  (try simp only [pu]);refine takeA 4 (v:=?_) rfl ?_ ?_;rotate_left
  · (intro w A;replace z:=Far.c3z z A (by intro e;rcases e with e | e | e <;> omega);go_simp;try rfl)
  (try simp only [pu]);refine takeA 5 (v:=?_) rfl ?_ ?_;rotate_left
  · (intro w A;replace z:=Far.c3z z A (by intro e;rcases e with e | e | e <;> omega);go_simp;try rfl)
  (try simp only [pu]);refine callA 0 rfl fun K t=>?_;go_simp;refine t.out _ _ ?_ (fun a8=>?_);· exact a2
  clear t K;refine callA 6 rfl fun K t=>?_;go_simp;refine t.out _ _ ?_ (fun a3=>?_);· exact (by refine Far.trans ?_ (Far.of (below_drew _));(iterate 6 (refine Far.setCell (p:=⟨w.heap.size,_,none⟩) ?_ (.inl rfl) _));exact Far.refl _ _)
  clear t K;clear I z;generalize a:World.setCell _ ⟨w.heap.size,5,none⟩ _=a7 at *;replace m:=fN6 m a;replace d:=bS6 d a;replace i:=bF6 i a;replace g:=bF6 g a;replace o:=mS6 o a;clear a;generalize a:(a7.drew)=w4 at *;replace m:=fD m a;replace d:=bD d a;replace i:=bD i a;replace g:=bD g a;replace o:=mD o a;clear a;have nc:=kc1 i;refine callA 7 rfl fun K t=>?_;go_simp;refine t.out _ _ ?_ (fun a4=>?_);· exact Far.setCell (p:=⟨w.heap.size+1,0,none⟩) a3 (.inr (.inl rfl)) _
  clear t K;clear nc;generalize a:(w4.setCell ⟨(w.heap.size+1),0,none⟩ (.int .i64 (j:Int)))=w5 at *;replace m:=fN1 m a;replace d:=bF1 d a;replace i:=s1_0 i a;replace g:=bF1 g a;replace o:=mS1 o a;clear a;have fc:=kc3 g;refine callA 8 rfl fun K t=>?_;go_simp;refine t.out _ _ ?_ (fun a9=>?_);· exact Far.setCell (p:=⟨w.heap.size+1+1,2,none⟩) (Far.setCell (p:=⟨w.heap.size+1+1,1,none⟩) (Far.setCell (p:=⟨w.heap.size+1+1,0,none⟩) a4 (.inr (.inr rfl)) _) (.inr (.inr rfl)) _) (.inr (.inr rfl)) _
  clear t K;refine wpAnyH_done (by kernel_rfl) ?_ _;clear fc;generalize a:(((w5.setCell ⟨(w.heap.size+1+1),0,none⟩ (.int .i64 0)).setCell ⟨(w.heap.size+1+1),1,none⟩ (.int .i64 0)).setCell ⟨(w.heap.size+1+1),2,none⟩ (.int .i64 0))=w6 at *;replace m:=fN3 m a;replace d:=bF3 d a;replace i:=bF3 i a;replace g:=bS3 g a;replace o:=mS3 o a;clear a
  show Exit.then _ _ Exit.normal _ _
  go_wp2_with (fail)
  refine leaves_cons (f:=127) (args:=#[.pointer (some ⟨w.heap.size,0,none⟩),.pointer (some ⟨w.heap.size+1,0,none⟩),.pointer (some ⟨w.heap.size+1+1,0,none⟩)]) (by simp) (by simp [go_sem]) ?_;refine (caught_none _).mono ?_;rintro e u w9 ⟨rfl,rfl,rfl⟩;have N:=d.out.cell (j:=0) rfl;have O:=d.out.cell (j:=1) rfl;have P:=d.out.cell (j:=2) rfl;have Q:=d.out.cell (j:=3) rfl;have R:=d.out.cell (j:=4) rfl;have T:=d.out.cell (j:=5) rfl;have U:=i.out.cell (j:=0) rfl;have V:=g.out.cell (j:=0) rfl;have W:=g.out.cell (j:=1) rfl;have X:=g.out.cell (j:=2) rfl;refine ⟨.tuple #[exV x Y mx Z,.int .i64 (j:Int),.agg #[.int .i64 0,.int .i64 0,.int .i64 0]],?_,Y,mx,Z,rfl,?_,memNw o.out (by omega)⟩
  · (clear m d i g D o H;simp [results,Tryz.results93,go_sem,exV,N,O,P,Q,R,T,U,V,W,X])
  · exact Far.toB (Far.mono m.out (fun b e=>by rcases e with e | e <;> omega)) (Nat.le_refl _)
theorem rpat_any {F:Nat} {i:Int} {r:Rd1} (w:World) (h:MemW w (.s 5 (tkRows ts)) (.slice aL n cap)) (b:n≤1048576) (a:readE ts F .pat i.toNat 0=some r):
  Calls Tryz.prog 93 #[.slice aL n cap,.int .i64 i,.func (.func 94) #[] #[]] w (RunAns r w):=by
 by_cases d:i<0
 · (rw [Int.toNat_of_nonpos (by omega)] at a;exact run_pat_neg d w h b a)
 · (obtain ⟨k,rfl⟩:=Int.eq_ofNat_of_zero_le (show 0≤i by omega);exact run_pat_pos w h b a)
theorem pat_any {F:Nat} {i:Int} {r:Rd1} (w:World) (h:MemW w (.s 5 (tkRows ts)) (.slice aL n cap)) (P:n≤1048576) (Q:readE ts F .pat i.toNat 0=some r):
  Calls Tryz.prog 58 #[.slice aL n cap,.int .i64 i] w (RunAns r w):=by
 have H:=zz h;clear h;go_enter Tryz.func58,Tryz.ntmps58
 go_wp2_with (fail)
 have T:((w.alloc (.cells #[.int .i64 0,.string ⟨#[]⟩,.int .i64 0,.slice none 0 0,.int .i64 0,.int .i64 0] 60)).alloc (.cells #[.int .i64 0,.int .i64 0,.int .i64 0] 31)).heap.size=w.heap.size+1+1:=by simp only [World.size_alloc]
 have d:Hid (Bo ((w.alloc (.cells #[.int .i64 0,.string ⟨#[]⟩,.int .i64 0,.slice none 0 0,.int .i64 0,.int .i64 0] 60)).alloc (.cells #[.int .i64 0,.int .i64 0,.int .i64 0] 31)) w.heap.size 60 #[.int .i64 0,.string ⟨#[]⟩,.int .i64 0,.slice none 0 0,.int .i64 0,.int .i64 0]):=zz ((Bo.new w 60 #[.int .i64 0,.string ⟨#[]⟩,.int .i64 0,.slice none 0 0,.int .i64 0,.int .i64 0]).alloc _)
 have e:Hid (Bo ((w.alloc (.cells #[.int .i64 0,.string ⟨#[]⟩,.int .i64 0,.slice none 0 0,.int .i64 0,.int .i64 0] 60)).alloc (.cells #[.int .i64 0,.int .i64 0,.int .i64 0] 31)) (w.heap.size+1) 31 #[.int .i64 0,.int .i64 0,.int .i64 0]):=zz (by have h:=Bo.new (w.alloc (.cells #[.int .i64 0,.string ⟨#[]⟩,.int .i64 0,.slice none 0 0,.int .i64 0,.int .i64 0] 60)) 31 #[.int .i64 0,.int .i64 0,.int .i64 0];rw [World.size_alloc] at h;exact h)
 have C:Below w.heap.size w ((w.alloc (.cells #[.int .i64 0,.string ⟨#[]⟩,.int .i64 0,.slice none 0 0,.int .i64 0,.int .i64 0] 60)).alloc (.cells #[.int .i64 0,.int .i64 0,.int .i64 0] 31)):=((below_new w _).alloc (by simp) _);have z:=zz (H.out.keep C);have y:=zz C;clear C;generalize ((w.alloc (.cells #[.int .i64 0,.string ⟨#[]⟩,.int .i64 0,.slice none 0 0,.int .i64 0,.int .i64 0] 60)).alloc (.cells #[.int .i64 0,.int .i64 0,.int .i64 0] 31))=R at *;refine (rpat_any R z.out P Q).mono ?_
 cases r with
 | bad l_ c_=>
  rintro _ u ⟨rfl,t⟩;replace d:=kB d t;replace e:=kB e t;have f:Hid (Far (fun b=>w.heap.size≤b) w u):=zz (Far.of (y.out.trans (t.mono (by omega))));clear t;have A:=kc6 d;have B:=kc3 e
  go_wp2_with (fail)
  clear A B;replace d:=zz (d.out.set 0 (.int .i64 0));replace e:=zz (e.out.far 0 (.int .i64 0) (g:=w.heap.size) (by omega));replace f:=zz (f.out.setCell (p:=⟨w.heap.size,0,none⟩) (Nat.le_refl w.heap.size) (.int .i64 0));replace d:=zz (d.out.set 1 (.string ⟨#[]⟩));replace e:=zz (e.out.far 1 (.string ⟨#[]⟩) (g:=w.heap.size) (by omega));replace f:=zz (f.out.setCell (p:=⟨w.heap.size,1,none⟩) (Nat.le_refl w.heap.size) (.string ⟨#[]⟩));replace d:=zz (d.out.set 2 (.int .i64 0));replace e:=zz (e.out.far 2 (.int .i64 0) (g:=w.heap.size) (by omega));replace f:=zz (f.out.setCell (p:=⟨w.heap.size,2,none⟩) (Nat.le_refl w.heap.size) (.int .i64 0));replace d:=zz (d.out.set 3 (.slice none 0 0));replace e:=zz (e.out.far 3 (.slice none 0 0) (g:=w.heap.size) (by omega));replace f:=zz (f.out.setCell (p:=⟨w.heap.size,3,none⟩) (Nat.le_refl w.heap.size) (.slice none 0 0));replace d:=zz (d.out.set 4 (.int .i64 0));replace e:=zz (e.out.far 4 (.int .i64 0) (g:=w.heap.size) (by omega));replace f:=zz (f.out.setCell (p:=⟨w.heap.size,4,none⟩) (Nat.le_refl w.heap.size) (.int .i64 0));replace d:=zz (d.out.set 5 (.int .i64 0));replace e:=zz (e.out.far 5 (.int .i64 0) (g:=w.heap.size) (by omega));replace f:=zz (f.out.setCell (p:=⟨w.heap.size,5,none⟩) (Nat.le_refl w.heap.size) (.int .i64 0));replace e:=zz (e.out.set 0 (.int .i64 1));replace d:=zz (d.out.far 0 (.int .i64 1) (g:=(w.heap.size+1)) (by omega));replace f:=zz (f.out.setCell (p:=⟨(w.heap.size+1),0,none⟩) (Nat.le_succ w.heap.size) (.int .i64 1));replace e:=zz (e.out.set 1 (.int .i64 l_));replace d:=zz (d.out.far 1 (.int .i64 l_) (g:=(w.heap.size+1)) (by omega));replace f:=zz (f.out.setCell (p:=⟨(w.heap.size+1),1,none⟩) (Nat.le_succ w.heap.size) (.int .i64 l_));replace e:=zz (e.out.set 2 (.int .i64 c_));replace d:=zz (d.out.far 2 (.int .i64 c_) (g:=(w.heap.size+1)) (by omega));replace f:=zz (f.out.setCell (p:=⟨(w.heap.size+1),2,none⟩) (Nat.le_succ w.heap.size) (.int .i64 c_));replace d:Hid (Bo (((((((((u.setCell ⟨w.heap.size,0,none⟩ (.int .i64 0)).setCell ⟨w.heap.size,1,none⟩ (.string ⟨#[]⟩)).setCell ⟨w.heap.size,2,none⟩ (.int .i64 0)).setCell ⟨w.heap.size,3,none⟩ (.slice none 0 0)).setCell ⟨w.heap.size,4,none⟩ (.int .i64 0)).setCell ⟨w.heap.size,5,none⟩ (.int .i64 0)).setCell ⟨(w.heap.size+1),0,none⟩ (.int .i64 1)).setCell ⟨(w.heap.size+1),1,none⟩ (.int .i64 l_)).setCell ⟨(w.heap.size+1),2,none⟩ (.int .i64 c_)) w.heap.size 60 #[.int .i64 0,.string ⟨#[]⟩,.int .i64 0,.slice none 0 0,.int .i64 0,.int .i64 0]):=d;replace e:Hid (Bo (((((((((u.setCell ⟨w.heap.size,0,none⟩ (.int .i64 0)).setCell ⟨w.heap.size,1,none⟩ (.string ⟨#[]⟩)).setCell ⟨w.heap.size,2,none⟩ (.int .i64 0)).setCell ⟨w.heap.size,3,none⟩ (.slice none 0 0)).setCell ⟨w.heap.size,4,none⟩ (.int .i64 0)).setCell ⟨w.heap.size,5,none⟩ (.int .i64 0)).setCell ⟨(w.heap.size+1),0,none⟩ (.int .i64 1)).setCell ⟨(w.heap.size+1),1,none⟩ (.int .i64 l_)).setCell ⟨(w.heap.size+1),2,none⟩ (.int .i64 c_)) (w.heap.size+1) 31 #[.int .i64 1,.int .i64 l_,.int .i64 c_]):=e;generalize (((((((((u.setCell ⟨w.heap.size,0,none⟩ (.int .i64 0)).setCell ⟨w.heap.size,1,none⟩ (.string ⟨#[]⟩)).setCell ⟨w.heap.size,2,none⟩ (.int .i64 0)).setCell ⟨w.heap.size,3,none⟩ (.slice none 0 0)).setCell ⟨w.heap.size,4,none⟩ (.int .i64 0)).setCell ⟨w.heap.size,5,none⟩ (.int .i64 0)).setCell ⟨(w.heap.size+1),0,none⟩ (.int .i64 1)).setCell ⟨(w.heap.size+1),1,none⟩ (.int .i64 l_)).setCell ⟨(w.heap.size+1),2,none⟩ (.int .i64 c_))=S at *;have D:=d.out.cell (j:=0) rfl;have E:=d.out.cell (j:=1) rfl;have G:=d.out.cell (j:=2) rfl;have I:=d.out.cell (j:=3) rfl;have J:=d.out.cell (j:=4) rfl;have K:=d.out.cell (j:=5) rfl;have L:=e.out.cell (j:=0) rfl;have M:=e.out.cell (j:=1) rfl;have N:=e.out.cell (j:=2) rfl;refine bodyPost_ret (v:=.tuple #[.agg #[.int .i64 0,.string ⟨#[]⟩,.int .i64 0,.slice none 0 0,.int .i64 0,.int .i64 0],.int .i64 0,.agg #[.int .i64 1,.int .i64 l_,.int .i64 c_]]) (by clear f d e H z y;simp [results,Tryz.results58,go_sem,D,E,G,I,J,K,L,M,N]) rfl ?_
  exact ⟨rfl,Far.toB f.out (Nat.le_refl _)⟩
 | ok x j=>
  rintro _ u ⟨a,m,c,rfl,t,O⟩;replace d:=kB d t;replace e:=kB e t;have f:Hid (Far (fun b=>w.heap.size≤b) w u):=zz (Far.of (y.out.trans (t.mono (by omega))));clear t;have o:=zz O;clear O;simp only [exV];have A:=kc6 d;have B:=kc3 e
  go_wp2_with (fail)
  clear A B;replace d:=zz (d.out.set 0 (.int .i64 x.kind));replace e:=zz (e.out.far 0 (.int .i64 x.kind) (g:=w.heap.size) (by omega));replace f:=zz (f.out.setCell (p:=⟨w.heap.size,0,none⟩) (Nat.le_refl w.heap.size) (.int .i64 x.kind));replace o:=zz (memSet o.out (g:=w.heap.size) (by omega) 0 (.int .i64 x.kind));replace d:=zz (d.out.set 1 (.string x.name));replace e:=zz (e.out.far 1 (.string x.name) (g:=w.heap.size) (by omega));replace f:=zz (f.out.setCell (p:=⟨w.heap.size,1,none⟩) (Nat.le_refl w.heap.size) (.string x.name));replace o:=zz (memSet o.out (g:=w.heap.size) (by omega) 1 (.string x.name));replace d:=zz (d.out.set 2 (.int .i64 x.n));replace e:=zz (e.out.far 2 (.int .i64 x.n) (g:=w.heap.size) (by omega));replace f:=zz (f.out.setCell (p:=⟨w.heap.size,2,none⟩) (Nat.le_refl w.heap.size) (.int .i64 x.n));replace o:=zz (memSet o.out (g:=w.heap.size) (by omega) 2 (.int .i64 x.n));replace d:=zz (d.out.set 3 (.slice a m c));replace e:=zz (e.out.far 3 (.slice a m c) (g:=w.heap.size) (by omega));replace f:=zz (f.out.setCell (p:=⟨w.heap.size,3,none⟩) (Nat.le_refl w.heap.size) (.slice a m c));replace o:=zz (memSet o.out (g:=w.heap.size) (by omega) 3 (.slice a m c));replace d:=zz (d.out.set 4 (.int .i64 x.line));replace e:=zz (e.out.far 4 (.int .i64 x.line) (g:=w.heap.size) (by omega));replace f:=zz (f.out.setCell (p:=⟨w.heap.size,4,none⟩) (Nat.le_refl w.heap.size) (.int .i64 x.line));replace o:=zz (memSet o.out (g:=w.heap.size) (by omega) 4 (.int .i64 x.line));replace d:=zz (d.out.set 5 (.int .i64 x.col));replace e:=zz (e.out.far 5 (.int .i64 x.col) (g:=w.heap.size) (by omega));replace f:=zz (f.out.setCell (p:=⟨w.heap.size,5,none⟩) (Nat.le_refl w.heap.size) (.int .i64 x.col));replace o:=zz (memSet o.out (g:=w.heap.size) (by omega) 5 (.int .i64 x.col));replace e:=zz (e.out.set 0 (.int .i64 0));replace d:=zz (d.out.far 0 (.int .i64 0) (g:=(w.heap.size+1)) (by omega));replace f:=zz (f.out.setCell (p:=⟨(w.heap.size+1),0,none⟩) (Nat.le_succ w.heap.size) (.int .i64 0));replace o:=zz (memSet o.out (g:=(w.heap.size+1)) (by omega) 0 (.int .i64 0));replace e:=zz (e.out.set 1 (.int .i64 0));replace d:=zz (d.out.far 1 (.int .i64 0) (g:=(w.heap.size+1)) (by omega));replace f:=zz (f.out.setCell (p:=⟨(w.heap.size+1),1,none⟩) (Nat.le_succ w.heap.size) (.int .i64 0));replace o:=zz (memSet o.out (g:=(w.heap.size+1)) (by omega) 1 (.int .i64 0));replace e:=zz (e.out.set 2 (.int .i64 0));replace d:=zz (d.out.far 2 (.int .i64 0) (g:=(w.heap.size+1)) (by omega));replace f:=zz (f.out.setCell (p:=⟨(w.heap.size+1),2,none⟩) (Nat.le_succ w.heap.size) (.int .i64 0));replace o:=zz (memSet o.out (g:=(w.heap.size+1)) (by omega) 2 (.int .i64 0));replace d:Hid (Bo (((((((((u.setCell ⟨w.heap.size,0,none⟩ (.int .i64 x.kind)).setCell ⟨w.heap.size,1,none⟩ (.string x.name)).setCell ⟨w.heap.size,2,none⟩ (.int .i64 x.n)).setCell ⟨w.heap.size,3,none⟩ (.slice a m c)).setCell ⟨w.heap.size,4,none⟩ (.int .i64 x.line)).setCell ⟨w.heap.size,5,none⟩ (.int .i64 x.col)).setCell ⟨(w.heap.size+1),0,none⟩ (.int .i64 0)).setCell ⟨(w.heap.size+1),1,none⟩ (.int .i64 0)).setCell ⟨(w.heap.size+1),2,none⟩ (.int .i64 0)) w.heap.size 60 #[.int .i64 x.kind,.string x.name,.int .i64 x.n,.slice a m c,.int .i64 x.line,.int .i64 x.col]):=d;replace e:Hid (Bo (((((((((u.setCell ⟨w.heap.size,0,none⟩ (.int .i64 x.kind)).setCell ⟨w.heap.size,1,none⟩ (.string x.name)).setCell ⟨w.heap.size,2,none⟩ (.int .i64 x.n)).setCell ⟨w.heap.size,3,none⟩ (.slice a m c)).setCell ⟨w.heap.size,4,none⟩ (.int .i64 x.line)).setCell ⟨w.heap.size,5,none⟩ (.int .i64 x.col)).setCell ⟨(w.heap.size+1),0,none⟩ (.int .i64 0)).setCell ⟨(w.heap.size+1),1,none⟩ (.int .i64 0)).setCell ⟨(w.heap.size+1),2,none⟩ (.int .i64 0)) (w.heap.size+1) 31 #[.int .i64 0,.int .i64 0,.int .i64 0]):=e;generalize (((((((((u.setCell ⟨w.heap.size,0,none⟩ (.int .i64 x.kind)).setCell ⟨w.heap.size,1,none⟩ (.string x.name)).setCell ⟨w.heap.size,2,none⟩ (.int .i64 x.n)).setCell ⟨w.heap.size,3,none⟩ (.slice a m c)).setCell ⟨w.heap.size,4,none⟩ (.int .i64 x.line)).setCell ⟨w.heap.size,5,none⟩ (.int .i64 x.col)).setCell ⟨(w.heap.size+1),0,none⟩ (.int .i64 0)).setCell ⟨(w.heap.size+1),1,none⟩ (.int .i64 0)).setCell ⟨(w.heap.size+1),2,none⟩ (.int .i64 0))=S at *
  have D:=d.out.cell (j:=0) rfl;have E:=d.out.cell (j:=1) rfl;have G:=d.out.cell (j:=2) rfl;have I:=d.out.cell (j:=3) rfl;have J:=d.out.cell (j:=4) rfl;have K:=d.out.cell (j:=5) rfl;have L:=e.out.cell (j:=0) rfl;have M:=e.out.cell (j:=1) rfl;have N:=e.out.cell (j:=2) rfl;refine bodyPost_ret (v:=.tuple #[.agg #[.int .i64 x.kind,.string x.name,.int .i64 x.n,.slice a m c,.int .i64 x.line,.int .i64 x.col],.int .i64 (j:Int),.agg #[.int .i64 0,.int .i64 0,.int .i64 0]]) (by clear f d e H z y o;simp [results,Tryz.results58,go_sem,D,E,G,I,J,K,L,M,N]) rfl ?_;exact ⟨_,_,_,rfl,Far.toB f.out (Nat.le_refl _),memNw o.out (by omega)⟩
end
end
section
open Go.RowKit
set_option maxRecDepth 100000
section
variable {w w' a:World} {q g j B:Nat} {t:TypeId}
theorem Bo.set11 {J I H G E D z y v u r:Value} {b d f i m o p s x C F:Value} (h:Bo w q t #[J,I,H,G,E,D,z,y,v,u,r]) (e:(((((((((((w.setCell ⟨q,0,none⟩ b).setCell ⟨q,1,none⟩ d).setCell ⟨q,2,none⟩ f).setCell ⟨q,3,none⟩ i).setCell ⟨q,4,none⟩ m).setCell ⟨q,5,none⟩ o).setCell ⟨q,6,none⟩ p).setCell ⟨q,7,none⟩ s).setCell ⟨q,8,none⟩ x).setCell ⟨q,9,none⟩ C).setCell ⟨q,10,none⟩ F)=w'):Bo w' q t #[b,d,f,i,m,o,p,s,x,C,F]:=by
  have K:Bo (w.setCell ⟨q,0,none⟩ b) q t #[b,I,H,G,E,D,z,y,v,u,r]:=h.set 0 b;have L:Bo ((w.setCell ⟨q,0,none⟩ b).setCell ⟨q,1,none⟩ d) q t #[b,d,H,G,E,D,z,y,v,u,r]:=K.set 1 d;have N:Bo (((w.setCell ⟨q,0,none⟩ b).setCell ⟨q,1,none⟩ d).setCell ⟨q,2,none⟩ f) q t #[b,d,f,G,E,D,z,y,v,u,r]:=L.set 2 f;have O:Bo ((((w.setCell ⟨q,0,none⟩ b).setCell ⟨q,1,none⟩ d).setCell ⟨q,2,none⟩ f).setCell ⟨q,3,none⟩ i) q t #[b,d,f,i,E,D,z,y,v,u,r]:=N.set 3 i;have P:Bo (((((w.setCell ⟨q,0,none⟩ b).setCell ⟨q,1,none⟩ d).setCell ⟨q,2,none⟩ f).setCell ⟨q,3,none⟩ i).setCell ⟨q,4,none⟩ m) q t #[b,d,f,i,m,D,z,y,v,u,r]:=O.set 4 m;have Q:Bo ((((((w.setCell ⟨q,0,none⟩ b).setCell ⟨q,1,none⟩ d).setCell ⟨q,2,none⟩ f).setCell ⟨q,3,none⟩ i).setCell ⟨q,4,none⟩ m).setCell ⟨q,5,none⟩ o) q t #[b,d,f,i,m,o,z,y,v,u,r]:=P.set 5 o;have R:Bo (((((((w.setCell ⟨q,0,none⟩ b).setCell ⟨q,1,none⟩ d).setCell ⟨q,2,none⟩ f).setCell ⟨q,3,none⟩ i).setCell ⟨q,4,none⟩ m).setCell ⟨q,5,none⟩ o).setCell ⟨q,6,none⟩ p) q t #[b,d,f,i,m,o,p,y,v,u,r]:=Q.set 6 p;have S:Bo ((((((((w.setCell ⟨q,0,none⟩ b).setCell ⟨q,1,none⟩ d).setCell ⟨q,2,none⟩ f).setCell ⟨q,3,none⟩ i).setCell ⟨q,4,none⟩ m).setCell ⟨q,5,none⟩ o).setCell ⟨q,6,none⟩ p).setCell ⟨q,7,none⟩ s) q t #[b,d,f,i,m,o,p,s,v,u,r]:=R.set 7 s;have T:Bo (((((((((w.setCell ⟨q,0,none⟩ b).setCell ⟨q,1,none⟩ d).setCell ⟨q,2,none⟩ f).setCell ⟨q,3,none⟩ i).setCell ⟨q,4,none⟩ m).setCell ⟨q,5,none⟩ o).setCell ⟨q,6,none⟩ p).setCell ⟨q,7,none⟩ s).setCell ⟨q,8,none⟩ x) q t #[b,d,f,i,m,o,p,s,x,u,r]:=S.set 8 x;have U:Bo ((((((((((w.setCell ⟨q,0,none⟩ b).setCell ⟨q,1,none⟩ d).setCell ⟨q,2,none⟩ f).setCell ⟨q,3,none⟩ i).setCell ⟨q,4,none⟩ m).setCell ⟨q,5,none⟩ o).setCell ⟨q,6,none⟩ p).setCell ⟨q,7,none⟩ s).setCell ⟨q,8,none⟩ x).setCell ⟨q,9,none⟩ C) q t #[b,d,f,i,m,o,p,s,x,C,r]:=T.set 9 C;have M:Bo (((((((((((w.setCell ⟨q,0,none⟩ b).setCell ⟨q,1,none⟩ d).setCell ⟨q,2,none⟩ f).setCell ⟨q,3,none⟩ i).setCell ⟨q,4,none⟩ m).setCell ⟨q,5,none⟩ o).setCell ⟨q,6,none⟩ p).setCell ⟨q,7,none⟩ s).setCell ⟨q,8,none⟩ x).setCell ⟨q,9,none⟩ C).setCell ⟨q,10,none⟩ F) q t #[b,d,f,i,m,o,p,s,x,C,F]:=U.set 10 F;rw [←e];exact M
theorem Bo.far11 {d:Array Value} {f i o p r s u v x y m:Value} (h:Bo w q t d) (e:(((((((((((w.setCell ⟨g,0,none⟩ f).setCell ⟨g,1,none⟩ i).setCell ⟨g,2,none⟩ o).setCell ⟨g,3,none⟩ p).setCell ⟨g,4,none⟩ r).setCell ⟨g,5,none⟩ s).setCell ⟨g,6,none⟩ u).setCell ⟨g,7,none⟩ v).setCell ⟨g,8,none⟩ x).setCell ⟨g,9,none⟩ y).setCell ⟨g,10,none⟩ m)=w') (b:q≠g):Bo w' q t d:=e ▸ (((((((((((h.far 0 f b).far 1 i b).far 2 o b).far 3 p b).far 4 r b).far 5 s b).far 6 u b).far 7 v b).far 8 x b).far 9 y b).far 10 m b)
theorem memSet11 {base:Nat} {x:At} {y:Value} {d f m o p r s u v z i:Value} (h:Mem (Nw 0 base w.heap.size) w x y) (e:(((((((((((w.setCell ⟨g,0,none⟩ d).setCell ⟨g,1,none⟩ f).setCell ⟨g,2,none⟩ m).setCell ⟨g,3,none⟩ o).setCell ⟨g,4,none⟩ p).setCell ⟨g,5,none⟩ r).setCell ⟨g,6,none⟩ s).setCell ⟨g,7,none⟩ u).setCell ⟨g,8,none⟩ v).setCell ⟨g,9,none⟩ z).setCell ⟨g,10,none⟩ i)=w') (b:g<base):Mem (Nw 0 base w'.heap.size) w' x y:=e ▸ (memSet (memSet (memSet (memSet (memSet (memSet (memSet (memSet (memSet (memSet (memSet h b 0 d) b 1 f) b 2 m) b 3 o) b 4 p) b 5 r) b 6 s) b 7 u) b 8 v) b 9 z) b 10 i)
theorem FarB.setN11 {d f m o p r s u v x i:Value} (h:FarB q B a w) (e:(((((((((((w.setCell ⟨g,0,none⟩ d).setCell ⟨g,1,none⟩ f).setCell ⟨g,2,none⟩ m).setCell ⟨g,3,none⟩ o).setCell ⟨g,4,none⟩ p).setCell ⟨g,5,none⟩ r).setCell ⟨g,6,none⟩ s).setCell ⟨g,7,none⟩ u).setCell ⟨g,8,none⟩ v).setCell ⟨g,9,none⟩ x).setCell ⟨g,10,none⟩ i)=w') (b:B≤g):FarB q B a w':=e ▸ (((((((((((h.setN b 0 d).setN b 1 f).setN b 2 m).setN b 3 o).setN b 4 p).setN b 5 r).setN b 6 s).setN b 7 u).setN b 8 v).setN b 9 x).setN b 10 i)
theorem sizeS11 {b d h i m o p r s u f:Value} (e:(((((((((((w.setCell ⟨g,0,none⟩ b).setCell ⟨g,1,none⟩ d).setCell ⟨g,2,none⟩ h).setCell ⟨g,3,none⟩ i).setCell ⟨g,4,none⟩ m).setCell ⟨g,5,none⟩ o).setCell ⟨g,6,none⟩ p).setCell ⟨g,7,none⟩ r).setCell ⟨g,8,none⟩ s).setCell ⟨g,9,none⟩ u).setCell ⟨g,10,none⟩ f)=w'):w'.heap.size=w.heap.size:=by rw [←e];simp only [World.setCell,Array.size_modify]
theorem bF11 {b:Array Value} {f i o p r s u v x y m:Value} (h:Hid (Bo w q t b)) (e:(((((((((((w.setCell ⟨g,0,none⟩ f).setCell ⟨g,1,none⟩ i).setCell ⟨g,2,none⟩ o).setCell ⟨g,3,none⟩ p).setCell ⟨g,4,none⟩ r).setCell ⟨g,5,none⟩ s).setCell ⟨g,6,none⟩ u).setCell ⟨g,7,none⟩ v).setCell ⟨g,8,none⟩ x).setCell ⟨g,9,none⟩ y).setCell ⟨g,10,none⟩ m)=w') (d:q≠g:=by omega):Hid (Bo w' q t b):=zz (h.out.far11 e d)
theorem mS11 {base:Nat} {x:At} {y:Value} {d f m o p r s u v z i:Value} (h:Hid (Mem (Nw 0 base w.heap.size) w x y)) (e:(((((((((((w.setCell ⟨g,0,none⟩ d).setCell ⟨g,1,none⟩ f).setCell ⟨g,2,none⟩ m).setCell ⟨g,3,none⟩ o).setCell ⟨g,4,none⟩ p).setCell ⟨g,5,none⟩ r).setCell ⟨g,6,none⟩ s).setCell ⟨g,7,none⟩ u).setCell ⟨g,8,none⟩ v).setCell ⟨g,9,none⟩ z).setCell ⟨g,10,none⟩ i)=w') (b:g<base:=by omega):Hid (Mem (Nw 0 base w'.heap.size) w' x y):=zz (memSet11 h.out e b)
theorem fN11 {d f m o p r s u v x i:Value} (h:Hid (FarB q B a w)) (e:(((((((((((w.setCell ⟨g,0,none⟩ d).setCell ⟨g,1,none⟩ f).setCell ⟨g,2,none⟩ m).setCell ⟨g,3,none⟩ o).setCell ⟨g,4,none⟩ p).setCell ⟨g,5,none⟩ r).setCell ⟨g,6,none⟩ s).setCell ⟨g,7,none⟩ u).setCell ⟨g,8,none⟩ v).setCell ⟨g,9,none⟩ x).setCell ⟨g,10,none⟩ i)=w') (b:B≤g:=by omega):Hid (FarB q B a w'):=zz (h.out.setN11 e b)
theorem bS11 {x y C D E F G H I J z:Value} {b d i m o p r s u v f:Value} (h:Hid (Bo w q t #[x,y,C,D,E,F,G,H,I,J,z])) (e:(((((((((((w.setCell ⟨q,0,none⟩ b).setCell ⟨q,1,none⟩ d).setCell ⟨q,2,none⟩ i).setCell ⟨q,3,none⟩ m).setCell ⟨q,4,none⟩ o).setCell ⟨q,5,none⟩ p).setCell ⟨q,6,none⟩ r).setCell ⟨q,7,none⟩ s).setCell ⟨q,8,none⟩ u).setCell ⟨q,9,none⟩ v).setCell ⟨q,10,none⟩ f)=w'):Hid (Bo w' q t #[b,d,i,m,o,p,r,s,u,v,f]):=zz (h.out.set11 e)
end
section
variable {w w':World} {g:Nat} {A:Nat→Prop}
theorem rpO11 {ts:List Tk} {aL:Option Addr} {n cap q:Nat} {s:MS} {d:Int} {f i o p r u v x y z m:Value} (h:Hid (RS ts aL n cap q s d w)) (e:(((((((((((w.setCell ⟨g,0,none⟩ f).setCell ⟨g,1,none⟩ i).setCell ⟨g,2,none⟩ o).setCell ⟨g,3,none⟩ p).setCell ⟨g,4,none⟩ r).setCell ⟨g,5,none⟩ u).setCell ⟨g,6,none⟩ v).setCell ⟨g,7,none⟩ x).setCell ⟨g,8,none⟩ y).setCell ⟨g,9,none⟩ z).setCell ⟨g,10,none⟩ m)=w') (b:q<g:=by omega):Hid (RS ts aL n cap q s d w'):=zz (e ▸ (((((((((((h.out.off b 0 f).off b 1 i).off b 2 o).off b 3 p).off b 4 r).off b 5 u).off b 6 v).off b 7 x).off b 8 y).off b 9 z).off b 10 m))
theorem yS11 {x:At} {y:Value} {d f m o p r s u v z i:Value} (h:Hid (Mem (NwS A w.heap.size) w x y)) (e:(((((((((((w.setCell ⟨g,0,none⟩ d).setCell ⟨g,1,none⟩ f).setCell ⟨g,2,none⟩ m).setCell ⟨g,3,none⟩ o).setCell ⟨g,4,none⟩ p).setCell ⟨g,5,none⟩ r).setCell ⟨g,6,none⟩ s).setCell ⟨g,7,none⟩ u).setCell ⟨g,8,none⟩ v).setCell ⟨g,9,none⟩ z).setCell ⟨g,10,none⟩ i)=w') (b: ¬A g:=by first | (unfold Av;omega) | (unfold Bt;omega)):Hid (Mem (NwS A w'.heap.size) w' x y):=zz (e ▸ (memS_set (memS_set (memS_set (memS_set (memS_set (memS_set (memS_set (memS_set (memS_set (memS_set (memS_set h.out b 0 d) b 1 f) b 2 m) b 3 o) b 4 p) b 5 r) b 6 s) b 7 u) b 8 v) b 9 z) b 10 i))
end
end
section
open Go.RowKit
section
variable {P:Program} {w:World} {t e:TypeId} {z:Value} {sz bytes:Nat} {o:Oper} {act:Act} {K:Act→World→Prop} {Q:Exit→Act→World→Prop}
theorem wp_append_S (s x:Operand) {A:Nat→Prop} {base:Nat} (D:o.op=.call { callee:=.builtin .append,args:=#[s,x],argTypes:=#[t,t] }) (H:P.underlying t=some (.slice e)) (B:(P.info? e).map (fun i=>(i.zero,i.size,i.bytes))=some (some z,sz,bytes)) (J:z.cells.size=sz) (G:0<sz)
    {y:Value} {rs new:List (List At)} {a:Option Addr} {m c:Nat} (F:act.eval s=y) (I:act.eval x=.slice a m c) (h:OwnS A base e sz w y rs) (C:new≠[]) (q:Mem (fun b=>NwS A w.heap.size b∧y.ownBlock≠some b) w (.s sz new) (.slice a m c)) (v:(rs.length+new.length) * bytes≤140737488355328) (u:rs.length+new.length≤4611686018427387904) (r:base≤w.heap.size)
    (p:∀ d w',OwnS A base e sz w' d (rs++new)→w.grownBy w' y.ownBlock→(d.ownBlock=y.ownBlock∨∀ k,d.ownBlock=some k→w.heap.size≤k)→K (act.put o.dst d) w'):Oper.wp P o act w K Q:=by
  obtain ⟨d,w',E,f,g,j⟩:=run_append_S o.type H B J G h C q v u r;unfold Oper.wp execOp;simp only [D,resolve,invoke,builtin,Sem.run_bind,Sem.run_pure,Result.andThen_ok,List.map_toArray,List.map_cons,List.map_nil,F,I,E];exact p _ _ f g j
end
structure OwnX (x:Option Nat) (base:Nat) (e:TypeId) (sz:Nat) (w:World) (y:Value) (rs:List (List At)):Prop where
  ow:OwnS (fun b=>base≤b∧x≠some b) base e sz w y rs
  ne:∀ k,y.ownBlock=some k→x≠some k
section
variable {x:Option Nat} {base sz:Nat} {e t:TypeId} {w w' W:World} {y:Value} {rs:List (List At)}
theorem OwnX.nil (x:Option Nat) (base:Nat) (e:TypeId) (sz:Nat) (w:World):OwnX x base e sz w (.slice none 0 0) []:=⟨⟨[],World.ownsRow_nil w base e sz,.nil⟩,fun k h=>by cases h⟩
theorem OwnX.lt (h:OwnX x base e sz w y rs):∀ k,y.ownBlock=some k→base≤k∧k<w.heap.size:=h.ow.lt
theorem OwnX.far {Z:Nat→Prop} (h:OwnX x base e sz w y rs) (f:Far Z w w') (d:∀ b,base≤b→ ¬Z b):OwnX x base e sz w' y rs:=
  ⟨h.ow.farZ f (fun b a _=>d b a.1) fun b a _=>d b a,h.ne⟩
theorem OwnX.alloc (h:OwnX x base e sz w y rs) (o:Obj):OwnX x base e sz (w.alloc o) y rs:=h.far (Z:=fun _=>False) (Far.of (below_new w o)) fun _ _ h=>h
theorem OwnX.drew (h:OwnX x base e sz w y rs):OwnX x base e sz w.drew y rs:=h.far (Z:=fun _=>False) (Far.of (below_drew w)) fun _ _ h=>h
theorem OwnX.farq {q:Nat} (h:OwnX x base e sz w y rs) (a:FarQ q w w') (f:q<base):OwnX x base e sz w' y rs:=h.far a fun b d e=>by have :b=q:=e;omega
theorem OwnX.set {g:Nat} (h:OwnX x base e sz w y rs) (d:g<base) (j:Nat) (v:Value):OwnX x base e sz (w.setCell ⟨g,j,none⟩ v) y rs:=
  h.far ((Far.refl (fun b=>b=g) w).setCell (p:=⟨g,j,none⟩) rfl v) fun b a e=>by have :b=g:=e;omega
theorem OwnX.conv {f:Option Nat} (h:OwnX x base e sz w y rs) (d:f=x∨∀ k,f=some k→w.heap.size≤k):OwnX f base e sz w y rs:=by
  rcases d with rfl | d
  · exact h
  · obtain ⟨css,g,i⟩:=h.ow
    refine ⟨⟨css,g,i.imp fun r cs ⟨hc,hm⟩=>⟨hc,hm.imp fun x p m=>m.mono (fun b a=>⟨⟨⟨a.1.1.1,fun e=>by have :=d b e;have :=a.1.2;omega⟩,a.1.2⟩,a.2⟩) fun _ _=>rfl⟩⟩,fun k j e=>?_⟩
    have :=d k e;have :=(h.lt k j).2
    omega
theorem OwnX.other (h:OwnX x base e sz w y rs) (d:w.grownBy w' x):OwnX x base e sz w' y rs:=by
  refine ⟨?_,h.ne⟩;obtain ⟨css,f,m⟩:=h.ow;refine ⟨css,⟨f.1,?_⟩,m.imp fun r cs ⟨hc,hm⟩=>⟨hc,hm.imp fun x u s=>s.mono (fun b a=>⟨⟨a.1.1,Nat.lt_of_lt_of_le a.1.2 d.size⟩,a.2⟩) fun b a=>d.block b a.1.2 fun e=>a.1.1.2 e.symm⟩⟩
  rcases f.2 with q | ⟨g,cap,j,rfl,a,i,rest⟩
  · exact .inl q
  · have p:=(Array.getElem?_eq_some_iff.1 i).1
    exact .inr ⟨g,cap,j,rfl,a,(d.block g p (fun e=>h.ne g rfl e.symm)).trans i,rest⟩
theorem OwnX.mem (h:OwnX x base e sz w y rs):Mem (Nw 0 base w.heap.size) w (.s sz rs) y:=memS_nw h.ow.mem fun _ a=>a.elim (fun h=>h.1) id
theorem OwnX.other2 {i:Option Nat} (h:OwnX x base e sz w y rs) (d:w.grownBy w' x) (f:i=x∨∀ k,i=some k→w.heap.size≤k):OwnX i base e sz w' y rs:=by
  rcases f with rfl | f
  · exact h.other d
  · obtain ⟨css,j,q⟩:=h.ow
    refine ⟨⟨css,⟨j.1,?_⟩,q.imp fun r cs ⟨hc,hm⟩=>⟨hc,hm.imp fun x B A=>A.mono (fun b a=>⟨⟨⟨a.1.1.1,fun e=>by have :=f b e;have :=a.1.2;omega⟩,Nat.lt_of_lt_of_le a.1.2 d.size⟩,a.2⟩) fun b a=>d.block b a.1.2 fun e=>a.1.1.2 e.symm⟩⟩,fun k u e=>?_⟩
    · rcases j.2 with v | ⟨g,cap,p,rfl,a,m,rest⟩
      · exact .inl v
      · have s:=(Array.getElem?_eq_some_iff.1 m).1
        exact .inr ⟨g,cap,p,rfl,a,(d.block g s (fun e=>h.ne g rfl e.symm)).trans m,rest⟩
    · have :=f k e
      have :=(h.lt k u).2
      omega
theorem OwnX.app {v:Value} {f:List (List At)} (h:OwnX x base e sz w y rs) (g:OwnS (fun b=>base≤b∧x≠some b) base e sz w' v f) (i:∀ k,x=some k→k<w.heap.size) (a:v.ownBlock=y.ownBlock∨∀ k,v.ownBlock=some k→w.heap.size≤k):OwnX x base e sz w' v f:=
  ⟨g,fun k d e=>by
    rcases a with a | a
    · exact h.ne k (a ▸ d) e
    · have :=a k d
      have :=i k e
      omega⟩
theorem row_appX {r:List At} {a:Array Value} (h:OwnX x base t sz W y rs) (j:∀ k,x=some k→k<W.heap.size) (p:base≤W.heap.size) (g:W.heap.size≤w.heap.size) (f:All2 (Mem (Nw 0 W.heap.size w.heap.size) w) r a.toList) (i:a.toList.length=sz):
    Mem (fun b=>NwS (fun b=>base≤b∧x≠some b) (w.alloc (.cells a t)).heap.size b∧y.ownBlock≠some b) (w.alloc (.cells a t)) (.s sz [r]) (.slice (some ⟨w.heap.size,0,none⟩) 1 1):=
  (row_new f i g).mem.mono (fun b d=>by
    have m:W.heap.size≤b:=by rcases d.1 with h | h <;> omega
    refine ⟨⟨⟨by omega,fun e=>?_⟩,d.2⟩,fun e=>?_⟩
    · have :=j b e;omega
    · have :=(h.lt b e).2;omega) fun _ _=>rfl
end
section
variable {x:Option Nat} {base sz:Nat} {e:TypeId} {w w':World} {y:Value} {rs:List (List At)}
theorem oxA {o:Obj} (h:Hid (OwnX x base e sz w y rs)) (a:w.alloc o=w'):Hid (OwnX x base e sz w' y rs):=zz (a ▸ h.out.alloc o)
theorem qxO {q:Nat} (h:Hid (OwnX x base e sz w y rs)) (a:FarQ q w w') (b:q<base:=by omega):Hid (OwnX x base e sz w' y rs):=zz (h.out.farq a b)
theorem kxO (h:Hid (OwnX x base e sz w y rs)) (a:Below w.heap.size w w'):Hid (OwnX x base e sz w' y rs):=zz (h.out.far (Z:=fun _=>False) (Far.of a) fun _ _ h=>h)
theorem oxS1 {g j:Nat} {a:Value} (h:Hid (OwnX x base e sz w y rs)) (b:(w.setCell ⟨g,j,none⟩ a)=w') (d:g<base:=by omega):Hid (OwnX x base e sz w' y rs):=zz (b ▸ (h.out.set d j a))
end
end
end Go.Proofs.YtcoiagfeoonpbaaGreat
