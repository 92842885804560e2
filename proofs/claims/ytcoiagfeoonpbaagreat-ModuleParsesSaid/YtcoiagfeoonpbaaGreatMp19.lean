/-
 The document's reader's Expr: an Expr. Under what itself and rank do with less fuel.
-/
import Derived.Test.YtcoiagfeoonpbaaGreatMp18
import Derived.Test.YtcoiagfeoonpbaaGreatMp15
set_option maxHeartbeats 20000000
set_option maxRecDepth 100000
namespace Go.Proofs.YtcoiagfeoonpbaaGreat
section
open Go.RowKit
section
variable {ts:List Tk} {aL:Option Addr} {n cap:Nat}
attribute [local go_sem] tk_pos tk_text tk_kind0
theorem exprR_A {f i P:Nat} {r:Rd1} {a0 b0:Int} (J:readE ts (f+1) .expr i P=some r) (ai:isT ts i 5 wLet=false) (b1:isT ts i 5 wIf=true→ ¬P=40→∀ (x:Ex) (j:Nat) (y:Ex) (k:Nat),readE ts f .expr (i+1) (P+1)=some (.ok x j)→isT ts j 5 wThen=true→readE ts f .expr (j+1) (P+1)=some (.ok y k)→False) (w:World) (hd:P≤40) (h:MemW w (.s 5 (tkRows ts)) (.slice aL n cap)) (hn:n≤1048576) (HE:ReadsR ts aL n cap 66 .expr f) (HO:ReadsK ts aL n cap f):
  Calls Tryz.prog 66 #[rdV aL n cap (i:Int) (P:Int) false a0 b0] w (AnsR aL n cap r P a0 b0 w):=by
 have H:=zz h;clear h;rw [readE] at J
 try simp only at J
 have b5:=zz ai;have b4:=zz b1;clear ai b1;have d:Hid (FarB w.heap.size w.heap.size w w):=zz (FarB.refl _ _ _);simp only [rdV];go_enter Tryz.func66,Tryz.ntmps66
 go_wp2_with (fail)
 generalize a:World.alloc w _=ba;have L:=sizeA a;replace d:=fA d a;have N:=nB a (w.heap.size);clear a;generalize a:World.alloc ba _=bb;have M:=sizeA a;replace d:=fA d a;replace N:=bA N a;have e:=nB a (w.heap.size+1);clear a;generalize a:World.alloc bb _=w1;have b7:=sizeA a;replace d:=fA d a;replace N:=bA N a;replace e:=bA e a;have g:=nB a (w.heap.size+2);clear a
 have bg:w1.heap.size=w.heap.size+3:=by omega
 clear L M b7;refine (nowR_any _ (refTok d.out H.out)).mono ?_;rintro _ w2 ⟨rfl,m⟩;replace N:=kB N m;replace e:=kB e m;replace g:=kB g m;replace d:=kF d m;have be:=m.size;clear m;simp only [tkV];have rc:=kc6 N;have V:=i012_0 w w2
 go_wp2_with (fail)
 clear rc;generalize a:World.alloc w2 _=bc;have L:=sizeA a;replace d:=fA d a;replace N:=bA N a;replace e:=bA e a;replace g:=bA g a;have q:=nB a (w2.heap.size);clear a;generalize a:World.alloc bc _=w3;have M:=sizeA a;replace d:=fA d a;replace N:=bA N a;replace e:=bA e a;replace g:=bA g a;replace q:=bA q a;clear a
 have bh:w3.heap.size=w2.heap.size+2:=by omega
 clear L M;clear V
 rcases ak:isT ts i 5 wLet
 rotate_left
 ·
  simp only [ak,if_true] at J;have ai:=b5.out;rw [ak] at ai;cases ai
 simp only [ak,Bool.false_eq_true,if_false] at J;refine (isR_ok (s:=wLet) _ (refTok d.out H.out)).mono ?_;rintro _ w4 ⟨rfl,m⟩;replace N:=kB N m;replace e:=kB e m;replace g:=kB g m;replace q:=kB q m;replace d:=kF d m;have bf:=m.size;clear m;rw [ak];have rc:=kc6 N
 go_wp2_with (fail)
 rcases af:isT ts i 5 wIf
 ·
  simp only [af,Bool.false_eq_true,if_false] at J;clear rc;refine (isR_ok (s:=wIf) _ (refTok d.out H.out)).mono ?_;rintro _ w5 ⟨rfl,m⟩;replace N:=kB N m;replace e:=kB e m;replace g:=kB g m;replace d:=kF d m;have b8:=m.size;clear m;rw [af];have rc:=kc6 N
  go_wp2_with (fail)
  cases r with
  | bad l_ c_=>
   clear rc;refine (HO 1 i P _ _ _ _ (by omega) (by omega) hd (refTok d.out H.out) hn J).mono ?_;rintro _ w6 ⟨iq,dq,kq,sq,nq,aq,mq,cq,uq,vq,rfl,m⟩;replace e:=kB e m;replace g:=kB g m;replace d:=kF d m;clear m;simp only [rdV];have U:=kc6 e;have X:=kc6 g
   go_wp2_with (fail)
   clear U X;generalize a:World.setCell _ ⟨(w.heap.size+1),5,none⟩ _=bd;replace d:=fN6 d a;replace e:=bS6 e a;replace g:=bF6 g a;clear a;generalize a:World.setCell _ ⟨(w.heap.size+2),5,none⟩ _=Q;replace d:=fN6 d a;replace e:=bF6 e a;replace g:=bS6 g a;clear a
   go_wp2_with (fail)
   have z:=kc6 e;have y:=kc6 g;refine bodyPost_ret (v:=.tuple #[.agg #[.slice aL n cap,.int .i64 (iq:Int),.int .i64 dq,.bool true,.int .i64 l_,.int .i64 c_],.agg #[.int .i64 kq,.string sq,.int .i64 nq,.slice aq mq cq,.int .i64 uq,.int .i64 vq]]) (by clear d H N e g q;simp [results,Tryz.results66,go_sem,z,y]) rfl ?_;exact ⟨_,_,_,_,_,_,_,_,_,_,rfl,refBelow d.out⟩
  | ok x j=>
   clear rc;refine (HO 1 i P _ _ _ _ (by omega) (by omega) hd (refTok d.out H.out) hn J).mono ?_;rintro _ w6 ⟨ax,mx,cx,rfl,m,hm⟩;replace e:=kB e m;replace g:=kB g m;replace d:=kF d m;clear m;have ae:=zz hm;clear hm;simp only [rdV,exV];have U:=kc6 e;have X:=kc6 g
   go_wp2_with (fail)
   clear U X;generalize a:World.setCell _ ⟨(w.heap.size+1),5,none⟩ _=bd;replace d:=fN6 d a;replace e:=bS6 e a;replace g:=bF6 g a;replace ae:=mS6 ae a;clear a;generalize a:World.setCell _ ⟨(w.heap.size+2),5,none⟩ _=Q;replace d:=fN6 d a;replace e:=bF6 e a;replace g:=bS6 g a;replace ae:=mS6 ae a;clear a
   go_wp2_with (fail)
   have z:=kc6 e;have y:=kc6 g;refine bodyPost_ret (v:=.tuple #[.agg #[.slice aL n cap,.int .i64 (j:Int),.int .i64 (P:Int),.bool false,.int .i64 a0,.int .i64 b0],.agg #[.int .i64 x.kind,.string x.name,.int .i64 x.n,.slice ax mx cx,.int .i64 x.line,.int .i64 x.col]]) (by clear d H N e g q ae;simp [results,Tryz.results66,go_sem,z,y]) rfl ?_;exact ⟨_,_,_,rfl,refBelow d.out,memNw ae.out (by omega)⟩
 simp only [af,if_true] at J;clear rc;refine (isR_ok (s:=wIf) _ (refTok d.out H.out)).mono ?_;rintro _ w5 ⟨rfl,m⟩;replace N:=kB N m;replace e:=kB e m;replace g:=kB g m;replace q:=kB q m;replace d:=kF d m;have b8:=m.size;clear m;rw [af];have rc:=kc6 N
 go_wp2_with (fail)
 by_cases ag:P=40
 ·
  rw [if_pos ag] at J;cases J;clear rc;refine (downR_bad2 _ (refTok d.out H.out) ag).mono ?_;rintro _ w6 ⟨rfl,m⟩;replace e:=kB e m;replace g:=kB g m;replace q:=kB q m;replace d:=kF d m;have b9:=m.size;clear m;clear ag;simp only [rdV]
  go_wp2_with (fail)
  refine (exprR_bad (i:=i) _ (refTok d.out H.out)).mono ?_;rintro _ Q ⟨iq,dq,kq,sq,nq,aq,mq,cq,uq,vq,rfl,m⟩;replace e:=kB e m;replace g:=kB g m;replace q:=kB q m;replace d:=kF d m;have b2:=m.size;clear m;simp only [rdV];go_upto_region 22 with (fail);generalize a:World.alloc Q _=aj;have L:=sizeA a;replace d:=fA d a;replace e:=bA e a;replace g:=bA g a;replace q:=bA q a;have W:=nB a (Q.heap.size);clear a;generalize a:World.alloc aj _=w8;have M:=sizeA a;replace d:=fA d a;replace e:=bA e a;replace g:=bA g a;replace q:=bA q a;replace W:=bA W a;have t:=nB a (Q.heap.size+1);clear a
  have b3:w8.heap.size=Q.heap.size+2:=by omega
  clear L M;have uc:=kc6 W
  go_wp2_with (fail)
  clear uc;refine (takeR_bad (i:=iq) _ (refTok d.out H.out)).mono ?_;rintro _ w9 ⟨rfl,m⟩;replace e:=kB e m;replace g:=kB g m;replace q:=kB q m;replace t:=kB t m;replace d:=kF d m;have ar:=m.size;clear m;simp only [rdV]
  go_wp2_with (fail)
  refine (exprR_bad (i:=iq) _ (refTok d.out H.out)).mono ?_;rintro _ O ⟨ih,dh,kh,sh,nh,ah,mh,ch,uh,vh,rfl,m⟩;replace e:=kB e m;replace g:=kB g m;replace q:=kB q m;replace t:=kB t m;replace d:=kF d m;have an:=m.size;clear m;simp only [rdV];go_upto_region 23 with (fail);generalize a:World.alloc O _=a9;have L:=sizeA a;replace d:=fA d a;replace e:=bA e a;replace g:=bA g a;replace q:=bA q a;replace t:=bA t a;have R:=nB a (O.heap.size);clear a;generalize a:World.alloc a9 _=a8;have M:=sizeA a;replace d:=fA d a;replace e:=bA e a;replace g:=bA g a;replace q:=bA q a;replace t:=bA t a;replace R:=bA R a;have B:=nB a (O.heap.size+1);clear a
  have au:a8.heap.size=O.heap.size+2:=by omega
  clear L M;have a7:=kc6 R
  go_wp2_with (fail)
  clear a7;refine (takeR_bad (i:=ih) _ (refTok d.out H.out)).mono ?_;rintro _ az ⟨rfl,m⟩;replace e:=kB e m;replace g:=kB g m;replace q:=kB q m;replace t:=kB t m;replace B:=kB B m;replace d:=kF d m;have ao:=m.size;clear m;simp only [rdV]
  go_wp2_with (fail)
  refine (exprR_bad (i:=ih) _ (refTok d.out H.out)).mono ?_;rintro _ G ⟨ib,db,kb,sb,nb,ab,mb,cb,ub,vb,rfl,m⟩;replace e:=kB e m;replace g:=kB g m;replace q:=kB q m;replace t:=kB t m;replace B:=kB B m;replace d:=kF d m;have ap:=m.size;clear m;simp only [rdV];go_upto_region 24 with (fail);generalize a:World.alloc G _=aa;have L:=sizeA a;replace d:=fA d a;replace e:=bA e a;replace g:=bA g a;replace q:=bA q a;replace t:=bA t a;replace B:=bA B a;have I:=nB a (G.heap.size);clear a;generalize a:World.alloc aa _=a1;have M:=sizeA a;replace d:=fA d a;replace e:=bA e a;replace g:=bA g a;replace q:=bA q a;replace t:=bA t a;replace B:=bA B a;replace I:=bA I a;have T:=nB a (G.heap.size+1);clear a
  have av:a1.heap.size=G.heap.size+2:=by omega
  clear L M;have A:=kc6 I;have V:=i012_01_01_01_01_0 w w2 Q O G a1
  go_wp2_with (fail)
  clear A;generalize a:World.setCell a1 _ _=a2;have ay:=sizeS1 a;replace d:=fN1 d a;replace e:=bF1 e a;replace g:=bF1 g a;replace q:=bF1 q a;replace t:=bF1 t a;replace B:=bF1 B a;replace I:=s6_2 I a;replace T:=bF1 T a;clear a;clear V;have U:=kc6 e;have C:=kc2 q;have F:=kc6 t;have D:=kc6 B;have A:=kc6 I;have E:=kc6 T;have V:=i012_01_01_01_01_0 w w2 Q O G a2;refine wp_region_held_drew (S:=fun w'=>Far (fun b=>b=(w.heap.size+1)∨b=(w.heap.size+2)) (a2) w') (by kernel_rfl) (Far.of (below_drew _)) (fun al=>?_);refine takeA 0 (v:=?_) rfl ?_ ?_;rotate_left
  · (intro w o;replace A:=Far.c6z A o;replace F:=Far.c6z F o;replace D:=Far.c6z D o;replace E:=Far.c6z E o;replace C:=Far.c2z C o;go_simp;try rfl)
  (try simp only [pu]);refine takeA 1 (v:=?_) rfl ?_ ?_;rotate_left
  · (intro w o;replace A:=Far.c6z A o;replace F:=Far.c6z F o;replace D:=Far.c6z D o;replace E:=Far.c6z E o;replace C:=Far.c2z C o;go_simp;try rfl)
  (try simp only [pu]);refine takeA 2 (v:=?_) rfl ?_ ?_;rotate_left
  · (intro w o;replace A:=Far.c6z A o;replace F:=Far.c6z F o;replace D:=Far.c6z D o;replace E:=Far.c6z E o;replace C:=Far.c2z C o;go_simp;try rfl)
  (try simp only [pu]);refine takeA 3 (v:=?_) rfl ?_ ?_;rotate_left
  · (intro w o;replace A:=Far.c6z A o;replace F:=Far.c6z F o;replace D:=Far.c6z D o;replace E:=Far.c6z E o;replace C:=Far.c2z C o;go_simp;try rfl)
  (try simp only [pu]);refine takeA 5 (v:=?_) rfl ?_ ?_;rotate_left
  · (intro w o;replace A:=Far.c6z A o;replace F:=Far.c6z F o;replace D:=Far.c6z D o;replace E:=Far.c6z E o;replace C:=Far.c2z C o;go_simp;try rfl)
  (try simp only [pu]);refine twoL 4 7 rfl rfl (by kernel_rfl) (by rfl) (by rfl) (fun K u=>?_) (fun K u=>?_)
  ·
   go_simp;refine u.out _ _ ?_ (fun Y=>?_);· exact Far.trans (Far.of (below_new _ _)) (Far.of (below_drew _))
   clear u K;clear U C F D A E;generalize a:(a2.alloc (.cells #[.int .i64 kq,.string sq,.int .i64 nq,.slice aq mq cq,.int .i64 uq,.int .i64 vq,.int .i64 kh,.string sh,.int .i64 nh,.slice ah mh ch,.int .i64 uh,.int .i64 vh,.int .i64 kb,.string sb,.int .i64 nb,.slice ab mb cb,.int .i64 ub,.int .i64 vb] 60))=a4 at *;replace d:=fA d a;replace e:=bA e a;replace g:=bA g a;clear a;generalize a:(a4.drew)=a3 at *;replace d:=fD d a;replace e:=bD e a;replace g:=bD g a;clear a;clear V;have U:=kc6 e;refine takeA 6 (v:=?_) rfl ?_ ?_;rotate_left
   · (intro w o;go_simp;try rfl)
   (try simp only [pu]);refine callA 7 rfl fun K u=>?_;go_simp;refine u.out _ _ ?_ (fun Z=>?_);· exact (by (iterate 6 (refine Far.setCell (p:=⟨(w.heap.size+1),_,none⟩) ?_ (.inl rfl) _));exact Y)
   clear u K;clear U;generalize a:World.setCell _ ⟨(w.heap.size+1),5,none⟩ _=ac at *;replace d:=fN6 d a;replace e:=bS6 e a;replace g:=bF6 g a;clear a;have X:=kc6 g;refine callA 8 rfl fun K u=>?_;go_simp;refine u.out _ _ ?_ (fun a5=>?_);· exact (by (iterate 6 (refine Far.setCell (p:=⟨(w.heap.size+2),_,none⟩) ?_ (.inr rfl) _));exact Z)
   clear u K;refine wpAnyH_done (by kernel_rfl) ?_ _;clear X;generalize a:World.setCell _ ⟨(w.heap.size+2),5,none⟩ _=ad;replace d:=fN6 d a;replace e:=bF6 e a;replace g:=bS6 g a;clear a
   go_wp2_with (fail)
   have z:=kc6 e;have y:=kc6 g;refine bodyPost_ret (v:=.tuple #[.agg #[.slice aL n cap,.int .i64 (ib:Int),.int .i64 (P:Int),.bool true,.int .i64 (nowT ts i).l,.int .i64 (nowT ts i).c],.agg #[.int .i64 6,.string ⟨#[]⟩,.int .i64 0,.slice (some ⟨G.heap.size+2,0,none⟩) 3 3,.int .i64 (nowT ts i).l,.int .i64 (nowT ts i).c]]) (by clear d H N e g q W t R B I T;simp [results,Tryz.results66,go_sem,z,y]) rfl ?_;exact ⟨_,_,_,_,_,_,_,_,_,_,rfl,refBelow d.out⟩
  ·
   go_simp;refine u.out _ _ ?_ (fun Y=>?_);· exact (by refine Far.trans ?_ (Far.of (below_drew _));(iterate 6 (refine Far.setCell (p:=⟨(w.heap.size+1),_,none⟩) ?_ (.inl rfl) _));exact Far.refl _ _)
   clear u K;clear U C F D A E;generalize a:World.setCell _ ⟨(w.heap.size+1),5,none⟩ _=a4 at *;have L:=sizeS6 a;replace d:=fN6 d a;replace e:=bS6 e a;replace g:=bF6 g a;clear a;generalize a:(a4.drew)=a3 at *;have M:=sizeD a;replace d:=fD d a;replace e:=bD e a;replace g:=bD g a;clear a
   have aw:a3.heap.size=G.heap.size+2:=by omega
   clear L M;clear V;refine callA 4 rfl fun K u=>?_;go_simp;refine u.out _ _ ?_ (fun Z=>?_);· exact Far.trans Y (Far.of (below_new _ _))
   clear u K;generalize a:(a3.alloc (.cells #[.int .i64 kq,.string sq,.int .i64 nq,.slice aq mq cq,.int .i64 uq,.int .i64 vq,.int .i64 kh,.string sh,.int .i64 nh,.slice ah mh ch,.int .i64 uh,.int .i64 vh,.int .i64 kb,.string sb,.int .i64 nb,.slice ab mb cb,.int .i64 ub,.int .i64 vb] 60))=ac at *;replace d:=fA d a;replace e:=bA e a;replace g:=bA g a;clear a;have X:=kc6 g;refine takeA 6 (v:=?_) rfl ?_ ?_;rotate_left
   · (intro w o;go_simp;try rfl)
   (try simp only [pu]);refine callA 8 rfl fun K u=>?_;go_simp;refine u.out _ _ ?_ (fun a5=>?_);· exact (by (iterate 6 (refine Far.setCell (p:=⟨(w.heap.size+2),_,none⟩) ?_ (.inr rfl) _));exact Z)
   clear u K;refine wpAnyH_done (by kernel_rfl) ?_ _;clear X;generalize a:World.setCell _ ⟨(w.heap.size+2),5,none⟩ _=ad;replace d:=fN6 d a;replace e:=bF6 e a;replace g:=bS6 g a;clear a
   go_wp2_with (fail)
   have z:=kc6 e;have y:=kc6 g;refine bodyPost_ret (v:=.tuple #[.agg #[.slice aL n cap,.int .i64 (ib:Int),.int .i64 (P:Int),.bool true,.int .i64 (nowT ts i).l,.int .i64 (nowT ts i).c],.agg #[.int .i64 6,.string ⟨#[]⟩,.int .i64 0,.slice (some ⟨G.heap.size+2,0,none⟩) 3 3,.int .i64 (nowT ts i).l,.int .i64 (nowT ts i).c]]) (by clear d H N e g q W t R B I T;simp [results,Tryz.results66,go_sem,z,y]) rfl ?_;exact ⟨_,_,_,_,_,_,_,_,_,_,rfl,refBelow d.out⟩
 rw [if_neg ag] at J;have b6:i<ts.length:=isT_lt af (by decide)
 have am:P+1≤40:=by omega
 clear rc;refine (downR_ok2 _ (refTok d.out H.out) (by omega) b6).mono ?_;rintro _ w6 ⟨rfl,m⟩;replace e:=kB e m;replace g:=kB g m;replace q:=kB q m;replace d:=kF d m;have b9:=m.size;clear m;simp only [rdV]
 go_wp2_with (fail)
 rcases hx:readE ts f .expr (i+1) (P+1) with _ | ⟨x,j⟩ | ⟨l_,c_⟩
 · (rw [hx] at J;cases J)
 rotate_left
 ·
  rw [hx] at J
  first | simp only at J | simp only [andT] at J
  cases J;refine (HE (i+1) (P+1) _ _ _ _ am (refTok d.out H.out) hn hx).mono ?_;rintro _ Q ⟨iq,dq,kq,sq,nq,aq,mq,cq,uq,vq,rfl,m⟩;replace e:=kB e m;replace g:=kB g m;replace q:=kB q m;replace d:=kF d m;have b2:=m.size;clear m;simp only [rdV];go_upto_region 22 with (fail);generalize a:World.alloc Q _=aj;have L:=sizeA a;replace d:=fA d a;replace e:=bA e a;replace g:=bA g a;replace q:=bA q a;have W:=nB a (Q.heap.size);clear a;generalize a:World.alloc aj _=w8;have M:=sizeA a;replace d:=fA d a;replace e:=bA e a;replace g:=bA g a;replace q:=bA q a;replace W:=bA W a;have t:=nB a (Q.heap.size+1);clear a
  have b3:w8.heap.size=Q.heap.size+2:=by omega
  clear L M;have uc:=kc6 W
  go_wp2_with (fail)
  clear uc;refine (takeR_bad (i:=iq) _ (refTok d.out H.out)).mono ?_;rintro _ w9 ⟨rfl,m⟩;replace e:=kB e m;replace g:=kB g m;replace q:=kB q m;replace t:=kB t m;replace d:=kF d m;have ar:=m.size;clear m;simp only [rdV]
  go_wp2_with (fail)
  refine (exprR_bad (i:=iq) _ (refTok d.out H.out)).mono ?_;rintro _ O ⟨ih,dh,kh,sh,nh,ah,mh,ch,uh,vh,rfl,m⟩;replace e:=kB e m;replace g:=kB g m;replace q:=kB q m;replace t:=kB t m;replace d:=kF d m;have an:=m.size;clear m;simp only [rdV];go_upto_region 23 with (fail);generalize a:World.alloc O _=a9;have L:=sizeA a;replace d:=fA d a;replace e:=bA e a;replace g:=bA g a;replace q:=bA q a;replace t:=bA t a;have R:=nB a (O.heap.size);clear a;generalize a:World.alloc a9 _=a8;have M:=sizeA a;replace d:=fA d a;replace e:=bA e a;replace g:=bA g a;replace q:=bA q a;replace t:=bA t a;replace R:=bA R a;have B:=nB a (O.heap.size+1);clear a
  have au:a8.heap.size=O.heap.size+2:=by omega
  clear L M;have a7:=kc6 R
  go_wp2_with (fail)
  clear a7;refine (takeR_bad (i:=ih) _ (refTok d.out H.out)).mono ?_;rintro _ az ⟨rfl,m⟩;replace e:=kB e m;replace g:=kB g m;replace q:=kB q m;replace t:=kB t m;replace B:=kB B m;replace d:=kF d m;have ao:=m.size;clear m;simp only [rdV]
  go_wp2_with (fail)
  refine (exprR_bad (i:=ih) _ (refTok d.out H.out)).mono ?_;rintro _ G ⟨ib,db,kb,sb,nb,ab,mb,cb,ub,vb,rfl,m⟩;replace e:=kB e m;replace g:=kB g m;replace q:=kB q m;replace t:=kB t m;replace B:=kB B m;replace d:=kF d m;have ap:=m.size;clear m;simp only [rdV];go_upto_region 24 with (fail);generalize a:World.alloc G _=aa;have L:=sizeA a;replace d:=fA d a;replace e:=bA e a;replace g:=bA g a;replace q:=bA q a;replace t:=bA t a;replace B:=bA B a;have I:=nB a (G.heap.size);clear a;generalize a:World.alloc aa _=a1;have M:=sizeA a;replace d:=fA d a;replace e:=bA e a;replace g:=bA g a;replace q:=bA q a;replace t:=bA t a;replace B:=bA B a;replace I:=bA I a;have T:=nB a (G.heap.size+1);clear a
  have av:a1.heap.size=G.heap.size+2:=by omega
  clear L M;have A:=kc6 I;have V:=i012_01_01_01_01_0 w w2 Q O G a1
  go_wp2_with (fail)
  clear A;generalize a:World.setCell a1 _ _=a2;have ay:=sizeS1 a;replace d:=fN1 d a;replace e:=bF1 e a;replace g:=bF1 g a;replace q:=bF1 q a;replace t:=bF1 t a;replace B:=bF1 B a;replace I:=s6_2 I a;replace T:=bF1 T a;clear a;clear V;have U:=kc6 e;have C:=kc2 q;have F:=kc6 t;have D:=kc6 B;have A:=kc6 I;have E:=kc6 T;have V:=i012_01_01_01_01_0 w w2 Q O G a2;refine wp_region_held_drew (S:=fun w'=>Far (fun b=>b=(w.heap.size+1)∨b=(w.heap.size+2)) (a2) w') (by kernel_rfl) (Far.of (below_drew _)) (fun al=>?_);refine takeA 0 (v:=?_) rfl ?_ ?_;rotate_left
  · (intro w o;replace A:=Far.c6z A o;replace F:=Far.c6z F o;replace D:=Far.c6z D o;replace E:=Far.c6z E o;replace C:=Far.c2z C o;go_simp;try rfl)
  (try simp only [pu]);refine takeA 1 (v:=?_) rfl ?_ ?_;rotate_left
  · (intro w o;replace A:=Far.c6z A o;replace F:=Far.c6z F o;replace D:=Far.c6z D o;replace E:=Far.c6z E o;replace C:=Far.c2z C o;go_simp;try rfl)
  (try simp only [pu]);refine takeA 2 (v:=?_) rfl ?_ ?_;rotate_left
  · (intro w o;replace A:=Far.c6z A o;replace F:=Far.c6z F o;replace D:=Far.c6z D o;replace E:=Far.c6z E o;replace C:=Far.c2z C o;go_simp;try rfl)
  (try simp only [pu]);refine takeA 3 (v:=?_) rfl ?_ ?_;rotate_left
  · (intro w o;replace A:=Far.c6z A o;replace F:=Far.c6z F o;replace D:=Far.c6z D o;replace E:=Far.c6z E o;replace C:=Far.c2z C o;go_simp;try rfl)
  (try simp only [pu]);refine takeA 5 (v:=?_) rfl ?_ ?_;rotate_left
  · (intro w o;replace A:=Far.c6z A o;replace F:=Far.c6z F o;replace D:=Far.c6z D o;replace E:=Far.c6z E o;replace C:=Far.c2z C o;go_simp;try rfl)
  (try simp only [pu]);refine twoL 4 7 rfl rfl (by kernel_rfl) (by rfl) (by rfl) (fun K u=>?_) (fun K u=>?_)
  ·
   go_simp;refine u.out _ _ ?_ (fun Y=>?_);· exact Far.trans (Far.of (below_new _ _)) (Far.of (below_drew _))
   clear u K;clear U C F D A E;generalize a:(a2.alloc (.cells #[.int .i64 kq,.string sq,.int .i64 nq,.slice aq mq cq,.int .i64 uq,.int .i64 vq,.int .i64 kh,.string sh,.int .i64 nh,.slice ah mh ch,.int .i64 uh,.int .i64 vh,.int .i64 kb,.string sb,.int .i64 nb,.slice ab mb cb,.int .i64 ub,.int .i64 vb] 60))=a4 at *;replace d:=fA d a;replace e:=bA e a;replace g:=bA g a;clear a;generalize a:(a4.drew)=a3 at *;replace d:=fD d a;replace e:=bD e a;replace g:=bD g a;clear a;clear V;have U:=kc6 e;refine takeA 6 (v:=?_) rfl ?_ ?_;rotate_left
   · (intro w o;go_simp;try rfl)
   (try simp only [pu]);refine callA 7 rfl fun K u=>?_;go_simp;refine u.out _ _ ?_ (fun Z=>?_);· exact (by (iterate 6 (refine Far.setCell (p:=⟨(w.heap.size+1),_,none⟩) ?_ (.inl rfl) _));exact Y)
   clear u K;clear U;generalize a:World.setCell _ ⟨(w.heap.size+1),5,none⟩ _=ac at *;replace d:=fN6 d a;replace e:=bS6 e a;replace g:=bF6 g a;clear a;have X:=kc6 g;refine callA 8 rfl fun K u=>?_;go_simp;refine u.out _ _ ?_ (fun a5=>?_);· exact (by (iterate 6 (refine Far.setCell (p:=⟨(w.heap.size+2),_,none⟩) ?_ (.inr rfl) _));exact Z)
   clear u K;refine wpAnyH_done (by kernel_rfl) ?_ _;clear X;generalize a:World.setCell _ ⟨(w.heap.size+2),5,none⟩ _=ad;replace d:=fN6 d a;replace e:=bF6 e a;replace g:=bS6 g a;clear a
   go_wp2_with (fail)
   have z:=kc6 e;have y:=kc6 g;refine bodyPost_ret (v:=.tuple #[.agg #[.slice aL n cap,.int .i64 (ib:Int),.int .i64 (P:Int),.bool true,.int .i64 l_,.int .i64 c_],.agg #[.int .i64 6,.string ⟨#[]⟩,.int .i64 0,.slice (some ⟨G.heap.size+2,0,none⟩) 3 3,.int .i64 (nowT ts i).l,.int .i64 (nowT ts i).c]]) (by clear d H N e g q W t R B I T;simp [results,Tryz.results66,go_sem,z,y]) rfl ?_;exact ⟨_,_,_,_,_,_,_,_,_,_,rfl,refBelow d.out⟩
  ·
   go_simp;refine u.out _ _ ?_ (fun Y=>?_);· exact (by refine Far.trans ?_ (Far.of (below_drew _));(iterate 6 (refine Far.setCell (p:=⟨(w.heap.size+1),_,none⟩) ?_ (.inl rfl) _));exact Far.refl _ _)
   clear u K;clear U C F D A E;generalize a:World.setCell _ ⟨(w.heap.size+1),5,none⟩ _=a4 at *;have L:=sizeS6 a;replace d:=fN6 d a;replace e:=bS6 e a;replace g:=bF6 g a;clear a;generalize a:(a4.drew)=a3 at *;have M:=sizeD a;replace d:=fD d a;replace e:=bD e a;replace g:=bD g a;clear a
   have aw:a3.heap.size=G.heap.size+2:=by omega
   clear L M;clear V;refine callA 4 rfl fun K u=>?_;go_simp;refine u.out _ _ ?_ (fun Z=>?_);· exact Far.trans Y (Far.of (below_new _ _))
   clear u K;generalize a:(a3.alloc (.cells #[.int .i64 kq,.string sq,.int .i64 nq,.slice aq mq cq,.int .i64 uq,.int .i64 vq,.int .i64 kh,.string sh,.int .i64 nh,.slice ah mh ch,.int .i64 uh,.int .i64 vh,.int .i64 kb,.string sb,.int .i64 nb,.slice ab mb cb,.int .i64 ub,.int .i64 vb] 60))=ac at *;replace d:=fA d a;replace e:=bA e a;replace g:=bA g a;clear a;have X:=kc6 g;refine takeA 6 (v:=?_) rfl ?_ ?_;rotate_left
   · (intro w o;go_simp;try rfl)
   (try simp only [pu]);refine callA 8 rfl fun K u=>?_;go_simp;refine u.out _ _ ?_ (fun a5=>?_);· exact (by (iterate 6 (refine Far.setCell (p:=⟨(w.heap.size+2),_,none⟩) ?_ (.inr rfl) _));exact Z)
   clear u K;refine wpAnyH_done (by kernel_rfl) ?_ _;clear X;generalize a:World.setCell _ ⟨(w.heap.size+2),5,none⟩ _=ad;replace d:=fN6 d a;replace e:=bF6 e a;replace g:=bS6 g a;clear a
   go_wp2_with (fail)
   have z:=kc6 e;have y:=kc6 g;refine bodyPost_ret (v:=.tuple #[.agg #[.slice aL n cap,.int .i64 (ib:Int),.int .i64 (P:Int),.bool true,.int .i64 l_,.int .i64 c_],.agg #[.int .i64 6,.string ⟨#[]⟩,.int .i64 0,.slice (some ⟨G.heap.size+2,0,none⟩) 3 3,.int .i64 (nowT ts i).l,.int .i64 (nowT ts i).c]]) (by clear d H N e g q W t R B I T;simp [results,Tryz.results66,go_sem,z,y]) rfl ?_;exact ⟨_,_,_,_,_,_,_,_,_,_,rfl,refBelow d.out⟩
 rw [hx] at J
 first | simp only at J | simp only [andT] at J
 refine (HE (i+1) (P+1) _ _ _ _ am (refTok d.out H.out) hn hx).mono ?_;rintro _ Q ⟨ax,mx,cx,rfl,m,hm⟩;replace e:=kB e m;replace g:=kB g m;replace q:=kB q m;replace d:=kF d m;have b2:=m.size;clear m;clear hm;simp only [rdV,exV];go_upto_region 22 with (fail);generalize a:World.alloc Q _=aj;have L:=sizeA a;replace d:=fA d a;replace e:=bA e a;replace g:=bA g a;replace q:=bA q a;have W:=nB a (Q.heap.size);clear a;generalize a:World.alloc aj _=w8;have M:=sizeA a;replace d:=fA d a;replace e:=bA e a;replace g:=bA g a;replace q:=bA q a;replace W:=bA W a;have t:=nB a (Q.heap.size+1);clear a
 have b3:w8.heap.size=Q.heap.size+2:=by omega
 clear L M;have uc:=kc6 W
 go_wp2_with (fail)
 rcases a6:isT ts j 5 wThen
 ·
  first | simp only [a6,Bool.false_eq_true,if_false] at J | simp only [takeT,a6,Bool.false_eq_true,if_false] at J
  cases J;clear uc;refine (takeR_no _ (refTok d.out H.out) a6).mono ?_;rintro _ w9 ⟨rfl,m⟩;replace e:=kB e m;replace g:=kB g m;replace q:=kB q m;replace t:=kB t m;replace d:=kF d m;have ar:=m.size;clear m;simp only [rdV]
  go_wp2_with (fail)
  refine (exprR_bad (i:=j) _ (refTok d.out H.out)).mono ?_;rintro _ O ⟨ih,dh,kh,sh,nh,ah,mh,ch,uh,vh,rfl,m⟩;replace e:=kB e m;replace g:=kB g m;replace q:=kB q m;replace t:=kB t m;replace d:=kF d m;have an:=m.size;clear m;simp only [rdV];go_upto_region 23 with (fail);generalize a:World.alloc O _=a9;have L:=sizeA a;replace d:=fA d a;replace e:=bA e a;replace g:=bA g a;replace q:=bA q a;replace t:=bA t a;have R:=nB a (O.heap.size);clear a;generalize a:World.alloc a9 _=a8;have M:=sizeA a;replace d:=fA d a;replace e:=bA e a;replace g:=bA g a;replace q:=bA q a;replace t:=bA t a;replace R:=bA R a;have B:=nB a (O.heap.size+1);clear a
  have au:a8.heap.size=O.heap.size+2:=by omega
  clear L M;have a7:=kc6 R
  go_wp2_with (fail)
  clear a7;refine (takeR_bad (i:=ih) _ (refTok d.out H.out)).mono ?_;rintro _ az ⟨rfl,m⟩;replace e:=kB e m;replace g:=kB g m;replace q:=kB q m;replace t:=kB t m;replace B:=kB B m;replace d:=kF d m;have ao:=m.size;clear m;simp only [rdV]
  go_wp2_with (fail)
  refine (exprR_bad (i:=ih) _ (refTok d.out H.out)).mono ?_;rintro _ G ⟨ib,db,kb,sb,nb,ab,mb,cb,ub,vb,rfl,m⟩;replace e:=kB e m;replace g:=kB g m;replace q:=kB q m;replace t:=kB t m;replace B:=kB B m;replace d:=kF d m;have ap:=m.size;clear m;simp only [rdV];go_upto_region 24 with (fail);generalize a:World.alloc G _=aa;have L:=sizeA a;replace d:=fA d a;replace e:=bA e a;replace g:=bA g a;replace q:=bA q a;replace t:=bA t a;replace B:=bA B a;have I:=nB a (G.heap.size);clear a;generalize a:World.alloc aa _=a1;have M:=sizeA a;replace d:=fA d a;replace e:=bA e a;replace g:=bA g a;replace q:=bA q a;replace t:=bA t a;replace B:=bA B a;replace I:=bA I a;have T:=nB a (G.heap.size+1);clear a
  have av:a1.heap.size=G.heap.size+2:=by omega
  clear L M;have A:=kc6 I;have V:=i012_01_01_01_01_0 w w2 Q O G a1
  go_wp2_with (fail)
  clear A;generalize a:World.setCell a1 _ _=a2;have ay:=sizeS1 a;replace d:=fN1 d a;replace e:=bF1 e a;replace g:=bF1 g a;replace q:=bF1 q a;replace t:=bF1 t a;replace B:=bF1 B a;replace I:=s6_2 I a;replace T:=bF1 T a;clear a;clear V;have U:=kc6 e;have C:=kc2 q;have F:=kc6 t;have D:=kc6 B;have A:=kc6 I;have E:=kc6 T;have V:=i012_01_01_01_01_0 w w2 Q O G a2;refine wp_region_held_drew (S:=fun w'=>Far (fun b=>b=(w.heap.size+1)∨b=(w.heap.size+2)) (a2) w') (by kernel_rfl) (Far.of (below_drew _)) (fun al=>?_);refine takeA 0 (v:=?_) rfl ?_ ?_;rotate_left
  · (intro w o;replace A:=Far.c6z A o;replace F:=Far.c6z F o;replace D:=Far.c6z D o;replace E:=Far.c6z E o;replace C:=Far.c2z C o;go_simp;try rfl)
  (try simp only [pu]);refine takeA 1 (v:=?_) rfl ?_ ?_;rotate_left
  · (intro w o;replace A:=Far.c6z A o;replace F:=Far.c6z F o;replace D:=Far.c6z D o;replace E:=Far.c6z E o;replace C:=Far.c2z C o;go_simp;try rfl)
  (try simp only [pu]);refine takeA 2 (v:=?_) rfl ?_ ?_;rotate_left
  · (intro w o;replace A:=Far.c6z A o;replace F:=Far.c6z F o;replace D:=Far.c6z D o;replace E:=Far.c6z E o;replace C:=Far.c2z C o;go_simp;try rfl)
  (try simp only [pu]);refine takeA 3 (v:=?_) rfl ?_ ?_;rotate_left
  · (intro w o;replace A:=Far.c6z A o;replace F:=Far.c6z F o;replace D:=Far.c6z D o;replace E:=Far.c6z E o;replace C:=Far.c2z C o;go_simp;try rfl)
  (try simp only [pu]);refine takeA 5 (v:=?_) rfl ?_ ?_;rotate_left
  · (intro w o;replace A:=Far.c6z A o;replace F:=Far.c6z F o;replace D:=Far.c6z D o;replace E:=Far.c6z E o;replace C:=Far.c2z C o;go_simp;try rfl)
  (try simp only [pu]);refine twoL 4 7 rfl rfl (by kernel_rfl) (by rfl) (by rfl) (fun K u=>?_) (fun K u=>?_)
  ·
   go_simp;refine u.out _ _ ?_ (fun Y=>?_);· exact Far.trans (Far.of (below_new _ _)) (Far.of (below_drew _))
   clear u K;clear U C F D A E;generalize a:(a2.alloc (.cells #[.int .i64 x.kind,.string x.name,.int .i64 x.n,.slice ax mx cx,.int .i64 x.line,.int .i64 x.col,.int .i64 kh,.string sh,.int .i64 nh,.slice ah mh ch,.int .i64 uh,.int .i64 vh,.int .i64 kb,.string sb,.int .i64 nb,.slice ab mb cb,.int .i64 ub,.int .i64 vb] 60))=a4 at *;replace d:=fA d a;replace e:=bA e a;replace g:=bA g a;clear a;generalize a:(a4.drew)=a3 at *;replace d:=fD d a;replace e:=bD e a;replace g:=bD g a;clear a;clear V;have U:=kc6 e;refine takeA 6 (v:=?_) rfl ?_ ?_;rotate_left
   · (intro w o;go_simp;try rfl)
   (try simp only [pu]);refine callA 7 rfl fun K u=>?_;go_simp;refine u.out _ _ ?_ (fun Z=>?_);· exact (by (iterate 6 (refine Far.setCell (p:=⟨(w.heap.size+1),_,none⟩) ?_ (.inl rfl) _));exact Y)
   clear u K;clear U;generalize a:World.setCell _ ⟨(w.heap.size+1),5,none⟩ _=ac at *;replace d:=fN6 d a;replace e:=bS6 e a;replace g:=bF6 g a;clear a;have X:=kc6 g;refine callA 8 rfl fun K u=>?_;go_simp;refine u.out _ _ ?_ (fun a5=>?_);· exact (by (iterate 6 (refine Far.setCell (p:=⟨(w.heap.size+2),_,none⟩) ?_ (.inr rfl) _));exact Z)
   clear u K;refine wpAnyH_done (by kernel_rfl) ?_ _;clear X;generalize a:World.setCell _ ⟨(w.heap.size+2),5,none⟩ _=ad;replace d:=fN6 d a;replace e:=bF6 e a;replace g:=bS6 g a;clear a
   go_wp2_with (fail)
   have z:=kc6 e;have y:=kc6 g;refine bodyPost_ret (v:=.tuple #[.agg #[.slice aL n cap,.int .i64 (ib:Int),.int .i64 (P:Int),.bool true,.int .i64 (nowT ts j).l,.int .i64 (nowT ts j).c],.agg #[.int .i64 6,.string ⟨#[]⟩,.int .i64 0,.slice (some ⟨G.heap.size+2,0,none⟩) 3 3,.int .i64 (nowT ts i).l,.int .i64 (nowT ts i).c]]) (by clear d H N e g q W t R B I T;simp [results,Tryz.results66,go_sem,z,y]) rfl ?_;exact ⟨_,_,_,_,_,_,_,_,_,_,rfl,refBelow d.out⟩
  ·
   go_simp;refine u.out _ _ ?_ (fun Y=>?_);· exact (by refine Far.trans ?_ (Far.of (below_drew _));(iterate 6 (refine Far.setCell (p:=⟨(w.heap.size+1),_,none⟩) ?_ (.inl rfl) _));exact Far.refl _ _)
   clear u K;clear U C F D A E;generalize a:World.setCell _ ⟨(w.heap.size+1),5,none⟩ _=a4 at *;have L:=sizeS6 a;replace d:=fN6 d a;replace e:=bS6 e a;replace g:=bF6 g a;clear a;generalize a:(a4.drew)=a3 at *;have M:=sizeD a;replace d:=fD d a;replace e:=bD e a;replace g:=bD g a;clear a
   have aw:a3.heap.size=G.heap.size+2:=by omega
   clear L M;clear V;refine callA 4 rfl fun K u=>?_;go_simp;refine u.out _ _ ?_ (fun Z=>?_);· exact Far.trans Y (Far.of (below_new _ _))
   clear u K;generalize a:(a3.alloc (.cells #[.int .i64 x.kind,.string x.name,.int .i64 x.n,.slice ax mx cx,.int .i64 x.line,.int .i64 x.col,.int .i64 kh,.string sh,.int .i64 nh,.slice ah mh ch,.int .i64 uh,.int .i64 vh,.int .i64 kb,.string sb,.int .i64 nb,.slice ab mb cb,.int .i64 ub,.int .i64 vb] 60))=ac at *;replace d:=fA d a;replace e:=bA e a;replace g:=bA g a;clear a;have X:=kc6 g;refine takeA 6 (v:=?_) rfl ?_ ?_;rotate_left
   · (intro w o;go_simp;try rfl)
   (try simp only [pu]);refine callA 8 rfl fun K u=>?_;go_simp;refine u.out _ _ ?_ (fun a5=>?_);· exact (by (iterate 6 (refine Far.setCell (p:=⟨(w.heap.size+2),_,none⟩) ?_ (.inr rfl) _));exact Z)
   clear u K;refine wpAnyH_done (by kernel_rfl) ?_ _;clear X;generalize a:World.setCell _ ⟨(w.heap.size+2),5,none⟩ _=ad;replace d:=fN6 d a;replace e:=bF6 e a;replace g:=bS6 g a;clear a
   go_wp2_with (fail)
   have z:=kc6 e;have y:=kc6 g;refine bodyPost_ret (v:=.tuple #[.agg #[.slice aL n cap,.int .i64 (ib:Int),.int .i64 (P:Int),.bool true,.int .i64 (nowT ts j).l,.int .i64 (nowT ts j).c],.agg #[.int .i64 6,.string ⟨#[]⟩,.int .i64 0,.slice (some ⟨G.heap.size+2,0,none⟩) 3 3,.int .i64 (nowT ts i).l,.int .i64 (nowT ts i).c]]) (by clear d H N e g q W t R B I T;simp [results,Tryz.results66,go_sem,z,y]) rfl ?_;exact ⟨_,_,_,_,_,_,_,_,_,_,rfl,refBelow d.out⟩
 first | simp only [a6,if_true] at J | simp only [takeT,a6,if_true] at J
 clear uc;refine (takeR_ok _ (refTok d.out H.out) a6 (by decide)).mono ?_;rintro _ w9 ⟨rfl,m⟩;replace e:=kB e m;replace g:=kB g m;replace q:=kB q m;replace t:=kB t m;replace d:=kF d m;have ar:=m.size;clear m;simp only [rdV]
 go_wp2_with (fail)
 rcases hy:readE ts f .expr (j+1) (P+1) with _ | ⟨y,k⟩ | ⟨l_,c_⟩
 · (rw [hy] at J;cases J)
 rotate_left
 ·
  rw [hy] at J
  first | simp only at J | simp only [andT] at J
  cases J;refine (HE (j+1) (P+1) _ _ _ _ am (refTok d.out H.out) hn hy).mono ?_;rintro _ O ⟨ih,dh,kh,sh,nh,ah,mh,ch,uh,vh,rfl,m⟩;replace e:=kB e m;replace g:=kB g m;replace q:=kB q m;replace t:=kB t m;replace d:=kF d m;have an:=m.size;clear m;simp only [rdV];go_upto_region 23 with (fail);generalize a:World.alloc O _=a9;have L:=sizeA a;replace d:=fA d a;replace e:=bA e a;replace g:=bA g a;replace q:=bA q a;replace t:=bA t a;have R:=nB a (O.heap.size);clear a;generalize a:World.alloc a9 _=a8;have M:=sizeA a;replace d:=fA d a;replace e:=bA e a;replace g:=bA g a;replace q:=bA q a;replace t:=bA t a;replace R:=bA R a;have B:=nB a (O.heap.size+1);clear a
  have au:a8.heap.size=O.heap.size+2:=by omega
  clear L M;have a7:=kc6 R
  go_wp2_with (fail)
  clear a7;refine (takeR_bad (i:=ih) _ (refTok d.out H.out)).mono ?_;rintro _ az ⟨rfl,m⟩;replace e:=kB e m;replace g:=kB g m;replace q:=kB q m;replace t:=kB t m;replace B:=kB B m;replace d:=kF d m;have ao:=m.size;clear m;simp only [rdV]
  go_wp2_with (fail)
  refine (exprR_bad (i:=ih) _ (refTok d.out H.out)).mono ?_;rintro _ G ⟨ib,db,kb,sb,nb,ab,mb,cb,ub,vb,rfl,m⟩;replace e:=kB e m;replace g:=kB g m;replace q:=kB q m;replace t:=kB t m;replace B:=kB B m;replace d:=kF d m;have ap:=m.size;clear m;simp only [rdV];go_upto_region 24 with (fail);generalize a:World.alloc G _=aa;have L:=sizeA a;replace d:=fA d a;replace e:=bA e a;replace g:=bA g a;replace q:=bA q a;replace t:=bA t a;replace B:=bA B a;have I:=nB a (G.heap.size);clear a;generalize a:World.alloc aa _=a1;have M:=sizeA a;replace d:=fA d a;replace e:=bA e a;replace g:=bA g a;replace q:=bA q a;replace t:=bA t a;replace B:=bA B a;replace I:=bA I a;have T:=nB a (G.heap.size+1);clear a
  have av:a1.heap.size=G.heap.size+2:=by omega
  clear L M;have A:=kc6 I;have V:=i012_01_01_01_01_0 w w2 Q O G a1
  go_wp2_with (fail)
  clear A;generalize a:World.setCell a1 _ _=a2;have ay:=sizeS1 a;replace d:=fN1 d a;replace e:=bF1 e a;replace g:=bF1 g a;replace q:=bF1 q a;replace t:=bF1 t a;replace B:=bF1 B a;replace I:=s6_2 I a;replace T:=bF1 T a;clear a;clear V;have U:=kc6 e;have C:=kc2 q;have F:=kc6 t;have D:=kc6 B;have A:=kc6 I;have E:=kc6 T;have V:=i012_01_01_01_01_0 w w2 Q O G a2;refine wp_region_held_drew (S:=fun w'=>Far (fun b=>b=(w.heap.size+1)∨b=(w.heap.size+2)) (a2) w') (by kernel_rfl) (Far.of (below_drew _)) (fun al=>?_);refine takeA 0 (v:=?_) rfl ?_ ?_;rotate_left
  · (intro w o;replace A:=Far.c6z A o;replace F:=Far.c6z F o;replace D:=Far.c6z D o;replace E:=Far.c6z E o;replace C:=Far.c2z C o;go_simp;try rfl)
  (try simp only [pu]);refine takeA 1 (v:=?_) rfl ?_ ?_;rotate_left
  · (intro w o;replace A:=Far.c6z A o;replace F:=Far.c6z F o;replace D:=Far.c6z D o;replace E:=Far.c6z E o;replace C:=Far.c2z C o;go_simp;try rfl)
  (try simp only [pu]);refine takeA 2 (v:=?_) rfl ?_ ?_;rotate_left
  · (intro w o;replace A:=Far.c6z A o;replace F:=Far.c6z F o;replace D:=Far.c6z D o;replace E:=Far.c6z E o;replace C:=Far.c2z C o;go_simp;try rfl)
  (try simp only [pu]);refine takeA 3 (v:=?_) rfl ?_ ?_;rotate_left
  · (intro w o;replace A:=Far.c6z A o;replace F:=Far.c6z F o;replace D:=Far.c6z D o;replace E:=Far.c6z E o;replace C:=Far.c2z C o;go_simp;try rfl)
  (try simp only [pu]);refine takeA 5 (v:=?_) rfl ?_ ?_;rotate_left
  · (intro w o;replace A:=Far.c6z A o;replace F:=Far.c6z F o;replace D:=Far.c6z D o;replace E:=Far.c6z E o;replace C:=Far.c2z C o;go_simp;try rfl)
  (try simp only [pu]);refine twoL 4 7 rfl rfl (by kernel_rfl) (by rfl) (by rfl) (fun K u=>?_) (fun K u=>?_)
  ·
   go_simp;refine u.out _ _ ?_ (fun Y=>?_);· exact Far.trans (Far.of (below_new _ _)) (Far.of (below_drew _))
   clear u K;clear U C F D A E;generalize a:(a2.alloc (.cells #[.int .i64 x.kind,.string x.name,.int .i64 x.n,.slice ax mx cx,.int .i64 x.line,.int .i64 x.col,.int .i64 kh,.string sh,.int .i64 nh,.slice ah mh ch,.int .i64 uh,.int .i64 vh,.int .i64 kb,.string sb,.int .i64 nb,.slice ab mb cb,.int .i64 ub,.int .i64 vb] 60))=a4 at *;replace d:=fA d a;replace e:=bA e a;replace g:=bA g a;clear a;generalize a:(a4.drew)=a3 at *;replace d:=fD d a;replace e:=bD e a;replace g:=bD g a;clear a;clear V;have U:=kc6 e;refine takeA 6 (v:=?_) rfl ?_ ?_;rotate_left
   · (intro w o;go_simp;try rfl)
   (try simp only [pu]);refine callA 7 rfl fun K u=>?_;go_simp;refine u.out _ _ ?_ (fun Z=>?_);· exact (by (iterate 6 (refine Far.setCell (p:=⟨(w.heap.size+1),_,none⟩) ?_ (.inl rfl) _));exact Y)
   clear u K;clear U;generalize a:World.setCell _ ⟨(w.heap.size+1),5,none⟩ _=ac at *;replace d:=fN6 d a;replace e:=bS6 e a;replace g:=bF6 g a;clear a;have X:=kc6 g;refine callA 8 rfl fun K u=>?_;go_simp;refine u.out _ _ ?_ (fun a5=>?_);· exact (by (iterate 6 (refine Far.setCell (p:=⟨(w.heap.size+2),_,none⟩) ?_ (.inr rfl) _));exact Z)
   clear u K;refine wpAnyH_done (by kernel_rfl) ?_ _;clear X;generalize a:World.setCell _ ⟨(w.heap.size+2),5,none⟩ _=ad;replace d:=fN6 d a;replace e:=bF6 e a;replace g:=bS6 g a;clear a
   go_wp2_with (fail)
   have z:=kc6 e;have y:=kc6 g;refine bodyPost_ret (v:=.tuple #[.agg #[.slice aL n cap,.int .i64 (ib:Int),.int .i64 (P:Int),.bool true,.int .i64 l_,.int .i64 c_],.agg #[.int .i64 6,.string ⟨#[]⟩,.int .i64 0,.slice (some ⟨G.heap.size+2,0,none⟩) 3 3,.int .i64 (nowT ts i).l,.int .i64 (nowT ts i).c]]) (by clear d H N e g q W t R B I T;simp [results,Tryz.results66,go_sem,z,y]) rfl ?_;exact ⟨_,_,_,_,_,_,_,_,_,_,rfl,refBelow d.out⟩
  ·
   go_simp;refine u.out _ _ ?_ (fun Y=>?_);· exact (by refine Far.trans ?_ (Far.of (below_drew _));(iterate 6 (refine Far.setCell (p:=⟨(w.heap.size+1),_,none⟩) ?_ (.inl rfl) _));exact Far.refl _ _)
   clear u K;clear U C F D A E;generalize a:World.setCell _ ⟨(w.heap.size+1),5,none⟩ _=a4 at *;have L:=sizeS6 a;replace d:=fN6 d a;replace e:=bS6 e a;replace g:=bF6 g a;clear a;generalize a:(a4.drew)=a3 at *;have M:=sizeD a;replace d:=fD d a;replace e:=bD e a;replace g:=bD g a;clear a
   have aw:a3.heap.size=G.heap.size+2:=by omega
   clear L M;clear V;refine callA 4 rfl fun K u=>?_;go_simp;refine u.out _ _ ?_ (fun Z=>?_);· exact Far.trans Y (Far.of (below_new _ _))
   clear u K;generalize a:(a3.alloc (.cells #[.int .i64 x.kind,.string x.name,.int .i64 x.n,.slice ax mx cx,.int .i64 x.line,.int .i64 x.col,.int .i64 kh,.string sh,.int .i64 nh,.slice ah mh ch,.int .i64 uh,.int .i64 vh,.int .i64 kb,.string sb,.int .i64 nb,.slice ab mb cb,.int .i64 ub,.int .i64 vb] 60))=ac at *;replace d:=fA d a;replace e:=bA e a;replace g:=bA g a;clear a;have X:=kc6 g;refine takeA 6 (v:=?_) rfl ?_ ?_;rotate_left
   · (intro w o;go_simp;try rfl)
   (try simp only [pu]);refine callA 8 rfl fun K u=>?_;go_simp;refine u.out _ _ ?_ (fun a5=>?_);· exact (by (iterate 6 (refine Far.setCell (p:=⟨(w.heap.size+2),_,none⟩) ?_ (.inr rfl) _));exact Z)
   clear u K;refine wpAnyH_done (by kernel_rfl) ?_ _;clear X;generalize a:World.setCell _ ⟨(w.heap.size+2),5,none⟩ _=ad;replace d:=fN6 d a;replace e:=bF6 e a;replace g:=bS6 g a;clear a
   go_wp2_with (fail)
   have z:=kc6 e;have y:=kc6 g;refine bodyPost_ret (v:=.tuple #[.agg #[.slice aL n cap,.int .i64 (ib:Int),.int .i64 (P:Int),.bool true,.int .i64 l_,.int .i64 c_],.agg #[.int .i64 6,.string ⟨#[]⟩,.int .i64 0,.slice (some ⟨G.heap.size+2,0,none⟩) 3 3,.int .i64 (nowT ts i).l,.int .i64 (nowT ts i).c]]) (by clear d H N e g q W t R B I T;simp [results,Tryz.results66,go_sem,z,y]) rfl ?_;exact ⟨_,_,_,_,_,_,_,_,_,_,rfl,refBelow d.out⟩
 rw [hy] at J
 first | simp only at J | simp only [andT] at J
 exact (b4.out af ag x j y k hx a6 hy).elim
end
end
section
open Go.RowKit
section
variable {ts:List Tk} {aL:Option Addr} {n cap:Nat}
attribute [local go_sem] tk_pos tk_text tk_kind0
theorem exprR_B {f i Y:Nat} {r:Rd1} {a0 b0:Int} (N:readE ts (f+1) .expr i Y=some r) (ap:isT ts i 5 wLet=true) (hB:Y=40∨(nowT ts (i+1)).k≠2∨isT ts (i+2) 5 wFree=true) (w:World) (hd:Y≤40) (h:MemW w (.s 5 (tkRows ts)) (.slice aL n cap)) (hn:n≤1048576) (HE:ReadsR ts aL n cap 66 .expr f) (_c1:ReadsK ts aL n cap f):
  Calls Tryz.prog 66 #[rdV aL n cap (i:Int) (Y:Int) false a0 b0] w (AnsR aL n cap r Y a0 b0 w):=by
 have H:=zz h;clear h;rw [readE] at N
 try simp only at N
 have bi:=zz ap;have bh:=zz hB;clear ap hB;have d:Hid (FarB w.heap.size w.heap.size w w):=zz (FarB.refl _ _ _);simp only [rdV];go_enter Tryz.func66,Tryz.ntmps66
 go_wp2_with (fail)
 generalize a:World.alloc w _=bv;have D:=sizeA a;replace d:=fA d a;have U:=nB a (w.heap.size);clear a;generalize a:World.alloc bv _=bw;have E:=sizeA a;replace d:=fA d a;replace U:=bA U a;have e:=nB a (w.heap.size+1);clear a;generalize a:World.alloc bw _=w1;have bk:=sizeA a;replace d:=fA d a;replace U:=bA U a;replace e:=bA e a;have m:=nB a (w.heap.size+2);clear a
 have ca:w1.heap.size=w.heap.size+3:=by omega
 clear D E bk;refine (nowR_any _ (refTok d.out H.out)).mono ?_;rintro _ G ⟨rfl,o⟩;replace U:=kB U o;replace e:=kB e o;replace m:=kB m o;replace d:=kF d o;have c8:=o.size;clear o;simp only [tkV];have rc:=kc6 U;have C:=i012_0 w G
 go_wp2_with (fail)
 clear rc;generalize a:World.alloc G _=c0;have D:=sizeA a;replace d:=fA d a;replace U:=bA U a;replace e:=bA e a;replace m:=bA m a;have P:=nB a (G.heap.size);clear a;generalize a:World.alloc c0 _=w3;have E:=sizeA a;replace d:=fA d a;replace U:=bA U a;replace e:=bA e a;replace m:=bA m a;replace P:=bA P a;have q:=nB a (G.heap.size+1);clear a
 have cb:w3.heap.size=G.heap.size+2:=by omega
 clear D E;clear C
 rcases ao:isT ts i 5 wLet
 ·
  simp only [ao,Bool.false_eq_true,if_false] at N;have ap:=bi.out;rw [ao] at ap;cases ap
 simp only [ao,if_true] at N;refine (isR_ok (s:=wLet) _ (refTok d.out H.out)).mono ?_;rintro _ w4 ⟨rfl,o⟩;replace U:=kB U o;replace e:=kB e o;replace m:=kB m o;replace P:=kB P o;replace q:=kB q o;replace d:=kF d o;have c9:=o.size;clear o;rw [ao];have rc:=kc6 U
 go_wp2_with (fail)
 by_cases an:Y=40
 ·
  rw [if_pos an] at N;cases N;clear rc;refine (downR_bad2 _ (refTok d.out H.out) an).mono ?_;rintro _ w5 ⟨rfl,o⟩;replace e:=kB e o;replace m:=kB m o;replace P:=kB P o;replace q:=kB q o;replace d:=kF d o;have bn:=o.size;clear o;clear an;simp only [rdV]
  go_wp2_with (fail)
  refine (nameR_bad _ (refTok d.out H.out)).mono ?_;rintro _ L ⟨rfl,o⟩;replace e:=kB e o;replace m:=kB m o;replace P:=kB P o;replace q:=kB q o;replace d:=kF d o;have bc:=o.size;clear o;simp only [rdV];have pc:=kc2 P;have A:=kc6 q;have C:=i012_01_0 w G L
  go_wp2_with (fail)
  clear pc A;generalize a:World.setCell _ ⟨(G.heap.size+1),5,none⟩ _=av;have D:=sizeS6 a;replace d:=fN6 d a;replace e:=bF6 e a;replace m:=bF6 m a;replace q:=bS6 q a;clear a;generalize a:World.alloc av _=w7;have E:=sizeA a;replace d:=fA d a;replace e:=bA e a;replace m:=bA m a;replace q:=bA q a;have B:=nB a (L.heap.size);clear a
  have bf:w7.heap.size=L.heap.size+1:=by omega
  clear D E;clear C;refine (isR_bad (i:=i) _ (refTok d.out H.out)).mono ?_;rintro _ Q ⟨rfl,o⟩;replace e:=kB e o;replace m:=kB m o;replace q:=kB q o;replace B:=kB B o;replace d:=kF d o;have bd:=o.size;clear o;have uc:=kc6 B;have C:=i012_01_0_0 w G L Q
  go_wp2_with (fail)
  clear uc;generalize a:World.alloc Q _=w9;have br:=sizeA a;replace d:=fA d a;replace e:=bA e a;replace m:=bA m a;replace q:=bA q a;replace B:=bA B a;have M:=nB a (Q.heap.size);clear a;clear C;refine (takeR_bad (i:=i) _ (refTok d.out H.out)).mono ?_;rintro _ ag ⟨rfl,o⟩;replace e:=kB e o;replace m:=kB m o;replace q:=kB q o;replace B:=kB B o;replace M:=kB M o;replace d:=kF d o;have b3:=o.size;clear o;simp only [rdV]
  go_wp2_with (fail)
  refine (exprR_bad (i:=i) _ (refTok d.out H.out)).mono ?_;rintro _ u ⟨iq,dq,kq,sq,nq,aq,mq,cq,uq,vq,rfl,o⟩;replace e:=kB e o;replace m:=kB m o;replace q:=kB q o;replace B:=kB B o;replace M:=kB M o;replace d:=kF d o;have az:=o.size;clear o;simp only [rdV];have uc:=kc6 B;have vc:=kc6 M;have C:=i012_01_0_0_0 w G L Q u;go_upto_region 14 with (fail);clear uc vc;generalize a:World.setCell _ ⟨L.heap.size,5,none⟩ _=ai;have D:=sizeS6 a;replace d:=fN6 d a;replace e:=bF6 e a;replace m:=bF6 m a;replace q:=bF6 q a;replace B:=bS6 B a;replace M:=bF6 M a;clear a;generalize a:World.setCell _ ⟨Q.heap.size,5,none⟩ _=T;have E:=sizeS6 a;replace d:=fN6 d a;replace e:=bF6 e a;replace m:=bF6 m a;replace q:=bF6 q a;replace B:=bF6 B a;replace M:=bS6 M a;clear a
  have bs:T.heap.size=u.heap.size:=by omega
  clear D E;clear C;have A:=kc6 q;have C:=i012_01_0_0_0 w G L Q T;go_upto_region 15 with (fail);clear A;generalize a:World.setCell T _ _=O;have bt:=sizeS1 a;replace d:=fN1 d a;replace e:=bF1 e a;replace m:=bF1 m a;replace q:=s6_0 q a;replace B:=bF1 B a;replace M:=bF1 M a;clear a;clear C;have A:=kc6 q;have vc:=kc6 M;have C:=i012_01_0_0_0 w G L Q O;have hZ:=i012_01_0_0_0 w G L Q u;go_upto_region 16 with (fail);clear A vc;generalize a:World.setCell O _ _=ad;have D:=sizeS1 a;replace d:=fN1 d a;replace e:=bF1 e a;replace m:=bF1 m a;replace q:=s6_3 q a;replace B:=bF1 B a;clear a;generalize a:World.alloc ad _=Z;have E:=sizeA a;replace d:=fA d a;replace e:=bA e a;replace m:=bA m a;replace q:=bA q a;replace B:=bA B a;have R:=nB a (u.heap.size);clear a
  have bp:Z.heap.size=u.heap.size+1:=by omega
  clear D E;clear C hZ;have uc:=kc6 B
  go_wp2_with (fail)
  clear uc;refine (takeR_bad (i:=iq) _ (refTok d.out H.out)).mono ?_;rintro _ b2 ⟨rfl,o⟩;replace e:=kB e o;replace m:=kB m o;replace q:=kB q o;replace R:=kB R o;replace d:=kF d o;have bl:=o.size;clear o;simp only [rdV]
  go_wp2_with (fail)
  refine (exprR_bad (i:=iq) _ (refTok d.out H.out)).mono ?_;rintro _ X ⟨ih,dh,kh,sh,nh,ah,mh,ch,uh,vh,rfl,o⟩;replace e:=kB e o;replace m:=kB m o;replace q:=kB q o;replace R:=kB R o;replace d:=kF d o;have bm:=o.size;clear o;simp only [rdV];go_upto_region 17 with (fail);generalize a:World.alloc X _=b4;have D:=sizeA a;replace d:=fA d a;replace e:=bA e a;replace m:=bA m a;replace q:=bA q a;replace R:=bA R a;have t:=nB a (X.heap.size);clear a;generalize a:World.alloc b4 _=ae;have E:=sizeA a;replace d:=fA d a;replace e:=bA e a;replace m:=bA m a;replace q:=bA q a;replace R:=bA R a;replace t:=bA t a;have a1:=nB a (X.heap.size+1);clear a
  have bq:ae.heap.size=X.heap.size+2:=by omega
  clear D E;have a5:Hid (OwnS (fun _=>True) 0 60 6 ae (.slice (some ⟨u.heap.size,0,none⟩) 1 1) _):=zz (OwnS.ofBo kq sq nq aq mq cq uq vq R.out (Nat.zero_le _));have A:=kc6 q;have ac:=kc6 a1
  go_wp2_with (first | (at_builtin;refine wpList_append_S2 (y:=.slice (some ⟨u.heap.size,0,none⟩) 1 1) (new:=[rawRow kh sh nh ah mh ch uh vh]) rfl _ _ rfl Tryz.underlying58 info_ex rfl (by decide) rfl rfl (a5.out.alloc _) (by first | (simp;done) | (simp [Ex.rows_eq];done) | (rw [Ex.rows_len];simp)) (rawRowS (W:=ae) a5.out kh sh nh ah mh ch uh vh trivial (Nat.le_refl _) (by omega)) (by first | (simp;done) | (simp [Ex.rows_eq];done) | (rw [Ex.rows_len];simp)) (by first | (simp;done) | (simp [Ex.rows_eq];done) | (rw [Ex.rows_len];simp)) (Nat.zero_le _) ?_;intro v9 af ho a3 a4;have a7:=zz ho;clear ho;have F:=zz a3;clear a3;have al:=zz a4;clear a4;refine Hid.out ?_))
  refine zz ?_;clear A ac;clear R
  have b1:ae.heap.size+1≤af.heap.size:=by have h:=F.out.size;rw [World.size_alloc] at h;exact h
  replace d:=gF u.heap.size d F.out rfl;replace e:=gB u.heap.size e F.out rfl;replace m:=gB u.heap.size m F.out rfl;replace q:=gB u.heap.size q F.out rfl;replace t:=gB u.heap.size t F.out rfl;obtain ⟨a2,m2,c2,rfl,aa,a9,ab⟩:=a7.out.form;clear aa a9 ab;have A:=kc6 q;have J:=kc6 t;have C:=i012_01_0_0_01_0 w G L Q X af
  go_wp2_with (fail)
  clear A J;generalize a:World.setCell af _ _=b5;have D:=sizeS1 a;replace d:=fN1 d a;replace e:=bF1 e a;replace m:=bF1 m a;replace q:=s6_3 q a;replace t:=bF1 t a;clear a;generalize a:World.setCell b5 _ _=aj;have E:=sizeS1 a;replace d:=fN1 d a;replace e:=bF1 e a;replace m:=bF1 m a;replace q:=bF1 q a;replace t:=s6_2 t a;clear a
  have bu:aj.heap.size=af.heap.size:=by omega
  clear D E;clear C;clear U P B M a1;have sc:=kc6 e;have A:=kc6 q;have J:=kc6 t;have C:=i12_1_0_0 w G X aj;refine wp_region_held_drew (S:=fun w'=>Far (fun b=>b=(w.heap.size+1)∨b=(w.heap.size+2)) (aj) w') (by kernel_rfl) (Far.of (below_drew _)) (fun aw=>?_);refine takeA 0 (v:=?_) rfl ?_ ?_;rotate_left
  · (intro w V;replace J:=Far.c6z J V;go_simp;try rfl)
  (try simp only [pu]);refine takeA 1 (v:=?_) rfl ?_ ?_;rotate_left
  · (intro w V;replace A:=Far.c6z A V;go_simp;try rfl)
  (try simp only [pu]);refine callA 2 rfl fun K I=>?_;go_simp;refine I.out _ _ ?_ (fun a8=>?_);· exact (by refine Far.trans ?_ (Far.of (below_drew _));(iterate 6 (refine Far.setCell (p:=⟨(w.heap.size+1),_,none⟩) ?_ (.inl rfl) _));exact Far.refl _ _)
  clear I K;clear sc A J;generalize a:World.setCell _ ⟨(w.heap.size+1),5,none⟩ _=b6 at *;replace d:=fN6 d a;replace e:=bS6 e a;replace m:=bF6 m a;clear a;generalize a:(b6.drew)=bx at *;replace d:=fD d a;replace e:=bD e a;replace m:=bD m a;clear a;clear C;have xc:=kc6 m;refine callA 3 rfl fun K I=>?_;go_simp;refine I.out _ _ ?_ (fun ay=>?_);· exact (by (iterate 6 (refine Far.setCell (p:=⟨(w.heap.size+2),_,none⟩) ?_ (.inr rfl) _));exact a8)
  clear I K;refine wpAnyH_done (by kernel_rfl) ?_ _;clear xc;generalize a:World.setCell _ ⟨(w.heap.size+2),5,none⟩ _=bz;replace d:=fN6 d a;replace e:=bF6 e a;replace m:=bS6 m a;clear a
  go_wp2_with (fail)
  have z:=kc6 e;have y:=kc6 m;refine bodyPost_ret (v:=.tuple #[.agg #[.slice aL n cap,.int .i64 (ih:Int),.int .i64 (Y:Int),.bool true,.int .i64 (nowT ts i).l,.int .i64 (nowT ts i).c],.agg #[.int .i64 7,.string ⟨#[]⟩,.int .i64 0,.slice a2 m2 c2,.int .i64 (nowT ts i).l,.int .i64 (nowT ts i).c]]) (by clear d H e m q t;simp [results,Tryz.results66,go_sem,z,y]) rfl ?_;exact ⟨_,_,_,_,_,_,_,_,_,_,rfl,refBelow d.out⟩
 rw [if_neg an] at N;have bj:i<ts.length:=isT_lt ao (by decide)
 have ba:Y+1≤40:=by omega
 clear rc;refine (downR_ok2 _ (refTok d.out H.out) (by omega) bj).mono ?_;rintro _ w5 ⟨rfl,o⟩;replace e:=kB e o;replace m:=kB m o;replace P:=kB P o;replace q:=kB q o;replace d:=kF d o;have bn:=o.size;clear o;simp only [rdV]
 go_wp2_with (fail)
 by_cases ar:(nowT ts (i+1)).k≠2
 ·
  rw [if_pos ar] at N;cases N;refine (nameR_no (i:=i+1) _ (refTok d.out H.out) ar).mono ?_;rintro _ L ⟨rfl,o⟩;replace e:=kB e o;replace m:=kB m o;replace P:=kB P o;replace q:=kB q o;replace d:=kF d o;have bc:=o.size;clear o;simp only [rdV];have pc:=kc2 P;have A:=kc6 q;have C:=i012_01_0 w G L
  go_wp2_with (fail)
  clear pc A;generalize a:World.setCell _ ⟨(G.heap.size+1),5,none⟩ _=av;have D:=sizeS6 a;replace d:=fN6 d a;replace e:=bF6 e a;replace m:=bF6 m a;replace q:=bS6 q a;clear a;generalize a:World.alloc av _=w7;have E:=sizeA a;replace d:=fA d a;replace e:=bA e a;replace m:=bA m a;replace q:=bA q a;have B:=nB a (L.heap.size);clear a
  have bf:w7.heap.size=L.heap.size+1:=by omega
  clear D E;clear C;refine (isR_bad (i:=(i+1)) _ (refTok d.out H.out)).mono ?_;rintro _ Q ⟨rfl,o⟩;replace e:=kB e o;replace m:=kB m o;replace q:=kB q o;replace B:=kB B o;replace d:=kF d o;have bd:=o.size;clear o;have uc:=kc6 B;have C:=i012_01_0_0 w G L Q
  go_wp2_with (fail)
  clear uc;generalize a:World.alloc Q _=w9;have br:=sizeA a;replace d:=fA d a;replace e:=bA e a;replace m:=bA m a;replace q:=bA q a;replace B:=bA B a;have M:=nB a (Q.heap.size);clear a;clear C;refine (takeR_bad (i:=(i+1)) _ (refTok d.out H.out)).mono ?_;rintro _ ag ⟨rfl,o⟩;replace e:=kB e o;replace m:=kB m o;replace q:=kB q o;replace B:=kB B o;replace M:=kB M o;replace d:=kF d o;have b3:=o.size;clear o;simp only [rdV]
  go_wp2_with (fail)
  refine (exprR_bad (i:=(i+1)) _ (refTok d.out H.out)).mono ?_;rintro _ u ⟨iq,dq,kq,sq,nq,aq,mq,cq,uq,vq,rfl,o⟩;replace e:=kB e o;replace m:=kB m o;replace q:=kB q o;replace B:=kB B o;replace M:=kB M o;replace d:=kF d o;have az:=o.size;clear o;simp only [rdV];have uc:=kc6 B;have vc:=kc6 M;have C:=i012_01_0_0_0 w G L Q u;go_upto_region 14 with (fail);clear uc vc;generalize a:World.setCell _ ⟨L.heap.size,5,none⟩ _=ai;have D:=sizeS6 a;replace d:=fN6 d a;replace e:=bF6 e a;replace m:=bF6 m a;replace q:=bF6 q a;replace B:=bS6 B a;replace M:=bF6 M a;clear a;generalize a:World.setCell _ ⟨Q.heap.size,5,none⟩ _=T;have E:=sizeS6 a;replace d:=fN6 d a;replace e:=bF6 e a;replace m:=bF6 m a;replace q:=bF6 q a;replace B:=bF6 B a;replace M:=bS6 M a;clear a
  have bs:T.heap.size=u.heap.size:=by omega
  clear D E;clear C;have A:=kc6 q;have C:=i012_01_0_0_0 w G L Q T;go_upto_region 15 with (fail);clear A;generalize a:World.setCell T _ _=O;have bt:=sizeS1 a;replace d:=fN1 d a;replace e:=bF1 e a;replace m:=bF1 m a;replace q:=s6_0 q a;replace B:=bF1 B a;replace M:=bF1 M a;clear a;clear C;have A:=kc6 q;have vc:=kc6 M;have C:=i012_01_0_0_0 w G L Q O;have hZ:=i012_01_0_0_0 w G L Q u;go_upto_region 16 with (fail);clear A vc;generalize a:World.setCell O _ _=ad;have D:=sizeS1 a;replace d:=fN1 d a;replace e:=bF1 e a;replace m:=bF1 m a;replace q:=s6_3 q a;replace B:=bF1 B a;clear a;generalize a:World.alloc ad _=Z;have E:=sizeA a;replace d:=fA d a;replace e:=bA e a;replace m:=bA m a;replace q:=bA q a;replace B:=bA B a;have R:=nB a (u.heap.size);clear a
  have bp:Z.heap.size=u.heap.size+1:=by omega
  clear D E;clear C hZ;have uc:=kc6 B
  go_wp2_with (fail)
  clear uc;refine (takeR_bad (i:=iq) _ (refTok d.out H.out)).mono ?_;rintro _ b2 ⟨rfl,o⟩;replace e:=kB e o;replace m:=kB m o;replace q:=kB q o;replace R:=kB R o;replace d:=kF d o;have bl:=o.size;clear o;simp only [rdV]
  go_wp2_with (fail)
  refine (exprR_bad (i:=iq) _ (refTok d.out H.out)).mono ?_;rintro _ X ⟨ih,dh,kh,sh,nh,ah,mh,ch,uh,vh,rfl,o⟩;replace e:=kB e o;replace m:=kB m o;replace q:=kB q o;replace R:=kB R o;replace d:=kF d o;have bm:=o.size;clear o;simp only [rdV];go_upto_region 17 with (fail);generalize a:World.alloc X _=b4;have D:=sizeA a;replace d:=fA d a;replace e:=bA e a;replace m:=bA m a;replace q:=bA q a;replace R:=bA R a;have t:=nB a (X.heap.size);clear a;generalize a:World.alloc b4 _=ae;have E:=sizeA a;replace d:=fA d a;replace e:=bA e a;replace m:=bA m a;replace q:=bA q a;replace R:=bA R a;replace t:=bA t a;have a1:=nB a (X.heap.size+1);clear a
  have bq:ae.heap.size=X.heap.size+2:=by omega
  clear D E;have a5:Hid (OwnS (fun _=>True) 0 60 6 ae (.slice (some ⟨u.heap.size,0,none⟩) 1 1) _):=zz (OwnS.ofBo kq sq nq aq mq cq uq vq R.out (Nat.zero_le _));have A:=kc6 q;have ac:=kc6 a1
  go_wp2_with (first | (at_builtin;refine wpList_append_S2 (y:=.slice (some ⟨u.heap.size,0,none⟩) 1 1) (new:=[rawRow kh sh nh ah mh ch uh vh]) rfl _ _ rfl Tryz.underlying58 info_ex rfl (by decide) rfl rfl (a5.out.alloc _) (by first | (simp;done) | (simp [Ex.rows_eq];done) | (rw [Ex.rows_len];simp)) (rawRowS (W:=ae) a5.out kh sh nh ah mh ch uh vh trivial (Nat.le_refl _) (by omega)) (by first | (simp;done) | (simp [Ex.rows_eq];done) | (rw [Ex.rows_len];simp)) (by first | (simp;done) | (simp [Ex.rows_eq];done) | (rw [Ex.rows_len];simp)) (Nat.zero_le _) ?_;intro v9 af ho a3 a4;have a7:=zz ho;clear ho;have F:=zz a3;clear a3;have al:=zz a4;clear a4;refine Hid.out ?_))
  refine zz ?_;clear A ac;clear R
  have b1:ae.heap.size+1≤af.heap.size:=by have h:=F.out.size;rw [World.size_alloc] at h;exact h
  replace d:=gF u.heap.size d F.out rfl;replace e:=gB u.heap.size e F.out rfl;replace m:=gB u.heap.size m F.out rfl;replace q:=gB u.heap.size q F.out rfl;replace t:=gB u.heap.size t F.out rfl;obtain ⟨a2,m2,c2,rfl,aa,a9,ab⟩:=a7.out.form;clear aa a9 ab;have A:=kc6 q;have J:=kc6 t;have C:=i012_01_0_0_01_0 w G L Q X af
  go_wp2_with (fail)
  clear A J;generalize a:World.setCell af _ _=b5;have D:=sizeS1 a;replace d:=fN1 d a;replace e:=bF1 e a;replace m:=bF1 m a;replace q:=s6_3 q a;replace t:=bF1 t a;clear a;generalize a:World.setCell b5 _ _=aj;have E:=sizeS1 a;replace d:=fN1 d a;replace e:=bF1 e a;replace m:=bF1 m a;replace q:=bF1 q a;replace t:=s6_2 t a;clear a
  have bu:aj.heap.size=af.heap.size:=by omega
  clear D E;clear C;clear U P B M a1;have sc:=kc6 e;have A:=kc6 q;have J:=kc6 t;have C:=i12_1_0_0 w G X aj;refine wp_region_held_drew (S:=fun w'=>Far (fun b=>b=(w.heap.size+1)∨b=(w.heap.size+2)) (aj) w') (by kernel_rfl) (Far.of (below_drew _)) (fun aw=>?_);refine takeA 0 (v:=?_) rfl ?_ ?_;rotate_left
  · (intro w V;replace J:=Far.c6z J V;go_simp;try rfl)
  (try simp only [pu]);refine takeA 1 (v:=?_) rfl ?_ ?_;rotate_left
  · (intro w V;replace A:=Far.c6z A V;go_simp;try rfl)
  (try simp only [pu]);refine callA 2 rfl fun K I=>?_;go_simp;refine I.out _ _ ?_ (fun a8=>?_);· exact (by refine Far.trans ?_ (Far.of (below_drew _));(iterate 6 (refine Far.setCell (p:=⟨(w.heap.size+1),_,none⟩) ?_ (.inl rfl) _));exact Far.refl _ _)
  clear I K;clear sc A J;generalize a:World.setCell _ ⟨(w.heap.size+1),5,none⟩ _=b6 at *;replace d:=fN6 d a;replace e:=bS6 e a;replace m:=bF6 m a;clear a;generalize a:(b6.drew)=bx at *;replace d:=fD d a;replace e:=bD e a;replace m:=bD m a;clear a;clear C;have xc:=kc6 m;refine callA 3 rfl fun K I=>?_;go_simp;refine I.out _ _ ?_ (fun ay=>?_);· exact (by (iterate 6 (refine Far.setCell (p:=⟨(w.heap.size+2),_,none⟩) ?_ (.inr rfl) _));exact a8)
  clear I K;refine wpAnyH_done (by kernel_rfl) ?_ _;clear xc;generalize a:World.setCell _ ⟨(w.heap.size+2),5,none⟩ _=bz;replace d:=fN6 d a;replace e:=bF6 e a;replace m:=bS6 m a;clear a
  go_wp2_with (fail)
  have z:=kc6 e;have y:=kc6 m;refine bodyPost_ret (v:=.tuple #[.agg #[.slice aL n cap,.int .i64 (ih:Int),.int .i64 (Y:Int),.bool true,.int .i64 (nowT ts (i+1)).l,.int .i64 (nowT ts (i+1)).c],.agg #[.int .i64 7,.string ⟨#[]⟩,.int .i64 0,.slice a2 m2 c2,.int .i64 (nowT ts i).l,.int .i64 (nowT ts i).c]]) (by clear d H e m q t;simp [results,Tryz.results66,go_sem,z,y]) rfl ?_;exact ⟨_,_,_,_,_,_,_,_,_,_,rfl,refBelow d.out⟩
 rw [if_neg ar] at N;have bb:(nowT ts (i+1)).k=2:=Decidable.not_not.1 ar;clear ar;have b8:=zz bb;clear bb;refine (nameR_ok (i:=i+1) _ (refTok d.out H.out) b8.out (by decide)).mono ?_;rintro _ L ⟨rfl,o⟩;replace e:=kB e o;replace m:=kB m o;replace P:=kB P o;replace q:=kB q o;replace d:=kF d o;have bc:=o.size;clear o;simp only [rdV];have pc:=kc2 P;have A:=kc6 q;have C:=i012_01_0 w G L
 go_wp2_with (fail)
 clear pc A;generalize a:World.setCell _ ⟨(G.heap.size+1),5,none⟩ _=av;have D:=sizeS6 a;replace d:=fN6 d a;replace e:=bF6 e a;replace m:=bF6 m a;replace q:=bS6 q a;clear a;generalize a:World.alloc av _=w7;have E:=sizeA a;replace d:=fA d a;replace e:=bA e a;replace m:=bA m a;replace q:=bA q a;have B:=nB a (L.heap.size);clear a
 have bf:w7.heap.size=L.heap.size+1:=by omega
 clear D E;clear C
 cases hfr:isT ts (i+2) 5 wFree with
 | true=>
  simp only [hfr,if_true] at N;have c6:i+2<ts.length:=isT_lt hfr (by decide)
  have c7:(i:Int)+1+1+1≤9223372036854775807:=by have h1:=H.out.len;rw [tkRows_len] at h1;omega
  refine (isR_ok (i:=i+2) (s:=wFree) _ (refTok d.out H.out)).mono ?_;rintro _ Q ⟨rfl,o⟩;replace e:=kB e o;replace m:=kB m o;replace q:=kB q o;replace B:=kB B o;replace d:=kF d o;have bd:=o.size;clear o;rw [hfr];have uc:=kc6 B;have C:=i012_01_0_0 w G L Q
  go_wp2_with (fail)
  clear uc;generalize a:World.setCell Q _ _=w9;have cc:=sizeS1 a;replace d:=fN1 d a;replace e:=bF1 e a;replace m:=bF1 m a;replace q:=bF1 q a;clear a;clear C
  rcases ak:isT ts (i+3) 5 wIn
  ·
   first | simp only [ak,Bool.false_eq_true,if_false] at N | simp only [takeT,ak,Bool.false_eq_true,if_false] at N
   cases N;refine (takeR_no (i:=i+3) _ (refTok d.out H.out) ak).mono ?_;rintro _ ag ⟨rfl,o⟩;replace e:=kB e o;replace m:=kB m o;replace q:=kB q o;replace d:=kF d o;have b3:=o.size;clear o;simp only [rdV]
   go_wp2_with (fail)
   refine (exprR_bad (i:=i+3) _ (refTok d.out H.out)).mono ?_;rintro _ u ⟨ih,dh,kh,sh,nh,ah,mh,ch,uh,vh,rfl,o⟩;replace e:=kB e o;replace m:=kB m o;replace q:=kB q o;replace d:=kF d o;have az:=o.size;clear o;simp only [rdV];go_upto_region 17 with (fail);generalize a:World.alloc u _=ai;have D:=sizeA a;replace d:=fA d a;replace e:=bA e a;replace m:=bA m a;replace q:=bA q a;have t:=nB a (u.heap.size);clear a;generalize a:World.alloc ai _=T;have E:=sizeA a;replace d:=fA d a;replace e:=bA e a;replace m:=bA m a;replace q:=bA q a;replace t:=bA t a;have a1:=nB a (u.heap.size+1);clear a
   have be:T.heap.size=u.heap.size+2:=by omega
   clear D E;have a5:Hid (OwnS (fun _=>True) 0 60 6 T (.slice none 0 0) _):=zz (OwnS.nil _ _ _ _ _);have A:=kc6 q;have ac:=kc6 a1
   go_wp2_with (first | (at_builtin;refine wpList_append_S2 (y:=.slice none 0 0) (new:=[rawRow kh sh nh ah mh ch uh vh]) rfl _ _ rfl Tryz.underlying58 info_ex rfl (by decide) rfl rfl (a5.out.alloc _) (by first | (simp;done) | (simp [Ex.rows_eq];done) | (rw [Ex.rows_len];simp)) (rawRowS (W:=T) a5.out kh sh nh ah mh ch uh vh trivial (Nat.le_refl _) (by omega)) (by first | (simp;done) | (simp [Ex.rows_eq];done) | (rw [Ex.rows_len];simp)) (by first | (simp;done) | (simp [Ex.rows_eq];done) | (rw [Ex.rows_len];simp)) (Nat.zero_le _) ?_;intro v9 O ho a3 a4;have a7:=zz ho;clear ho;have F:=zz a3;clear a3;have al:=zz a4;clear a4;refine Hid.out ?_))
   refine zz ?_;clear A ac
   have b1:T.heap.size+1≤O.heap.size:=by have h:=F.out.size;rw [World.size_alloc] at h;exact h
   replace d:=rF d F.out rfl;replace e:=rB e F.out rfl;replace m:=rB m F.out rfl;replace q:=rB q F.out rfl;replace t:=rB t F.out rfl;obtain ⟨a2,m2,c2,rfl,aa,a9,ab⟩:=a7.out.form;clear aa a9 ab;have A:=kc6 q;have J:=kc6 t;have C:=i012_01_0_01_0 w G L u O
   go_wp2_with (fail)
   clear A J;generalize a:World.setCell O _ _=ad;have D:=sizeS1 a;replace d:=fN1 d a;replace e:=bF1 e a;replace m:=bF1 m a;replace q:=s6_3 q a;replace t:=bF1 t a;clear a;generalize a:World.setCell ad _ _=Z;have E:=sizeS1 a;replace d:=fN1 d a;replace e:=bF1 e a;replace m:=bF1 m a;replace q:=bF1 q a;replace t:=s6_2 t a;clear a
   have bg:Z.heap.size=O.heap.size:=by omega
   clear D E;clear C;clear U P B a1;have sc:=kc6 e;have A:=kc6 q;have J:=kc6 t;have C:=i12_1_0_0 w G u Z;refine wp_region_held_drew (S:=fun w'=>Far (fun b=>b=(w.heap.size+1)∨b=(w.heap.size+2)) (Z) w') (by kernel_rfl) (Far.of (below_drew _)) (fun aw=>?_);refine takeA 0 (v:=?_) rfl ?_ ?_;rotate_left
   · (intro w V;replace J:=Far.c6z J V;go_simp;try rfl)
   (try simp only [pu]);refine takeA 1 (v:=?_) rfl ?_ ?_;rotate_left
   · (intro w V;replace A:=Far.c6z A V;go_simp;try rfl)
   (try simp only [pu]);refine callA 2 rfl fun K I=>?_;go_simp;refine I.out _ _ ?_ (fun a8=>?_);· exact (by refine Far.trans ?_ (Far.of (below_drew _));(iterate 6 (refine Far.setCell (p:=⟨(w.heap.size+1),_,none⟩) ?_ (.inl rfl) _));exact Far.refl _ _)
   clear I K;clear sc A J;generalize a:World.setCell _ ⟨(w.heap.size+1),5,none⟩ _=au at *;replace d:=fN6 d a;replace e:=bS6 e a;replace m:=bF6 m a;clear a;generalize a:(au.drew)=b2 at *;replace d:=fD d a;replace e:=bD e a;replace m:=bD m a;clear a;clear C;have xc:=kc6 m;refine callA 3 rfl fun K I=>?_;go_simp;refine I.out _ _ ?_ (fun ay=>?_);· exact (by (iterate 6 (refine Far.setCell (p:=⟨(w.heap.size+2),_,none⟩) ?_ (.inr rfl) _));exact a8)
   clear I K;refine wpAnyH_done (by kernel_rfl) ?_ _;clear xc;generalize a:World.setCell _ ⟨(w.heap.size+2),5,none⟩ _=X;replace d:=fN6 d a;replace e:=bF6 e a;replace m:=bS6 m a;clear a
   go_wp2_with (fail)
   have z:=kc6 e;have y:=kc6 m;refine bodyPost_ret (v:=.tuple #[.agg #[.slice aL n cap,.int .i64 (ih:Int),.int .i64 (Y:Int),.bool true,.int .i64 (nowT ts (i+3)).l,.int .i64 (nowT ts (i+3)).c],.agg #[.int .i64 8,.string (nowT ts (i+1)).s,.int .i64 0,.slice a2 m2 c2,.int .i64 (nowT ts i).l,.int .i64 (nowT ts i).c]]) (by clear d H e m q t;simp [results,Tryz.results66,go_sem,z,y]) rfl ?_;exact ⟨_,_,_,_,_,_,_,_,_,_,rfl,refBelow d.out⟩
  first | simp only [ak,if_true] at N | simp only [takeT,ak,if_true] at N
  refine (takeR_ok (i:=i+3) _ (refTok d.out H.out) ak (by decide)).mono ?_;rintro _ ag ⟨rfl,o⟩;replace e:=kB e o;replace m:=kB m o;replace q:=kB q o;replace d:=kF d o;have b3:=o.size;clear o;simp only [rdV]
  go_wp2_with (fail)
  rcases hx:readE ts f .expr (i+4) (Y+1) with _ | ⟨x,j⟩ | ⟨l_,c_⟩
  · (rw [hx] at N;cases N)
  rotate_left
  ·
   rw [hx] at N
   first | simp only at N | simp only [andT] at N
   cases N;refine (HE (i+4) (Y+1) _ _ _ _ ba (refTok d.out H.out) hn hx).mono ?_;rintro _ u ⟨ih,dh,kh,sh,nh,ah,mh,ch,uh,vh,rfl,o⟩;replace e:=kB e o;replace m:=kB m o;replace q:=kB q o;replace d:=kF d o;have az:=o.size;clear o;simp only [rdV];go_upto_region 17 with (fail);generalize a:World.alloc u _=ai;have D:=sizeA a;replace d:=fA d a;replace e:=bA e a;replace m:=bA m a;replace q:=bA q a;have t:=nB a (u.heap.size);clear a;generalize a:World.alloc ai _=T;have E:=sizeA a;replace d:=fA d a;replace e:=bA e a;replace m:=bA m a;replace q:=bA q a;replace t:=bA t a;have a1:=nB a (u.heap.size+1);clear a
   have be:T.heap.size=u.heap.size+2:=by omega
   clear D E;have a5:Hid (OwnS (fun _=>True) 0 60 6 T (.slice none 0 0) _):=zz (OwnS.nil _ _ _ _ _);have A:=kc6 q;have ac:=kc6 a1
   go_wp2_with (first | (at_builtin;refine wpList_append_S2 (y:=.slice none 0 0) (new:=[rawRow kh sh nh ah mh ch uh vh]) rfl _ _ rfl Tryz.underlying58 info_ex rfl (by decide) rfl rfl (a5.out.alloc _) (by first | (simp;done) | (simp [Ex.rows_eq];done) | (rw [Ex.rows_len];simp)) (rawRowS (W:=T) a5.out kh sh nh ah mh ch uh vh trivial (Nat.le_refl _) (by omega)) (by first | (simp;done) | (simp [Ex.rows_eq];done) | (rw [Ex.rows_len];simp)) (by first | (simp;done) | (simp [Ex.rows_eq];done) | (rw [Ex.rows_len];simp)) (Nat.zero_le _) ?_;intro v9 O ho a3 a4;have a7:=zz ho;clear ho;have F:=zz a3;clear a3;have al:=zz a4;clear a4;refine Hid.out ?_))
   refine zz ?_;clear A ac
   have b1:T.heap.size+1≤O.heap.size:=by have h:=F.out.size;rw [World.size_alloc] at h;exact h
   replace d:=rF d F.out rfl;replace e:=rB e F.out rfl;replace m:=rB m F.out rfl;replace q:=rB q F.out rfl;replace t:=rB t F.out rfl;obtain ⟨a2,m2,c2,rfl,aa,a9,ab⟩:=a7.out.form;clear aa a9 ab;have A:=kc6 q;have J:=kc6 t;have C:=i012_01_0_01_0 w G L u O
   go_wp2_with (fail)
   clear A J;generalize a:World.setCell O _ _=ad;have D:=sizeS1 a;replace d:=fN1 d a;replace e:=bF1 e a;replace m:=bF1 m a;replace q:=s6_3 q a;replace t:=bF1 t a;clear a;generalize a:World.setCell ad _ _=Z;have E:=sizeS1 a;replace d:=fN1 d a;replace e:=bF1 e a;replace m:=bF1 m a;replace q:=bF1 q a;replace t:=s6_2 t a;clear a
   have bg:Z.heap.size=O.heap.size:=by omega
   clear D E;clear C;clear U P B a1;have sc:=kc6 e;have A:=kc6 q;have J:=kc6 t;have C:=i12_1_0_0 w G u Z;refine wp_region_held_drew (S:=fun w'=>Far (fun b=>b=(w.heap.size+1)∨b=(w.heap.size+2)) (Z) w') (by kernel_rfl) (Far.of (below_drew _)) (fun aw=>?_);refine takeA 0 (v:=?_) rfl ?_ ?_;rotate_left
   · (intro w V;replace J:=Far.c6z J V;go_simp;try rfl)
   (try simp only [pu]);refine takeA 1 (v:=?_) rfl ?_ ?_;rotate_left
   · (intro w V;replace A:=Far.c6z A V;go_simp;try rfl)
   (try simp only [pu]);refine callA 2 rfl fun K I=>?_;go_simp;refine I.out _ _ ?_ (fun a8=>?_);· exact (by refine Far.trans ?_ (Far.of (below_drew _));(iterate 6 (refine Far.setCell (p:=⟨(w.heap.size+1),_,none⟩) ?_ (.inl rfl) _));exact Far.refl _ _)
   clear I K;clear sc A J;generalize a:World.setCell _ ⟨(w.heap.size+1),5,none⟩ _=au at *;replace d:=fN6 d a;replace e:=bS6 e a;replace m:=bF6 m a;clear a;generalize a:(au.drew)=b2 at *;replace d:=fD d a;replace e:=bD e a;replace m:=bD m a;clear a;clear C;have xc:=kc6 m;refine callA 3 rfl fun K I=>?_;go_simp;refine I.out _ _ ?_ (fun ay=>?_);· exact (by (iterate 6 (refine Far.setCell (p:=⟨(w.heap.size+2),_,none⟩) ?_ (.inr rfl) _));exact a8)
   clear I K;refine wpAnyH_done (by kernel_rfl) ?_ _;clear xc;generalize a:World.setCell _ ⟨(w.heap.size+2),5,none⟩ _=X;replace d:=fN6 d a;replace e:=bF6 e a;replace m:=bS6 m a;clear a
   go_wp2_with (fail)
   have z:=kc6 e;have y:=kc6 m;refine bodyPost_ret (v:=.tuple #[.agg #[.slice aL n cap,.int .i64 (ih:Int),.int .i64 (Y:Int),.bool true,.int .i64 l_,.int .i64 c_],.agg #[.int .i64 8,.string (nowT ts (i+1)).s,.int .i64 0,.slice a2 m2 c2,.int .i64 (nowT ts i).l,.int .i64 (nowT ts i).c]]) (by clear d H e m q t;simp [results,Tryz.results66,go_sem,z,y]) rfl ?_;exact ⟨_,_,_,_,_,_,_,_,_,_,rfl,refBelow d.out⟩
  rw [hx] at N
  first | simp only at N | simp only [andT] at N
  refine (HE (i+4) (Y+1) _ _ _ _ ba (refTok d.out H.out) hn hx).mono ?_;rintro _ u ⟨ax,mx,cx,rfl,o,hm⟩;replace e:=kB e o;replace m:=kB m o;replace q:=kB q o;replace d:=kF d o;have az:=o.size;clear o;have b7:=zz hm;clear hm;simp only [rdV,exV];have am:Hid (Mem (NwS (Av ag.heap.size u.heap.size u.heap.size) u.heap.size) u _ _):=zz (memS_av (g:=u.heap.size) (k:=u.heap.size) b7.out (by omega) (by omega) (by omega));clear b7;go_upto_region 17 with (fail);generalize a:World.alloc u _=ai;have D:=sizeA a;replace d:=fA d a;replace e:=bA e a;replace m:=bA m a;replace q:=bA q a;replace am:=yA am a;have t:=nB a (u.heap.size);clear a;generalize a:World.alloc ai _=T;have E:=sizeA a;replace d:=fA d a;replace e:=bA e a;replace m:=bA m a;replace q:=bA q a;replace t:=bA t a;replace am:=yA am a;have a1:=nB a (u.heap.size+1);clear a
  have be:T.heap.size=u.heap.size+2:=by omega
  clear D E;have a5:Hid (OwnS (Av ag.heap.size u.heap.size u.heap.size) 0 60 6 T (.slice none 0 0) _):=zz (OwnS.nil _ _ _ _ _);have A:=kc6 q;have ac:=kc6 a1
  go_wp2_with (first | (at_builtin;refine wpList_append_S2 (y:=.slice none 0 0) (new:=Ex.rows [x]) rfl _ _ rfl Tryz.underlying58 info_ex rfl (by decide) rfl rfl (a5.out.alloc _) (by first | (simp;done) | (simp [Ex.rows_eq];done) | (rw [Ex.rows_len];simp)) (newRowS2 (fun b h1=>⟨by have :=h1.1;omega,h1.2.1,h1.2.2⟩) ⟨by omega,by omega,by omega⟩ (fun k hk=>by cases hk) am.out (by omega)) (by first | (simp;done) | (simp [Ex.rows_eq];done) | (rw [Ex.rows_len];simp)) (by first | (simp;done) | (simp [Ex.rows_eq];done) | (rw [Ex.rows_len];simp)) (Nat.zero_le _) ?_;intro v9 O ho a3 a4;have a7:=zz ho;clear ho;have F:=zz a3;clear a3;have al:=zz a4;clear a4;refine Hid.out ?_))
  refine zz ?_;clear A ac
  have b1:T.heap.size+1≤O.heap.size:=by have h:=F.out.size;rw [World.size_alloc] at h;exact h
  replace d:=rF d F.out rfl;replace e:=rB e F.out rfl;replace m:=rB m F.out rfl;replace q:=rB q F.out rfl;replace t:=rB t F.out rfl
  have b9:Hid (OwnS (Av ag.heap.size u.heap.size u.heap.size) 0 60 6 O v9 (Ex.rows [x])):=zz (by have h:=a7.out;simpa [Ex.rows_eq] using h)
  have a6:Hid (Mem (NwS (Av ag.heap.size u.heap.size u.heap.size) O.heap.size) O (.s 6 (Ex.rows [x])) v9):=zz (OwnS.sameO b9.out fun k hk=>by rcases al.out with h | h;(rw [h] at hk;cases hk);(have h2:=h k hk;rw [World.size_alloc] at h2;exact ⟨by omega,by omega,by omega⟩))
  obtain ⟨a2,m2,c2,rfl,aa,a9,ab⟩:=b9.out.form;clear aa a9 ab;have A:=kc6 q;have J:=kc6 t;have C:=i012_01_0_01_0 w G L u O
  go_wp2_with (fail)
  clear A J;generalize a:World.setCell O _ _=ad;have D:=sizeS1 a;replace d:=fN1 d a;replace e:=bF1 e a;replace m:=bF1 m a;replace q:=s6_3 q a;replace t:=bF1 t a;replace a6:=yS1 a6 a;clear a;generalize a:World.setCell ad _ _=Z;have E:=sizeS1 a;replace d:=fN1 d a;replace e:=bF1 e a;replace m:=bF1 m a;replace q:=bF1 q a;replace t:=s6_2 t a;replace a6:=yS1 a6 a;clear a
  have bg:Z.heap.size=O.heap.size:=by omega
  clear D E;clear C;clear U P B a1;have sc:=kc6 e;have A:=kc6 q;have J:=kc6 t;have C:=i12_1_0_0 w G u Z;refine wp_region_held_drew (S:=fun w'=>Far (fun b=>b=(w.heap.size+1)∨b=(w.heap.size+2)) (Z) w') (by kernel_rfl) (Far.of (below_drew _)) (fun aw=>?_);refine takeA 0 (v:=?_) rfl ?_ ?_;rotate_left
  · (intro w V;replace J:=Far.c6z J V;go_simp;try rfl)
  (try simp only [pu]);refine takeA 1 (v:=?_) rfl ?_ ?_;rotate_left
  · (intro w V;replace A:=Far.c6z A V;go_simp;try rfl)
  (try simp only [pu]);refine callA 2 rfl fun K I=>?_;go_simp;refine I.out _ _ ?_ (fun a8=>?_);· exact (by refine Far.trans ?_ (Far.of (below_drew _));(iterate 6 (refine Far.setCell (p:=⟨(w.heap.size+1),_,none⟩) ?_ (.inl rfl) _));exact Far.refl _ _)
  clear I K;clear sc A J;generalize a:World.setCell _ ⟨(w.heap.size+1),5,none⟩ _=au at *;replace d:=fN6 d a;replace e:=bS6 e a;replace m:=bF6 m a;replace a6:=yS6 a6 a;clear a;generalize a:(au.drew)=b2 at *;replace d:=fD d a;replace e:=bD e a;replace m:=bD m a;replace a6:=yD a6 a;clear a;clear C;have xc:=kc6 m;refine callA 3 rfl fun K I=>?_;go_simp;refine I.out _ _ ?_ (fun ay=>?_);· exact (by (iterate 6 (refine Far.setCell (p:=⟨(w.heap.size+2),_,none⟩) ?_ (.inr rfl) _));exact a8)
  clear I K;refine wpAnyH_done (by kernel_rfl) ?_ _;clear xc;generalize a:World.setCell _ ⟨(w.heap.size+2),5,none⟩ _=X;replace d:=fN6 d a;replace e:=bF6 e a;replace m:=bS6 m a;replace a6:=yS6 a6 a;clear a;cases N
  go_wp2_with (fail)
  have z:=kc6 e;have y:=kc6 m;refine bodyPost_ret (v:=.tuple #[.agg #[.slice aL n cap,.int .i64 (j:Int),.int .i64 (Y:Int),.bool false,.int .i64 a0,.int .i64 b0],.agg #[.int .i64 8,.string (nowT ts (i+1)).s,.int .i64 0,.slice a2 m2 c2,.int .i64 (nowT ts i).l,.int .i64 (nowT ts i).c]]) (by clear d H e m q t a6;simp [results,Tryz.results66,go_sem,z,y]) rfl ?_;exact ⟨_,_,_,rfl,refBelow d.out,(av_nw a6.out (by omega))⟩
 | false=>
  simp only [hfr,Bool.false_eq_true,if_false] at N
  exact bh.out.elim (fun h=>absurd h an) fun h=>h.elim (fun h=>absurd b8.out h) fun h=>by rw [hfr] at h;cases h
end
end
end Go.Proofs.YtcoiagfeoonpbaaGreat
