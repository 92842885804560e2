/-
 The document's reader's Expr: an Expr. Under what itself and rank do with less fuel.
-/
import Derived.Test.YtcoiagfeoonpbaaGreatMp18
import Derived.Test.YtcoiagfeoonpbaaGreatMp15
import Derived.Test.YtcoiagfeoonpbaaGreatMp19
set_option maxHeartbeats 20000000
set_option maxRecDepth 100000
namespace Go.Proofs.YtcoiagfeoonpbaaGreat
section
open Go.RowKit
section
variable {ts:List Tk} {aL:Option Addr} {n cap:Nat}
attribute [local go_sem] tk_pos tk_text tk_kind0
theorem exprR_C {f i a1:Nat} {r:Rd1} {a0 b0:Int} (F:readE ts (f+1) .expr i a1=some r) (aw:isT ts i 5 wLet=true) (bi: ¬a1=40) (bk: ¬(nowT ts (i+1)).k≠2) (bj:isT ts (i+2) 5 wFree=false) (w:World) (hd:a1≤40) (h:MemW w (.s 5 (tkRows ts)) (.slice aL n cap)) (hn:n≤1048576) (HE:ReadsR ts aL n cap 66 .expr f) (_ca:ReadsK ts aL n cap f):
  Calls Tryz.prog 66 #[rdV aL n cap (i:Int) (a1:Int) false a0 b0] w (AnsR aL n cap r a1 a0 b0 w):=by
 have H:=zz h;clear h;rw [readE] at F
 try simp only at F
 have bv:=zz aw;have bs:=zz bi;have bu:=zz bk;have bt:=zz bj;clear aw bi bk bj;have d:Hid (FarB w.heap.size w.heap.size w w):=zz (FarB.refl _ _ _);simp only [rdV];go_enter Tryz.func66,Tryz.ntmps66
 go_wp2_with (fail)
 generalize a:World.alloc w _=c6;have I:=sizeA a;replace d:=fA d a;have X:=nB a (w.heap.size);clear a;generalize a:World.alloc c6 _=c7;have J:=sizeA a;replace d:=fA d a;replace X:=bA X a;have e:=nB a (w.heap.size+1);clear a;generalize a:World.alloc c7 _=w1;have c0:=sizeA a;replace d:=fA d a;replace X:=bA X a;replace e:=bA e a;have m:=nB a (w.heap.size+2);clear a
 have cg:w1.heap.size=w.heap.size+3:=by omega
 clear I J c0;refine (nowR_any _ (refTok d.out H.out)).mono ?_;rintro _ M ⟨rfl,o⟩;replace X:=kB X o;replace e:=kB e o;replace m:=kB m o;replace d:=kF d o;have cb:=o.size;clear o;simp only [tkV];have rc:=kc6 X;have E:=i012_0 w M
 go_wp2_with (fail)
 clear rc;generalize a:World.alloc M _=c8;have I:=sizeA a;replace d:=fA d a;replace X:=bA X a;replace e:=bA e a;replace m:=bA m a;have a3:=nB a (M.heap.size);clear a;generalize a:World.alloc c8 _=w3;have J:=sizeA a;replace d:=fA d a;replace X:=bA X a;replace e:=bA e a;replace m:=bA m a;replace a3:=bA a3 a;have q:=nB a (M.heap.size+1);clear a
 have ci:w3.heap.size=M.heap.size+2:=by omega
 clear I J;clear E
 rcases av:isT ts i 5 wLet
 ·
  simp only [av,Bool.false_eq_true,if_false] at F;have aw:=bv.out;rw [av] at aw;cases aw
 simp only [av,if_true] at F;refine (isR_ok (s:=wLet) _ (refTok d.out H.out)).mono ?_;rintro _ w4 ⟨rfl,o⟩;replace X:=kB X o;replace e:=kB e o;replace m:=kB m o;replace a3:=kB a3 o;replace q:=kB q o;replace d:=kF d o;have cc:=o.size;clear o;rw [av];have rc:=kc6 X
 go_wp2_with (fail)
 by_cases bd:a1=40
 ·
  rw [if_pos bd] at F;cases F;exact absurd bd bs.out
 rw [if_neg bd] at F;have bx:i<ts.length:=isT_lt av (by decide)
 have b5:a1+1≤40:=by omega
 clear rc;refine (downR_ok2 _ (refTok d.out H.out) (by omega) bx).mono ?_;rintro _ w5 ⟨rfl,o⟩;replace e:=kB e o;replace m:=kB m o;replace a3:=kB a3 o;replace q:=kB q o;replace d:=kF d o;have cd:=o.size;clear o;simp only [rdV]
 go_wp2_with (fail)
 by_cases az:(nowT ts (i+1)).k≠2
 ·
  rw [if_pos az] at F;exact absurd az bu.out
 rw [if_neg az] at F;have bl:(nowT ts (i+1)).k=2:=Decidable.not_not.1 az;clear az;have bw:=zz bl;clear bl;refine (nameR_ok (i:=i+1) _ (refTok d.out H.out) bw.out (by decide)).mono ?_;rintro _ R ⟨rfl,o⟩;replace e:=kB e o;replace m:=kB m o;replace a3:=kB a3 o;replace q:=kB q o;replace d:=kF d o;have ce:=o.size;clear o;simp only [rdV];have pc:=kc2 a3;have C:=kc6 q;have E:=i012_01_0 w M R
 go_wp2_with (fail)
 clear pc C;generalize a:World.setCell _ ⟨(M.heap.size+1),5,none⟩ _=c9;have I:=sizeS6 a;replace d:=fN6 d a;replace e:=bF6 e a;replace m:=bF6 m a;replace q:=bS6 q a;clear a;generalize a:World.alloc c9 _=w7;have J:=sizeA a;replace d:=fA d a;replace e:=bA e a;replace m:=bA m a;replace q:=bA q a;have u:=nB a (R.heap.size);clear a
 have cj:w7.heap.size=R.heap.size+1:=by omega
 clear I J;clear E
 cases hfr:isT ts (i+2) 5 wFree with
 | true=>
  simp only [hfr,if_true] at F;have h9:=bt.out;rw [hfr] at h9;cases h9
 | false=>
  simp only [hfr,Bool.false_eq_true,if_false] at F;refine (isR_ok (i:=i+2) (s:=wFree) _ (refTok d.out H.out)).mono ?_;rintro _ U ⟨rfl,o⟩;replace e:=kB e o;replace m:=kB m o;replace q:=kB q o;replace u:=kB u o;replace d:=kF d o;have cf:=o.size;clear o;rw [hfr];have uc:=kc6 u;have E:=i012_01_0_0 w M R U
  go_wp2_with (fail)
  clear uc;generalize a:World.alloc U _=w9;have ck:=sizeA a;replace d:=fA d a;replace e:=bA e a;replace m:=bA m a;replace q:=bA q a;replace u:=bA u a;have G:=nB a (U.heap.size);clear a;clear E
  rcases ao:isT ts (i+2) 6 wEq
  ·
   first | simp only [ao,Bool.false_eq_true,if_false] at F | simp only [takeT,ao,Bool.false_eq_true,if_false] at F
   cases F;refine (takeR_no (i:=i+2) _ (refTok d.out H.out) ao).mono ?_;rintro _ al ⟨rfl,o⟩;replace e:=kB e o;replace m:=kB m o;replace q:=kB q o;replace u:=kB u o;replace G:=kB G o;replace d:=kF d o;have c1:=o.size;clear o;simp only [rdV]
   go_wp2_with (fail)
   refine (exprR_bad (i:=i+2) _ (refTok d.out H.out)).mono ?_;rintro _ B ⟨iq,dq,kq,sq,nq,aq,mq,cq,uq,vq,rfl,o⟩;replace e:=kB e o;replace m:=kB m o;replace q:=kB q o;replace u:=kB u o;replace G:=kB G o;replace d:=kF d o;have bm:=o.size;clear o;simp only [rdV];have uc:=kc6 u;have vc:=kc6 G;have E:=i012_01_0_0_0 w M R U B;go_upto_region 14 with (fail);clear uc vc;generalize a:World.setCell _ ⟨R.heap.size,5,none⟩ _=br;have I:=sizeS6 a;replace d:=fN6 d a;replace e:=bF6 e a;replace m:=bF6 m a;replace q:=bF6 q a;replace u:=bS6 u a;replace G:=bF6 G a;clear a;generalize a:World.setCell _ ⟨U.heap.size,5,none⟩ _=a8;have J:=sizeS6 a;replace d:=fN6 d a;replace e:=bF6 e a;replace m:=bF6 m a;replace q:=bF6 q a;replace u:=bF6 u a;replace G:=bS6 G a;clear a
   have bp:a8.heap.size=B.heap.size:=by omega
   clear I J;clear E;have C:=kc6 q;have E:=i012_01_0_0_0 w M R U a8;go_upto_region 15 with (fail);clear C;generalize a:World.setCell a8 _ _=ak;have bq:=sizeS1 a;replace d:=fN1 d a;replace e:=bF1 e a;replace m:=bF1 m a;replace q:=s6_0 q a;replace u:=bF1 u a;replace G:=bF1 G a;clear a;clear E;have C:=kc6 q;have vc:=kc6 G;have E:=i012_01_0_0_0 w M R U ak;have hZ:=i012_01_0_0_0 w M R U B;go_upto_region 16 with (fail);clear C vc;generalize a:World.setCell ak _ _=b2;have I:=sizeS1 a;replace d:=fN1 d a;replace e:=bF1 e a;replace m:=bF1 m a;replace q:=s6_3 q a;replace u:=bF1 u a;clear a;generalize a:World.alloc b2 _=b1;have J:=sizeA a;replace d:=fA d a;replace e:=bA e a;replace m:=bA m a;replace q:=bA q a;replace u:=bA u a;have V:=nB a (B.heap.size);clear a
   have bn:b1.heap.size=B.heap.size+1:=by omega
   clear I J;clear E hZ;have uc:=kc6 u
   go_wp2_with (fail)
   clear uc;refine (takeR_bad (i:=iq) _ (refTok d.out H.out)).mono ?_;rintro _ ba ⟨rfl,o⟩;replace e:=kB e o;replace m:=kB m o;replace q:=kB q o;replace V:=kB V o;replace d:=kF d o;have be:=o.size;clear o;simp only [rdV]
   go_wp2_with (fail)
   refine (exprR_bad (i:=iq) _ (refTok d.out H.out)).mono ?_;rintro _ D ⟨ih,dh,kh,sh,nh,ah,mh,ch,uh,vh,rfl,o⟩;replace e:=kB e o;replace m:=kB m o;replace q:=kB q o;replace V:=kB V o;replace d:=kF d o;have b6:=o.size;clear o;simp only [rdV];go_upto_region 17 with (fail);generalize a:World.alloc D _=ag;have I:=sizeA a;replace d:=fA d a;replace e:=bA e a;replace m:=bA m a;replace q:=bA q a;replace V:=bA V a;have t:=nB a (D.heap.size);clear a;generalize a:World.alloc ag _=T;have J:=sizeA a;replace d:=fA d a;replace e:=bA e a;replace m:=bA m a;replace q:=bA q a;replace V:=bA V a;replace t:=bA t a;have a4:=nB a (D.heap.size+1);clear a
   have b8:T.heap.size=D.heap.size+2:=by omega
   clear I J;have a7:Hid (OwnS (fun _=>True) 0 60 6 T (.slice (some ⟨B.heap.size,0,none⟩) 1 1) _):=zz (OwnS.ofBo kq sq nq aq mq cq uq vq V.out (Nat.zero_le _));have C:=kc6 q;have af:=kc6 a4
   go_wp2_with (first | (at_builtin;refine wpList_append_S2 (y:=.slice (some ⟨B.heap.size,0,none⟩) 1 1) (new:=[rawRow kh sh nh ah mh ch uh vh]) rfl _ _ rfl Tryz.underlying58 info_ex rfl (by decide) rfl rfl (a7.out.alloc _) (by first | (simp;done) | (simp [Ex.rows_eq];done) | (rw [Ex.rows_len];simp)) (rawRowS (W:=T) a7.out kh sh nh ah mh ch uh vh trivial (Nat.le_refl _) (by omega)) (by first | (simp;done) | (simp [Ex.rows_eq];done) | (rw [Ex.rows_len];simp)) (by first | (simp;done) | (simp [Ex.rows_eq];done) | (rw [Ex.rows_len];simp)) (Nat.zero_le _) ?_;intro v9 Q ho a5 a6;have aa:=zz ho;clear ho;have L:=zz a5;clear a5;have ar:=zz a6;clear a6;refine Hid.out ?_))
   refine zz ?_;clear C af;clear V
   have b7:T.heap.size+1≤Q.heap.size:=by have h:=L.out.size;rw [World.size_alloc] at h;exact h
   replace d:=gF B.heap.size d L.out rfl;replace e:=gB B.heap.size e L.out rfl;replace m:=gB B.heap.size m L.out rfl;replace q:=gB B.heap.size q L.out rfl;replace t:=gB B.heap.size t L.out rfl;obtain ⟨a2,m2,c2,rfl,ad,ac,ae⟩:=aa.out.form;clear ad ac ae;have C:=kc6 q;have O:=kc6 t;have E:=i012_01_0_0_01_0 w M R U D Q
   go_wp2_with (fail)
   clear C O;generalize a:World.setCell Q _ _=ai;have I:=sizeS1 a;replace d:=fN1 d a;replace e:=bF1 e a;replace m:=bF1 m a;replace q:=s6_3 q a;replace t:=bF1 t a;clear a;generalize a:World.setCell ai _ _=Z;have J:=sizeS1 a;replace d:=fN1 d a;replace e:=bF1 e a;replace m:=bF1 m a;replace q:=bF1 q a;replace t:=s6_2 t a;clear a
   have b9:Z.heap.size=Q.heap.size:=by omega
   clear I J;clear E;clear X a3 u G a4;have sc:=kc6 e;have C:=kc6 q;have O:=kc6 t;have E:=i12_1_0_0 w M D Z;refine wp_region_held_drew (S:=fun w'=>Far (fun b=>b=(w.heap.size+1)∨b=(w.heap.size+2)) (Z) w') (by kernel_rfl) (Far.of (below_drew _)) (fun b3=>?_);refine takeA 0 (v:=?_) rfl ?_ ?_;rotate_left
   · (intro w Y;replace O:=Far.c6z O Y;go_simp;try rfl)
   (try simp only [pu]);refine takeA 1 (v:=?_) rfl ?_ ?_;rotate_left
   · (intro w Y;replace C:=Far.c6z C Y;go_simp;try rfl)
   (try simp only [pu]);refine callA 2 rfl fun K N=>?_;go_simp;refine N.out _ _ ?_ (fun ab=>?_);· exact (by refine Far.trans ?_ (Far.of (below_drew _));(iterate 6 (refine Far.setCell (p:=⟨(w.heap.size+1),_,none⟩) ?_ (.inl rfl) _));exact Far.refl _ _)
   clear N K;clear sc C O;generalize a:World.setCell _ ⟨(w.heap.size+1),5,none⟩ _=aj at *;replace d:=fN6 d a;replace e:=bS6 e a;replace m:=bF6 m a;clear a;generalize a:(aj.drew)=bb at *;replace d:=fD d a;replace e:=bD e a;replace m:=bD m a;clear a;clear E;have xc:=kc6 m;refine callA 3 rfl fun K N=>?_;go_simp;refine N.out _ _ ?_ (fun b4=>?_);· exact (by (iterate 6 (refine Far.setCell (p:=⟨(w.heap.size+2),_,none⟩) ?_ (.inr rfl) _));exact ab)
   clear N K;refine wpAnyH_done (by kernel_rfl) ?_ _;clear xc;generalize a:World.setCell _ ⟨(w.heap.size+2),5,none⟩ _=bc;replace d:=fN6 d a;replace e:=bF6 e a;replace m:=bS6 m a;clear a
   go_wp2_with (fail)
   have z:=kc6 e;have y:=kc6 m;refine bodyPost_ret (v:=.tuple #[.agg #[.slice aL n cap,.int .i64 (ih:Int),.int .i64 (a1:Int),.bool true,.int .i64 (nowT ts (i+2)).l,.int .i64 (nowT ts (i+2)).c],.agg #[.int .i64 7,.string (nowT ts (i+1)).s,.int .i64 0,.slice a2 m2 c2,.int .i64 (nowT ts i).l,.int .i64 (nowT ts i).c]]) (by clear d H e m q t;simp [results,Tryz.results66,go_sem,z,y]) rfl ?_;exact ⟨_,_,_,_,_,_,_,_,_,_,rfl,refBelow d.out⟩
  first | simp only [ao,if_true] at F | simp only [takeT,ao,if_true] at F
  refine (takeR_ok (i:=i+2) _ (refTok d.out H.out) ao (by decide)).mono ?_;rintro _ al ⟨rfl,o⟩;replace e:=kB e o;replace m:=kB m o;replace q:=kB q o;replace u:=kB u o;replace G:=kB G o;replace d:=kF d o;have c1:=o.size;clear o;simp only [rdV]
  go_wp2_with (fail)
  rcases hx:readE ts f .expr (i+3) (a1+1) with _ | ⟨x,j⟩ | ⟨l_,c_⟩
  · (rw [hx] at F;cases F)
  rotate_left
  ·
   rw [hx] at F
   first | simp only at F | simp only [andT] at F
   cases F;refine (HE (i+3) (a1+1) _ _ _ _ b5 (refTok d.out H.out) hn hx).mono ?_;rintro _ B ⟨iq,dq,kq,sq,nq,aq,mq,cq,uq,vq,rfl,o⟩;replace e:=kB e o;replace m:=kB m o;replace q:=kB q o;replace u:=kB u o;replace G:=kB G o;replace d:=kF d o;have bm:=o.size;clear o;simp only [rdV];have uc:=kc6 u;have vc:=kc6 G;have E:=i012_01_0_0_0 w M R U B;go_upto_region 14 with (fail);clear uc vc;generalize a:World.setCell _ ⟨R.heap.size,5,none⟩ _=br;have I:=sizeS6 a;replace d:=fN6 d a;replace e:=bF6 e a;replace m:=bF6 m a;replace q:=bF6 q a;replace u:=bS6 u a;replace G:=bF6 G a;clear a;generalize a:World.setCell _ ⟨U.heap.size,5,none⟩ _=a8;have J:=sizeS6 a;replace d:=fN6 d a;replace e:=bF6 e a;replace m:=bF6 m a;replace q:=bF6 q a;replace u:=bF6 u a;replace G:=bS6 G a;clear a
   have bp:a8.heap.size=B.heap.size:=by omega
   clear I J;clear E;have C:=kc6 q;have E:=i012_01_0_0_0 w M R U a8;go_upto_region 15 with (fail);clear C;generalize a:World.setCell a8 _ _=ak;have bq:=sizeS1 a;replace d:=fN1 d a;replace e:=bF1 e a;replace m:=bF1 m a;replace q:=s6_0 q a;replace u:=bF1 u a;replace G:=bF1 G a;clear a;clear E;have C:=kc6 q;have vc:=kc6 G;have E:=i012_01_0_0_0 w M R U ak;have hZ:=i012_01_0_0_0 w M R U B;go_upto_region 16 with (fail);clear C vc;generalize a:World.setCell ak _ _=b2;have I:=sizeS1 a;replace d:=fN1 d a;replace e:=bF1 e a;replace m:=bF1 m a;replace q:=s6_3 q a;replace u:=bF1 u a;clear a;generalize a:World.alloc b2 _=b1;have J:=sizeA a;replace d:=fA d a;replace e:=bA e a;replace m:=bA m a;replace q:=bA q a;replace u:=bA u a;have V:=nB a (B.heap.size);clear a
   have bn:b1.heap.size=B.heap.size+1:=by omega
   clear I J;clear E hZ;have uc:=kc6 u
   go_wp2_with (fail)
   clear uc;refine (takeR_bad (i:=iq) _ (refTok d.out H.out)).mono ?_;rintro _ ba ⟨rfl,o⟩;replace e:=kB e o;replace m:=kB m o;replace q:=kB q o;replace V:=kB V o;replace d:=kF d o;have be:=o.size;clear o;simp only [rdV]
   go_wp2_with (fail)
   refine (exprR_bad (i:=iq) _ (refTok d.out H.out)).mono ?_;rintro _ D ⟨ih,dh,kh,sh,nh,ah,mh,ch,uh,vh,rfl,o⟩;replace e:=kB e o;replace m:=kB m o;replace q:=kB q o;replace V:=kB V o;replace d:=kF d o;have b6:=o.size;clear o;simp only [rdV];go_upto_region 17 with (fail);generalize a:World.alloc D _=ag;have I:=sizeA a;replace d:=fA d a;replace e:=bA e a;replace m:=bA m a;replace q:=bA q a;replace V:=bA V a;have t:=nB a (D.heap.size);clear a;generalize a:World.alloc ag _=T;have J:=sizeA a;replace d:=fA d a;replace e:=bA e a;replace m:=bA m a;replace q:=bA q a;replace V:=bA V a;replace t:=bA t a;have a4:=nB a (D.heap.size+1);clear a
   have b8:T.heap.size=D.heap.size+2:=by omega
   clear I J;have a7:Hid (OwnS (fun _=>True) 0 60 6 T (.slice (some ⟨B.heap.size,0,none⟩) 1 1) _):=zz (OwnS.ofBo kq sq nq aq mq cq uq vq V.out (Nat.zero_le _));have C:=kc6 q;have af:=kc6 a4
   go_wp2_with (first | (at_builtin;refine wpList_append_S2 (y:=.slice (some ⟨B.heap.size,0,none⟩) 1 1) (new:=[rawRow kh sh nh ah mh ch uh vh]) rfl _ _ rfl Tryz.underlying58 info_ex rfl (by decide) rfl rfl (a7.out.alloc _) (by first | (simp;done) | (simp [Ex.rows_eq];done) | (rw [Ex.rows_len];simp)) (rawRowS (W:=T) a7.out kh sh nh ah mh ch uh vh trivial (Nat.le_refl _) (by omega)) (by first | (simp;done) | (simp [Ex.rows_eq];done) | (rw [Ex.rows_len];simp)) (by first | (simp;done) | (simp [Ex.rows_eq];done) | (rw [Ex.rows_len];simp)) (Nat.zero_le _) ?_;intro v9 Q ho a5 a6;have aa:=zz ho;clear ho;have L:=zz a5;clear a5;have ar:=zz a6;clear a6;refine Hid.out ?_))
   refine zz ?_;clear C af;clear V
   have b7:T.heap.size+1≤Q.heap.size:=by have h:=L.out.size;rw [World.size_alloc] at h;exact h
   replace d:=gF B.heap.size d L.out rfl;replace e:=gB B.heap.size e L.out rfl;replace m:=gB B.heap.size m L.out rfl;replace q:=gB B.heap.size q L.out rfl;replace t:=gB B.heap.size t L.out rfl;obtain ⟨a2,m2,c2,rfl,ad,ac,ae⟩:=aa.out.form;clear ad ac ae;have C:=kc6 q;have O:=kc6 t;have E:=i012_01_0_0_01_0 w M R U D Q
   go_wp2_with (fail)
   clear C O;generalize a:World.setCell Q _ _=ai;have I:=sizeS1 a;replace d:=fN1 d a;replace e:=bF1 e a;replace m:=bF1 m a;replace q:=s6_3 q a;replace t:=bF1 t a;clear a;generalize a:World.setCell ai _ _=Z;have J:=sizeS1 a;replace d:=fN1 d a;replace e:=bF1 e a;replace m:=bF1 m a;replace q:=bF1 q a;replace t:=s6_2 t a;clear a
   have b9:Z.heap.size=Q.heap.size:=by omega
   clear I J;clear E;clear X a3 u G a4;have sc:=kc6 e;have C:=kc6 q;have O:=kc6 t;have E:=i12_1_0_0 w M D Z;refine wp_region_held_drew (S:=fun w'=>Far (fun b=>b=(w.heap.size+1)∨b=(w.heap.size+2)) (Z) w') (by kernel_rfl) (Far.of (below_drew _)) (fun b3=>?_);refine takeA 0 (v:=?_) rfl ?_ ?_;rotate_left
   · (intro w Y;replace O:=Far.c6z O Y;go_simp;try rfl)
   (try simp only [pu]);refine takeA 1 (v:=?_) rfl ?_ ?_;rotate_left
   · (intro w Y;replace C:=Far.c6z C Y;go_simp;try rfl)
   (try simp only [pu]);refine callA 2 rfl fun K N=>?_;go_simp;refine N.out _ _ ?_ (fun ab=>?_);· exact (by refine Far.trans ?_ (Far.of (below_drew _));(iterate 6 (refine Far.setCell (p:=⟨(w.heap.size+1),_,none⟩) ?_ (.inl rfl) _));exact Far.refl _ _)
   clear N K;clear sc C O;generalize a:World.setCell _ ⟨(w.heap.size+1),5,none⟩ _=aj at *;replace d:=fN6 d a;replace e:=bS6 e a;replace m:=bF6 m a;clear a;generalize a:(aj.drew)=bb at *;replace d:=fD d a;replace e:=bD e a;replace m:=bD m a;clear a;clear E;have xc:=kc6 m;refine callA 3 rfl fun K N=>?_;go_simp;refine N.out _ _ ?_ (fun b4=>?_);· exact (by (iterate 6 (refine Far.setCell (p:=⟨(w.heap.size+2),_,none⟩) ?_ (.inr rfl) _));exact ab)
   clear N K;refine wpAnyH_done (by kernel_rfl) ?_ _;clear xc;generalize a:World.setCell _ ⟨(w.heap.size+2),5,none⟩ _=bc;replace d:=fN6 d a;replace e:=bF6 e a;replace m:=bS6 m a;clear a
   go_wp2_with (fail)
   have z:=kc6 e;have y:=kc6 m;refine bodyPost_ret (v:=.tuple #[.agg #[.slice aL n cap,.int .i64 (ih:Int),.int .i64 (a1:Int),.bool true,.int .i64 l_,.int .i64 c_],.agg #[.int .i64 7,.string (nowT ts (i+1)).s,.int .i64 0,.slice a2 m2 c2,.int .i64 (nowT ts i).l,.int .i64 (nowT ts i).c]]) (by clear d H e m q t;simp [results,Tryz.results66,go_sem,z,y]) rfl ?_;exact ⟨_,_,_,_,_,_,_,_,_,_,rfl,refBelow d.out⟩
  rw [hx] at F
  first | simp only at F | simp only [andT] at F
  refine (HE (i+3) (a1+1) _ _ _ _ b5 (refTok d.out H.out) hn hx).mono ?_;rintro _ B ⟨ax,mx,cx,rfl,o,hm⟩;replace e:=kB e o;replace m:=kB m o;replace q:=kB q o;replace u:=kB u o;replace G:=kB G o;replace d:=kF d o;have bm:=o.size;clear o;have am:=zz hm;clear hm;simp only [rdV,exV];have uc:=kc6 u;have vc:=kc6 G;have E:=i012_01_0_0_0 w M R U B;go_upto_region 14 with (fail);clear uc vc;generalize a:World.setCell _ ⟨R.heap.size,5,none⟩ _=br;have I:=sizeS6 a;replace d:=fN6 d a;replace e:=bF6 e a;replace m:=bF6 m a;replace q:=bF6 q a;replace u:=bS6 u a;replace G:=bF6 G a;replace am:=mS6 am a;clear a;generalize a:World.setCell _ ⟨U.heap.size,5,none⟩ _=a8;have J:=sizeS6 a;replace d:=fN6 d a;replace e:=bF6 e a;replace m:=bF6 m a;replace q:=bF6 q a;replace u:=bF6 u a;replace G:=bS6 G a;replace am:=mS6 am a;clear a
  have bp:a8.heap.size=B.heap.size:=by omega
  clear I J;clear E;have an:Hid (Mem (NwS (Av al.heap.size w.heap.size w.heap.size) a8.heap.size) a8 _ _):=zz (memS_av (g:=w.heap.size) (k:=w.heap.size) am.out (by omega) (by omega) (by omega));clear am;have C:=kc6 q;have E:=i012_01_0_0_0 w M R U a8;go_upto_region 15 with (fail);clear C;generalize a:World.setCell a8 _ _=ak;have bq:=sizeS1 a;replace d:=fN1 d a;replace e:=bF1 e a;replace m:=bF1 m a;replace q:=s6_0 q a;replace u:=bF1 u a;replace G:=bF1 G a;replace an:=yS1 an a;clear a;clear E;have C:=kc6 q;have vc:=kc6 G;have E:=i012_01_0_0_0 w M R U ak;have hZ:=i012_01_0_0_0 w M R U B;go_upto_region 16 with (fail);clear C vc;generalize a:World.setCell ak _ _=b2;have I:=sizeS1 a;replace d:=fN1 d a;replace e:=bF1 e a;replace m:=bF1 m a;replace q:=s6_3 q a;replace u:=bF1 u a;replace an:=yS1 an a;clear a;generalize a:World.alloc b2 _=b1;have J:=sizeA a;have bg:=zz (builtS1E (A:=Av al.heap.size w.heap.size w.heap.size) (base:=0) an.out a (b:=B.heap.size) (by omega) (by omega));replace d:=fA d a;replace e:=bA e a;replace m:=bA m a;replace q:=bA q a;replace u:=bA u a;have P:=bg;clear bg;clear a
  have bn:b1.heap.size=B.heap.size+1:=by omega
  clear I J;clear E hZ;clear an;have uc:=kc6 u
  go_wp2_with (fail)
  rcases ap:isT ts j 5 wIn
  ·
   first | simp only [ap,Bool.false_eq_true,if_false] at F | simp only [takeT,ap,Bool.false_eq_true,if_false] at F
   cases F;clear uc;refine (takeR_no _ (refTok d.out H.out) ap).mono ?_;rintro _ ba ⟨rfl,o⟩;replace e:=kB e o;replace m:=kB m o;replace q:=kB q o;replace P:=kS P o;replace d:=kF d o;have be:=o.size;clear o;simp only [rdV]
   go_wp2_with (fail)
   refine (exprR_bad _ (refTok d.out H.out)).mono ?_;rintro _ D ⟨ih,dh,kh,sh,nh,ah,mh,ch,uh,vh,rfl,o⟩;replace e:=kB e o;replace m:=kB m o;replace q:=kB q o;replace P:=kS P o;replace d:=kF d o;have b6:=o.size;clear o;simp only [rdV];go_upto_region 17 with (fail);generalize a:World.alloc D _=ag;have I:=sizeA a;replace d:=fA d a;replace e:=bA e a;replace m:=bA m a;replace q:=bA q a;replace P:=sA P a;have t:=nB a (D.heap.size);clear a;generalize a:World.alloc ag _=T;have J:=sizeA a;replace d:=fA d a;replace e:=bA e a;replace m:=bA m a;replace q:=bA q a;replace t:=bA t a;replace P:=sA P a;have a4:=nB a (D.heap.size+1);clear a
   have b8:T.heap.size=D.heap.size+2:=by omega
   clear I J;have a7:Hid (OwnS (fun _=>True) 0 60 6 T (.slice (some ⟨B.heap.size,0,none⟩) 1 1) _):=zz (OwnS.conv P.out fun _ _ _=>trivial);have C:=kc6 q;have af:=kc6 a4
   go_wp2_with (first | (at_builtin;refine wpList_append_S2 (y:=.slice (some ⟨B.heap.size,0,none⟩) 1 1) (new:=[rawRow kh sh nh ah mh ch uh vh]) rfl _ _ rfl Tryz.underlying58 info_ex rfl (by decide) rfl rfl (a7.out.alloc _) (by first | (simp;done) | (simp [Ex.rows_eq];done) | (rw [Ex.rows_len];simp)) (rawRowS (W:=T) a7.out kh sh nh ah mh ch uh vh trivial (Nat.le_refl _) (by omega)) (by first | (simp;done) | (simp [Ex.rows_eq];done) | (rw [Ex.rows_len];simp)) (by first | (simp;done) | (simp [Ex.rows_eq];done) | (rw [Ex.rows_len];simp)) (Nat.zero_le _) ?_;intro v9 Q ho a5 a6;have aa:=zz ho;clear ho;have L:=zz a5;clear a5;have ar:=zz a6;clear a6;refine Hid.out ?_))
   refine zz ?_;clear C af
   have b7:T.heap.size+1≤Q.heap.size:=by have h:=L.out.size;rw [World.size_alloc] at h;exact h
   replace d:=gF B.heap.size d L.out rfl;replace e:=gB B.heap.size e L.out rfl;replace m:=gB B.heap.size m L.out rfl;replace q:=gB B.heap.size q L.out rfl;replace t:=gB B.heap.size t L.out rfl;obtain ⟨a2,m2,c2,rfl,ad,ac,ae⟩:=aa.out.form;clear ad ac ae;have C:=kc6 q;have O:=kc6 t;have E:=i012_01_0_0_01_0 w M R U D Q
   go_wp2_with (fail)
   clear C O;generalize a:World.setCell Q _ _=ai;have I:=sizeS1 a;replace d:=fN1 d a;replace e:=bF1 e a;replace m:=bF1 m a;replace q:=s6_3 q a;replace t:=bF1 t a;clear a;generalize a:World.setCell ai _ _=Z;have J:=sizeS1 a;replace d:=fN1 d a;replace e:=bF1 e a;replace m:=bF1 m a;replace q:=bF1 q a;replace t:=s6_2 t a;clear a
   have b9:Z.heap.size=Q.heap.size:=by omega
   clear I J;clear E;clear X a3 u G a4;have sc:=kc6 e;have C:=kc6 q;have O:=kc6 t;have E:=i12_1_0_0 w M D Z;refine wp_region_held_drew (S:=fun w'=>Far (fun b=>b=(w.heap.size+1)∨b=(w.heap.size+2)) (Z) w') (by kernel_rfl) (Far.of (below_drew _)) (fun b3=>?_);refine takeA 0 (v:=?_) rfl ?_ ?_;rotate_left
   · (intro w Y;replace O:=Far.c6z O Y;go_simp;try rfl)
   (try simp only [pu]);refine takeA 1 (v:=?_) rfl ?_ ?_;rotate_left
   · (intro w Y;replace C:=Far.c6z C Y;go_simp;try rfl)
   (try simp only [pu]);refine callA 2 rfl fun K N=>?_;go_simp;refine N.out _ _ ?_ (fun ab=>?_);· exact (by refine Far.trans ?_ (Far.of (below_drew _));(iterate 6 (refine Far.setCell (p:=⟨(w.heap.size+1),_,none⟩) ?_ (.inl rfl) _));exact Far.refl _ _)
   clear N K;clear sc C O;generalize a:World.setCell _ ⟨(w.heap.size+1),5,none⟩ _=aj at *;replace d:=fN6 d a;replace e:=bS6 e a;replace m:=bF6 m a;clear a;generalize a:(aj.drew)=bb at *;replace d:=fD d a;replace e:=bD e a;replace m:=bD m a;clear a;clear E;have xc:=kc6 m;refine callA 3 rfl fun K N=>?_;go_simp;refine N.out _ _ ?_ (fun b4=>?_);· exact (by (iterate 6 (refine Far.setCell (p:=⟨(w.heap.size+2),_,none⟩) ?_ (.inr rfl) _));exact ab)
   clear N K;refine wpAnyH_done (by kernel_rfl) ?_ _;clear xc;generalize a:World.setCell _ ⟨(w.heap.size+2),5,none⟩ _=bc;replace d:=fN6 d a;replace e:=bF6 e a;replace m:=bS6 m a;clear a
   go_wp2_with (fail)
   have z:=kc6 e;have y:=kc6 m;refine bodyPost_ret (v:=.tuple #[.agg #[.slice aL n cap,.int .i64 (ih:Int),.int .i64 (a1:Int),.bool true,.int .i64 (nowT ts j).l,.int .i64 (nowT ts j).c],.agg #[.int .i64 7,.string (nowT ts (i+1)).s,.int .i64 0,.slice a2 m2 c2,.int .i64 (nowT ts i).l,.int .i64 (nowT ts i).c]]) (by clear d H e m q t;simp [results,Tryz.results66,go_sem,z,y]) rfl ?_;exact ⟨_,_,_,_,_,_,_,_,_,_,rfl,refBelow d.out⟩
  first | simp only [ap,if_true] at F | simp only [takeT,ap,if_true] at F
  clear uc;refine (takeR_ok _ (refTok d.out H.out) ap (by decide)).mono ?_;rintro _ ba ⟨rfl,o⟩;replace e:=kB e o;replace m:=kB m o;replace q:=kB q o;replace P:=kS P o;replace d:=kF d o;have be:=o.size;clear o;simp only [rdV]
  go_wp2_with (fail)
  rcases hy:readE ts f .expr (j+1) (a1+1) with _ | ⟨y,k⟩ | ⟨l_,c_⟩
  · (rw [hy] at F;cases F)
  rotate_left
  ·
   rw [hy] at F
   first | simp only at F | simp only [andT] at F
   cases F;refine (HE (j+1) (a1+1) _ _ _ _ b5 (refTok d.out H.out) hn hy).mono ?_;rintro _ D ⟨ih,dh,kh,sh,nh,ah,mh,ch,uh,vh,rfl,o⟩;replace e:=kB e o;replace m:=kB m o;replace q:=kB q o;replace P:=kS P o;replace d:=kF d o;have b6:=o.size;clear o;simp only [rdV];go_upto_region 17 with (fail);generalize a:World.alloc D _=ag;have I:=sizeA a;replace d:=fA d a;replace e:=bA e a;replace m:=bA m a;replace q:=bA q a;replace P:=sA P a;have t:=nB a (D.heap.size);clear a;generalize a:World.alloc ag _=T;have J:=sizeA a;replace d:=fA d a;replace e:=bA e a;replace m:=bA m a;replace q:=bA q a;replace t:=bA t a;replace P:=sA P a;have a4:=nB a (D.heap.size+1);clear a
   have b8:T.heap.size=D.heap.size+2:=by omega
   clear I J;have a7:Hid (OwnS (fun _=>True) 0 60 6 T (.slice (some ⟨B.heap.size,0,none⟩) 1 1) _):=zz (OwnS.conv P.out fun _ _ _=>trivial);have C:=kc6 q;have af:=kc6 a4
   go_wp2_with (first | (at_builtin;refine wpList_append_S2 (y:=.slice (some ⟨B.heap.size,0,none⟩) 1 1) (new:=[rawRow kh sh nh ah mh ch uh vh]) rfl _ _ rfl Tryz.underlying58 info_ex rfl (by decide) rfl rfl (a7.out.alloc _) (by first | (simp;done) | (simp [Ex.rows_eq];done) | (rw [Ex.rows_len];simp)) (rawRowS (W:=T) a7.out kh sh nh ah mh ch uh vh trivial (Nat.le_refl _) (by omega)) (by first | (simp;done) | (simp [Ex.rows_eq];done) | (rw [Ex.rows_len];simp)) (by first | (simp;done) | (simp [Ex.rows_eq];done) | (rw [Ex.rows_len];simp)) (Nat.zero_le _) ?_;intro v9 Q ho a5 a6;have aa:=zz ho;clear ho;have L:=zz a5;clear a5;have ar:=zz a6;clear a6;refine Hid.out ?_))
   refine zz ?_;clear C af
   have b7:T.heap.size+1≤Q.heap.size:=by have h:=L.out.size;rw [World.size_alloc] at h;exact h
   replace d:=gF B.heap.size d L.out rfl;replace e:=gB B.heap.size e L.out rfl;replace m:=gB B.heap.size m L.out rfl;replace q:=gB B.heap.size q L.out rfl;replace t:=gB B.heap.size t L.out rfl;obtain ⟨a2,m2,c2,rfl,ad,ac,ae⟩:=aa.out.form;clear ad ac ae;have C:=kc6 q;have O:=kc6 t;have E:=i012_01_0_0_01_0 w M R U D Q
   go_wp2_with (fail)
   clear C O;generalize a:World.setCell Q _ _=ai;have I:=sizeS1 a;replace d:=fN1 d a;replace e:=bF1 e a;replace m:=bF1 m a;replace q:=s6_3 q a;replace t:=bF1 t a;clear a;generalize a:World.setCell ai _ _=Z;have J:=sizeS1 a;replace d:=fN1 d a;replace e:=bF1 e a;replace m:=bF1 m a;replace q:=bF1 q a;replace t:=s6_2 t a;clear a
   have b9:Z.heap.size=Q.heap.size:=by omega
   clear I J;clear E;clear X a3 u G a4;have sc:=kc6 e;have C:=kc6 q;have O:=kc6 t;have E:=i12_1_0_0 w M D Z;refine wp_region_held_drew (S:=fun w'=>Far (fun b=>b=(w.heap.size+1)∨b=(w.heap.size+2)) (Z) w') (by kernel_rfl) (Far.of (below_drew _)) (fun b3=>?_);refine takeA 0 (v:=?_) rfl ?_ ?_;rotate_left
   · (intro w Y;replace O:=Far.c6z O Y;go_simp;try rfl)
   (try simp only [pu]);refine takeA 1 (v:=?_) rfl ?_ ?_;rotate_left
   · (intro w Y;replace C:=Far.c6z C Y;go_simp;try rfl)
   (try simp only [pu]);refine callA 2 rfl fun K N=>?_;go_simp;refine N.out _ _ ?_ (fun ab=>?_);· exact (by refine Far.trans ?_ (Far.of (below_drew _));(iterate 6 (refine Far.setCell (p:=⟨(w.heap.size+1),_,none⟩) ?_ (.inl rfl) _));exact Far.refl _ _)
   clear N K;clear sc C O;generalize a:World.setCell _ ⟨(w.heap.size+1),5,none⟩ _=aj at *;replace d:=fN6 d a;replace e:=bS6 e a;replace m:=bF6 m a;clear a;generalize a:(aj.drew)=bb at *;replace d:=fD d a;replace e:=bD e a;replace m:=bD m a;clear a;clear E;have xc:=kc6 m;refine callA 3 rfl fun K N=>?_;go_simp;refine N.out _ _ ?_ (fun b4=>?_);· exact (by (iterate 6 (refine Far.setCell (p:=⟨(w.heap.size+2),_,none⟩) ?_ (.inr rfl) _));exact ab)
   clear N K;refine wpAnyH_done (by kernel_rfl) ?_ _;clear xc;generalize a:World.setCell _ ⟨(w.heap.size+2),5,none⟩ _=bc;replace d:=fN6 d a;replace e:=bF6 e a;replace m:=bS6 m a;clear a
   go_wp2_with (fail)
   have z:=kc6 e;have y:=kc6 m;refine bodyPost_ret (v:=.tuple #[.agg #[.slice aL n cap,.int .i64 (ih:Int),.int .i64 (a1:Int),.bool true,.int .i64 l_,.int .i64 c_],.agg #[.int .i64 7,.string (nowT ts (i+1)).s,.int .i64 0,.slice a2 m2 c2,.int .i64 (nowT ts i).l,.int .i64 (nowT ts i).c]]) (by clear d H e m q t;simp [results,Tryz.results66,go_sem,z,y]) rfl ?_;exact ⟨_,_,_,_,_,_,_,_,_,_,rfl,refBelow d.out⟩
  rw [hy] at F
  first | simp only at F | simp only [andT] at F
  refine (HE (j+1) (a1+1) _ _ _ _ b5 (refTok d.out H.out) hn hy).mono ?_;rintro _ D ⟨ay,my,cy,rfl,o,hm⟩;replace e:=kB e o;replace m:=kB m o;replace q:=kB q o;replace P:=kS P o;replace d:=kF d o;have b6:=o.size;clear o;have bf:=zz hm;clear hm;simp only [rdV,exV];replace P:=zz (OwnS.conv (A':=Av al.heap.size D.heap.size D.heap.size) P.out fun b h1 h2=>⟨h1.1,by omega,by omega⟩);have au:Hid (Mem (NwS (Av ba.heap.size D.heap.size D.heap.size) D.heap.size) D _ _):=zz (memS_av (g:=D.heap.size) (k:=D.heap.size) bf.out (by omega) (by omega) (by omega));clear bf;go_upto_region 17 with (fail);generalize a:World.alloc D _=ag;have I:=sizeA a;replace d:=fA d a;replace e:=bA e a;replace m:=bA m a;replace q:=bA q a;replace au:=yA au a;replace P:=sA P a;have t:=nB a (D.heap.size);clear a;generalize a:World.alloc ag _=T;have J:=sizeA a;replace d:=fA d a;replace e:=bA e a;replace m:=bA m a;replace q:=bA q a;replace t:=bA t a;replace au:=yA au a;replace P:=sA P a;have a4:=nB a (D.heap.size+1);clear a
  have b8:T.heap.size=D.heap.size+2:=by omega
  clear I J;have a7:Hid (OwnS (Av al.heap.size D.heap.size D.heap.size) 0 60 6 T (.slice (some ⟨B.heap.size,0,none⟩) 1 1) _):=zz (P.out);have C:=kc6 q;have af:=kc6 a4
  go_wp2_with (first | (at_builtin;refine wpList_append_S2 (y:=.slice (some ⟨B.heap.size,0,none⟩) 1 1) (new:=Ex.rows [y]) rfl _ _ rfl Tryz.underlying58 info_ex rfl (by decide) rfl rfl (a7.out.alloc _) (by first | (simp;done) | (simp [Ex.rows_eq];done) | (rw [Ex.rows_len];simp)) (newRowS2 (fun b h1=>⟨by have :=h1.1;omega,h1.2.1,h1.2.2⟩) ⟨by omega,by omega,by omega⟩ (fun k hk=>by have bz:B.heap.size=k:=Option.some.inj hk;exact ⟨fun h=>by have :=h.1;omega,by omega⟩) au.out (by omega)) (by first | (simp;done) | (simp [Ex.rows_eq];done) | (rw [Ex.rows_len];simp)) (by first | (simp;done) | (simp [Ex.rows_eq];done) | (rw [Ex.rows_len];simp)) (Nat.zero_le _) ?_;intro v9 Q ho a5 a6;have aa:=zz ho;clear ho;have L:=zz a5;clear a5;have ar:=zz a6;clear a6;refine Hid.out ?_))
  refine zz ?_;clear C af
  have b7:T.heap.size+1≤Q.heap.size:=by have h:=L.out.size;rw [World.size_alloc] at h;exact h
  replace d:=gF B.heap.size d L.out rfl;replace e:=gB B.heap.size e L.out rfl;replace m:=gB B.heap.size m L.out rfl;replace q:=gB B.heap.size q L.out rfl;replace t:=gB B.heap.size t L.out rfl
  have bh:Hid (OwnS (Av al.heap.size D.heap.size D.heap.size) 0 60 6 Q v9 (Ex.rows [x,y])):=zz (by have h:=aa.out;simpa [Ex.rows_eq] using h)
  have a9:Hid (Mem (NwS (Av al.heap.size D.heap.size D.heap.size) Q.heap.size) Q (.s 6 (Ex.rows [x,y])) v9):=zz (OwnS.sameO bh.out fun k hk=>by rcases ar.out with h | h;(rw [h] at hk;have bz:B.heap.size=k:=Option.some.inj hk;exact ⟨by omega,by omega,by omega⟩);(have h2:=h k hk;rw [World.size_alloc] at h2;exact ⟨by omega,by omega,by omega⟩))
  obtain ⟨a2,m2,c2,rfl,ad,ac,ae⟩:=bh.out.form;clear ad ac ae;have C:=kc6 q;have O:=kc6 t;have E:=i012_01_0_0_01_0 w M R U D Q
  go_wp2_with (fail)
  clear C O;generalize a:World.setCell Q _ _=ai;have I:=sizeS1 a;replace d:=fN1 d a;replace e:=bF1 e a;replace m:=bF1 m a;replace q:=s6_3 q a;replace t:=bF1 t a;replace a9:=yS1 a9 a;clear a;generalize a:World.setCell ai _ _=Z;have J:=sizeS1 a;replace d:=fN1 d a;replace e:=bF1 e a;replace m:=bF1 m a;replace q:=bF1 q a;replace t:=s6_2 t a;replace a9:=yS1 a9 a;clear a
  have b9:Z.heap.size=Q.heap.size:=by omega
  clear I J;clear E;clear X a3 u G a4;have sc:=kc6 e;have C:=kc6 q;have O:=kc6 t;have E:=i12_1_0_0 w M D Z;refine wp_region_held_drew (S:=fun w'=>Far (fun b=>b=(w.heap.size+1)∨b=(w.heap.size+2)) (Z) w') (by kernel_rfl) (Far.of (below_drew _)) (fun b3=>?_);refine takeA 0 (v:=?_) rfl ?_ ?_;rotate_left
  · (intro w Y;replace O:=Far.c6z O Y;go_simp;try rfl)
  (try simp only [pu]);refine takeA 1 (v:=?_) rfl ?_ ?_;rotate_left
  · (intro w Y;replace C:=Far.c6z C Y;go_simp;try rfl)
  (try simp only [pu]);refine callA 2 rfl fun K N=>?_;go_simp;refine N.out _ _ ?_ (fun ab=>?_);· exact (by refine Far.trans ?_ (Far.of (below_drew _));(iterate 6 (refine Far.setCell (p:=⟨(w.heap.size+1),_,none⟩) ?_ (.inl rfl) _));exact Far.refl _ _)
  clear N K;clear sc C O;generalize a:World.setCell _ ⟨(w.heap.size+1),5,none⟩ _=aj at *;replace d:=fN6 d a;replace e:=bS6 e a;replace m:=bF6 m a;replace a9:=yS6 a9 a;clear a;generalize a:(aj.drew)=bb at *;replace d:=fD d a;replace e:=bD e a;replace m:=bD m a;replace a9:=yD a9 a;clear a;clear E;have xc:=kc6 m;refine callA 3 rfl fun K N=>?_;go_simp;refine N.out _ _ ?_ (fun b4=>?_);· exact (by (iterate 6 (refine Far.setCell (p:=⟨(w.heap.size+2),_,none⟩) ?_ (.inr rfl) _));exact ab)
  clear N K;refine wpAnyH_done (by kernel_rfl) ?_ _;clear xc;generalize a:World.setCell _ ⟨(w.heap.size+2),5,none⟩ _=bc;replace d:=fN6 d a;replace e:=bF6 e a;replace m:=bS6 m a;replace a9:=yS6 a9 a;clear a;cases F
  go_wp2_with (fail)
  have z:=kc6 e;have y:=kc6 m;refine bodyPost_ret (v:=.tuple #[.agg #[.slice aL n cap,.int .i64 (k:Int),.int .i64 (a1:Int),.bool false,.int .i64 a0,.int .i64 b0],.agg #[.int .i64 7,.string (nowT ts (i+1)).s,.int .i64 0,.slice a2 m2 c2,.int .i64 (nowT ts i).l,.int .i64 (nowT ts i).c]]) (by clear d H e m q t a9;simp [results,Tryz.results66,go_sem,z,y]) rfl ?_;exact ⟨_,_,_,rfl,refBelow d.out,(av_nw a9.out (by omega))⟩
end
end
section
open Go.RowKit
section
variable {ts:List Tk} {aL:Option Addr} {n cap:Nat}
attribute [local go_sem] tk_pos tk_text tk_kind0
theorem exprR_D {f i Q:Nat} {r:Rd1} {a0 b0:Int} (D:readE ts (f+1) .expr i Q=some r) (aj:isT ts i 5 wLet=false) (b1:isT ts i 5 wIf=true) (av: ¬Q=40) (aw:∃ (x:Ex) (j:Nat) (y:Ex) (k:Nat),readE ts f .expr (i+1) (Q+1)=some (.ok x j)∧isT ts j 5 wThen=true∧readE ts f .expr (j+1) (Q+1)=some (.ok y k)) (w:World) (hd:Q≤40) (h:MemW w (.s 5 (tkRows ts)) (.slice aL n cap)) (hn:n≤1048576) (HE:ReadsR ts aL n cap 66 .expr f) (_bm:ReadsK ts aL n cap f):
  Calls Tryz.prog 66 #[rdV aL n cap (i:Int) (Q:Int) false a0 b0] w (AnsR aL n cap r Q a0 b0 w):=by
 have H:=zz h;clear h;rw [readE] at D
 try simp only at D
 have ba:=zz aj;have b9:=zz b1;have b8:=zz av;have ao:=zz aw;clear aj b1 av aw;have d:Hid (FarB w.heap.size w.heap.size w w):=zz (FarB.refl _ _ _);simp only [rdV];go_enter Tryz.func66,Tryz.ntmps66
 go_wp2_with (fail)
 generalize a:World.alloc w _=bi;have R:=sizeA a;replace d:=fA d a;have P:=nB a (w.heap.size);clear a;generalize a:World.alloc bi _=bj;have T:=sizeA a;replace d:=fA d a;replace P:=bA P a;have e:=nB a (w.heap.size+1);clear a;generalize a:World.alloc bj _=w1;have bd:=sizeA a;replace d:=fA d a;replace P:=bA P a;replace e:=bA e a;have o:=nB a (w.heap.size+2);clear a
 have bv:w1.heap.size=w.heap.size+3:=by omega
 clear R T bd;refine (nowR_any _ (refTok d.out H.out)).mono ?_;rintro _ w2 ⟨rfl,q⟩;replace P:=kB P q;replace e:=kB e q;replace o:=kB o q;replace d:=kF d q;have bp:=q.size;clear q;simp only [tkV];have rc:=kc6 P;have O:=i012_0 w w2
 go_wp2_with (fail)
 clear rc;generalize a:World.alloc w2 _=bk;have R:=sizeA a;replace d:=fA d a;replace P:=bA P a;replace e:=bA e a;replace o:=bA o a;have B:=nB a (w2.heap.size);clear a;generalize a:World.alloc bk _=w3;have T:=sizeA a;replace d:=fA d a;replace P:=bA P a;replace e:=bA e a;replace o:=bA o a;replace B:=bA B a;clear a
 have bz:w3.heap.size=w2.heap.size+2:=by omega
 clear R T;clear O
 rcases an:isT ts i 5 wLet
 rotate_left
 ·
  simp only [an,if_true] at D;have aj:=ba.out;rw [an] at aj;cases aj
 simp only [an,Bool.false_eq_true,if_false] at D;refine (isR_ok (s:=wLet) _ (refTok d.out H.out)).mono ?_;rintro _ w4 ⟨rfl,q⟩;replace P:=kB P q;replace e:=kB e q;replace o:=kB o q;replace B:=kB B q;replace d:=kF d q;have bq:=q.size;clear q;rw [an];have rc:=kc6 P
 go_wp2_with (fail)
 rcases ai:isT ts i 5 wIf
 ·
  simp only [ai,Bool.false_eq_true,if_false] at D;have h9:=b9.out;rw [ai] at h9;cases h9
 simp only [ai,if_true] at D;clear rc;refine (isR_ok (s:=wIf) _ (refTok d.out H.out)).mono ?_;rintro _ w5 ⟨rfl,q⟩;replace P:=kB P q;replace e:=kB e q;replace o:=kB o q;replace B:=kB B q;replace d:=kF d q;have br:=q.size;clear q;rw [ai];have rc:=kc6 P
 go_wp2_with (fail)
 by_cases aq:Q=40
 ·
  rw [if_pos aq] at D;cases D;exact absurd aq b8.out
 rw [if_neg aq] at D;have bb:i<ts.length:=isT_lt ai (by decide)
 have am:Q+1≤40:=by omega
 clear rc;refine (downR_ok2 _ (refTok d.out H.out) (by omega) bb).mono ?_;rintro _ w6 ⟨rfl,q⟩;replace e:=kB e q;replace o:=kB o q;replace B:=kB B q;replace d:=kF d q;have bs:=q.size;clear q;simp only [rdV]
 go_wp2_with (fail)
 rcases hx:readE ts f .expr (i+1) (Q+1) with _ | ⟨x,j⟩ | ⟨l_,c_⟩
 · (rw [hx] at D;cases D)
 rotate_left
 ·
  rw [hx] at D
  first | simp only at D | simp only [andT] at D
  cases D;obtain ⟨x0,j0,y0,k0,d1,d2,d3⟩:=ao.out;rw [hx] at d1;cases d1
 rw [hx] at D
 first | simp only at D | simp only [andT] at D
 refine (HE (i+1) (Q+1) _ _ _ _ am (refTok d.out H.out) hn hx).mono ?_;rintro _ w7 ⟨ax,mx,cx,rfl,q,hm⟩;replace e:=kB e q;replace o:=kB o q;replace B:=kB B q;replace d:=kF d q;have bt:=q.size;clear q;have U:=zz hm;clear hm;simp only [rdV,exV];go_upto_region 22 with (fail);generalize a:World.alloc w7 _=bl;have R:=sizeA a;replace d:=fA d a;replace e:=bA e a;replace o:=bA o a;replace B:=bA B a;replace U:=mA U a;have aa:=nB a (w7.heap.size);clear a;generalize a:World.alloc bl _=w8;have T:=sizeA a;replace d:=fA d a;replace e:=bA e a;replace o:=bA o a;replace B:=bA B a;replace aa:=bA aa a;replace U:=mA U a;have E:=nB a (w7.heap.size+1);clear a
 have c0:w8.heap.size=w7.heap.size+2:=by omega
 clear R T;have uc:=kc6 aa
 go_wp2_with (fail)
 rcases af:isT ts j 5 wThen
 ·
  first | simp only [af,Bool.false_eq_true,if_false] at D | simp only [takeT,af,Bool.false_eq_true,if_false] at D
  obtain ⟨x0,j0,y0,k0,d1,d2,d3⟩:=ao.out;rw [hx] at d1;cases d1;rw [af] at d2;cases d2
 first | simp only [af,if_true] at D | simp only [takeT,af,if_true] at D
 clear uc;refine (takeR_ok _ (refTok d.out H.out) af (by decide)).mono ?_;rintro _ w9 ⟨rfl,q⟩;replace e:=kB e q;replace o:=kB o q;replace B:=kB B q;replace E:=kB E q;replace U:=kM U q;replace d:=kF d q;have bu:=q.size;clear q;simp only [rdV]
 go_wp2_with (fail)
 rcases hy:readE ts f .expr (j+1) (Q+1) with _ | ⟨y,k⟩ | ⟨l_,c_⟩
 · (rw [hy] at D;cases D)
 rotate_left
 ·
  rw [hy] at D
  first | simp only at D | simp only [andT] at D
  cases D;obtain ⟨x0,j0,y0,k0,d1,d2,d3⟩:=ao.out;rw [hx] at d1;cases d1;rw [hy] at d3;cases d3
 rw [hy] at D
 first | simp only at D | simp only [andT] at D
 refine (HE (j+1) (Q+1) _ _ _ _ am (refTok d.out H.out) hn hy).mono ?_;rintro _ a1 ⟨ay,my,cy,rfl,q,hm⟩;replace e:=kB e q;replace o:=kB o q;replace B:=kB B q;replace E:=kB E q;replace U:=kM U q;replace d:=kF d q;have bn:=q.size;clear q;have a4:=zz hm;clear hm;simp only [rdV,exV];go_upto_region 23 with (fail);generalize a:World.alloc a1 _=bh;have R:=sizeA a;replace d:=fA d a;replace e:=bA e a;replace o:=bA o a;replace B:=bA B a;replace E:=bA E a;replace U:=mA U a;replace a4:=mA a4 a;have ac:=nB a (a1.heap.size);clear a;generalize a:World.alloc bh _=bg;have T:=sizeA a;replace d:=fA d a;replace e:=bA e a;replace o:=bA o a;replace B:=bA B a;replace E:=bA E a;replace ac:=bA ac a;replace U:=mA U a;replace a4:=mA a4 a;have M:=nB a (a1.heap.size+1);clear a
 have bw:bg.heap.size=a1.heap.size+2:=by omega
 clear R T;have b6:=kc6 ac
 go_wp2_with (fail)
 rcases ae:isT ts k 5 wElse
 ·
  first | simp only [ae,Bool.false_eq_true,if_false] at D | simp only [takeT,ae,Bool.false_eq_true,if_false] at D
  cases D;clear b6;refine (takeR_no _ (refTok d.out H.out) ae).mono ?_;rintro _ b7 ⟨rfl,q⟩;replace e:=kB e q;replace o:=kB o q;replace B:=kB B q;replace E:=kB E q;replace M:=kB M q;replace d:=kF d q;have be:=q.size;clear q;simp only [rdV]
  go_wp2_with (fail)
  clear U a4;refine (exprR_bad (i:=k) _ (refTok d.out H.out)).mono ?_;rintro _ u ⟨ib,db,kb,sb,nb,ab,mb,cb,ub,vb,rfl,q⟩;replace e:=kB e q;replace o:=kB o q;replace B:=kB B q;replace E:=kB E q;replace M:=kB M q;replace d:=kF d q;have b3:=q.size;clear q;simp only [rdV];go_upto_region 24 with (fail);generalize a:World.alloc u _=ak;have R:=sizeA a;replace d:=fA d a;replace e:=bA e a;replace o:=bA o a;replace B:=bA B a;replace E:=bA E a;replace M:=bA M a;have N:=nB a (u.heap.size);clear a;generalize a:World.alloc ak _=a7;have T:=sizeA a;replace d:=fA d a;replace e:=bA e a;replace o:=bA o a;replace B:=bA B a;replace E:=bA E a;replace M:=bA M a;replace N:=bA N a;have V:=nB a (u.heap.size+1);clear a
  have b4:a7.heap.size=u.heap.size+2:=by omega
  clear R T;have F:=kc6 N;have O:=i012_01_01_01_01_0 w w2 w7 a1 u a7
  go_wp2_with (fail)
  clear F;generalize a:World.setCell a7 _ _=a8;have b5:=sizeS1 a;replace d:=fN1 d a;replace e:=bF1 e a;replace o:=bF1 o a;replace B:=bF1 B a;replace E:=bF1 E a;replace M:=bF1 M a;replace N:=s6_2 N a;replace V:=bF1 V a;clear a;clear O;have Z:=kc6 e;have G:=kc2 B;have L:=kc6 E;have I:=kc6 M;have F:=kc6 N;have J:=kc6 V;have O:=i012_01_01_01_01_0 w w2 w7 a1 u a8;refine wp_region_held_drew (S:=fun w'=>Far (fun b=>b=(w.heap.size+1)∨b=(w.heap.size+2)) (a8) w') (by kernel_rfl) (Far.of (below_drew _)) (fun b2=>?_);refine takeA 0 (v:=?_) rfl ?_ ?_;rotate_left
  · (intro w t;replace F:=Far.c6z F t;replace L:=Far.c6z L t;replace I:=Far.c6z I t;replace J:=Far.c6z J t;replace G:=Far.c2z G t;go_simp;try rfl)
  (try simp only [pu]);refine takeA 1 (v:=?_) rfl ?_ ?_;rotate_left
  · (intro w t;replace F:=Far.c6z F t;replace L:=Far.c6z L t;replace I:=Far.c6z I t;replace J:=Far.c6z J t;replace G:=Far.c2z G t;go_simp;try rfl)
  (try simp only [pu]);refine takeA 2 (v:=?_) rfl ?_ ?_;rotate_left
  · (intro w t;replace F:=Far.c6z F t;replace L:=Far.c6z L t;replace I:=Far.c6z I t;replace J:=Far.c6z J t;replace G:=Far.c2z G t;go_simp;try rfl)
  (try simp only [pu]);refine takeA 3 (v:=?_) rfl ?_ ?_;rotate_left
  · (intro w t;replace F:=Far.c6z F t;replace L:=Far.c6z L t;replace I:=Far.c6z I t;replace J:=Far.c6z J t;replace G:=Far.c2z G t;go_simp;try rfl)
  (try simp only [pu]);refine takeA 5 (v:=?_) rfl ?_ ?_;rotate_left
  · (intro w t;replace F:=Far.c6z F t;replace L:=Far.c6z L t;replace I:=Far.c6z I t;replace J:=Far.c6z J t;replace G:=Far.c2z G t;go_simp;try rfl)
  (try simp only [pu]);refine twoL 4 7 rfl rfl (by kernel_rfl) (by rfl) (by rfl) (fun K C=>?_) (fun K C=>?_)
  ·
   go_simp;refine C.out _ _ ?_ (fun a5=>?_);· exact Far.trans (Far.of (below_new _ _)) (Far.of (below_drew _))
   clear C K;clear Z G L I F J;generalize a:(a8.alloc (.cells #[.int .i64 x.kind,.string x.name,.int .i64 x.n,.slice ax mx cx,.int .i64 x.line,.int .i64 x.col,.int .i64 y.kind,.string y.name,.int .i64 y.n,.slice ay my cy,.int .i64 y.line,.int .i64 y.col,.int .i64 kb,.string sb,.int .i64 nb,.slice ab mb cb,.int .i64 ub,.int .i64 vb] 60))=a9 at *;replace d:=fA d a;replace e:=bA e a;replace o:=bA o a;clear a;generalize a:(a9.drew)=a3 at *;replace d:=fD d a;replace e:=bD e a;replace o:=bD o a;clear a;clear O;have Z:=kc6 e;refine takeA 6 (v:=?_) rfl ?_ ?_;rotate_left
   · (intro w t;go_simp;try rfl)
   (try simp only [pu]);refine callA 7 rfl fun K C=>?_;go_simp;refine C.out _ _ ?_ (fun a6=>?_);· exact (by (iterate 6 (refine Far.setCell (p:=⟨(w.heap.size+1),_,none⟩) ?_ (.inl rfl) _));exact a5)
   clear C K;clear Z;generalize a:World.setCell _ ⟨(w.heap.size+1),5,none⟩ _=ad at *;replace d:=fN6 d a;replace e:=bS6 e a;replace o:=bF6 o a;clear a;have xc:=kc6 o;refine callA 8 rfl fun K C=>?_;go_simp;refine C.out _ _ ?_ (fun ah=>?_);· exact (by (iterate 6 (refine Far.setCell (p:=⟨(w.heap.size+2),_,none⟩) ?_ (.inr rfl) _));exact a6)
   clear C K;refine wpAnyH_done (by kernel_rfl) ?_ _;clear xc;generalize a:World.setCell _ ⟨(w.heap.size+2),5,none⟩ _=al;replace d:=fN6 d a;replace e:=bF6 e a;replace o:=bS6 o a;clear a
   go_wp2_with (fail)
   have z:=kc6 e;have y:=kc6 o;refine bodyPost_ret (v:=.tuple #[.agg #[.slice aL n cap,.int .i64 (ib:Int),.int .i64 (Q:Int),.bool true,.int .i64 (nowT ts k).l,.int .i64 (nowT ts k).c],.agg #[.int .i64 6,.string ⟨#[]⟩,.int .i64 0,.slice (some ⟨u.heap.size+2,0,none⟩) 3 3,.int .i64 (nowT ts i).l,.int .i64 (nowT ts i).c]]) (by clear d H P e o B aa E ac M N V;simp [results,Tryz.results66,go_sem,z,y]) rfl ?_;exact ⟨_,_,_,_,_,_,_,_,_,_,rfl,refBelow d.out⟩
  ·
   go_simp;refine C.out _ _ ?_ (fun a5=>?_);· exact (by refine Far.trans ?_ (Far.of (below_drew _));(iterate 6 (refine Far.setCell (p:=⟨(w.heap.size+1),_,none⟩) ?_ (.inl rfl) _));exact Far.refl _ _)
   clear C K;clear Z G L I F J;generalize a:World.setCell _ ⟨(w.heap.size+1),5,none⟩ _=a9 at *;have R:=sizeS6 a;replace d:=fN6 d a;replace e:=bS6 e a;replace o:=bF6 o a;clear a;generalize a:(a9.drew)=a3 at *;have T:=sizeD a;replace d:=fD d a;replace e:=bD e a;replace o:=bD o a;clear a
   have ar:a3.heap.size=u.heap.size+2:=by omega
   clear R T;clear O;refine callA 4 rfl fun K C=>?_;go_simp;refine C.out _ _ ?_ (fun a6=>?_);· exact Far.trans a5 (Far.of (below_new _ _))
   clear C K;generalize a:(a3.alloc (.cells #[.int .i64 x.kind,.string x.name,.int .i64 x.n,.slice ax mx cx,.int .i64 x.line,.int .i64 x.col,.int .i64 y.kind,.string y.name,.int .i64 y.n,.slice ay my cy,.int .i64 y.line,.int .i64 y.col,.int .i64 kb,.string sb,.int .i64 nb,.slice ab mb cb,.int .i64 ub,.int .i64 vb] 60))=ad at *;replace d:=fA d a;replace e:=bA e a;replace o:=bA o a;clear a;have xc:=kc6 o;refine takeA 6 (v:=?_) rfl ?_ ?_;rotate_left
   · (intro w t;go_simp;try rfl)
   (try simp only [pu]);refine callA 8 rfl fun K C=>?_;go_simp;refine C.out _ _ ?_ (fun ah=>?_);· exact (by (iterate 6 (refine Far.setCell (p:=⟨(w.heap.size+2),_,none⟩) ?_ (.inr rfl) _));exact a6)
   clear C K;refine wpAnyH_done (by kernel_rfl) ?_ _;clear xc;generalize a:World.setCell _ ⟨(w.heap.size+2),5,none⟩ _=al;replace d:=fN6 d a;replace e:=bF6 e a;replace o:=bS6 o a;clear a
   go_wp2_with (fail)
   have z:=kc6 e;have y:=kc6 o;refine bodyPost_ret (v:=.tuple #[.agg #[.slice aL n cap,.int .i64 (ib:Int),.int .i64 (Q:Int),.bool true,.int .i64 (nowT ts k).l,.int .i64 (nowT ts k).c],.agg #[.int .i64 6,.string ⟨#[]⟩,.int .i64 0,.slice (some ⟨u.heap.size+2,0,none⟩) 3 3,.int .i64 (nowT ts i).l,.int .i64 (nowT ts i).c]]) (by clear d H P e o B aa E ac M N V;simp [results,Tryz.results66,go_sem,z,y]) rfl ?_;exact ⟨_,_,_,_,_,_,_,_,_,_,rfl,refBelow d.out⟩
 first | simp only [ae,if_true] at D | simp only [takeT,ae,if_true] at D
 clear b6;refine (takeR_ok _ (refTok d.out H.out) ae (by decide)).mono ?_;rintro _ b7 ⟨rfl,q⟩;replace e:=kB e q;replace o:=kB o q;replace B:=kB B q;replace E:=kB E q;replace M:=kB M q;replace U:=kM U q;replace a4:=kM a4 q;replace d:=kF d q;have be:=q.size;clear q;simp only [rdV];have O:=i012_01_01_01_0 w w2 w7 a1 b7
 go_wp2_with (fail)
 rcases hz:readE ts f .expr (k+1) (Q+1) with _ | ⟨z,m⟩ | ⟨l_,c_⟩
 · (rw [hz] at D;cases D)
 rotate_left
 ·
  rw [hz] at D
  first | simp only at D | simp only [andT] at D
  cases D;clear U a4;refine (HE (k+1) (Q+1) _ _ _ _ am (refTok d.out H.out) hn hz).mono ?_;rintro _ u ⟨ib,db,kb,sb,nb,ab,mb,cb,ub,vb,rfl,q⟩;replace e:=kB e q;replace o:=kB o q;replace B:=kB B q;replace E:=kB E q;replace M:=kB M q;replace d:=kF d q;have b3:=q.size;clear q;simp only [rdV];clear O;go_upto_region 24 with (fail);generalize a:World.alloc u _=ak;have R:=sizeA a;replace d:=fA d a;replace e:=bA e a;replace o:=bA o a;replace B:=bA B a;replace E:=bA E a;replace M:=bA M a;have N:=nB a (u.heap.size);clear a;generalize a:World.alloc ak _=a7;have T:=sizeA a;replace d:=fA d a;replace e:=bA e a;replace o:=bA o a;replace B:=bA B a;replace E:=bA E a;replace M:=bA M a;replace N:=bA N a;have V:=nB a (u.heap.size+1);clear a
  have b4:a7.heap.size=u.heap.size+2:=by omega
  clear R T;have F:=kc6 N;have O:=i012_01_01_01_01_0 w w2 w7 a1 u a7
  go_wp2_with (fail)
  clear F;generalize a:World.setCell a7 _ _=a8;have b5:=sizeS1 a;replace d:=fN1 d a;replace e:=bF1 e a;replace o:=bF1 o a;replace B:=bF1 B a;replace E:=bF1 E a;replace M:=bF1 M a;replace N:=s6_2 N a;replace V:=bF1 V a;clear a;clear O;have Z:=kc6 e;have G:=kc2 B;have L:=kc6 E;have I:=kc6 M;have F:=kc6 N;have J:=kc6 V;have O:=i012_01_01_01_01_0 w w2 w7 a1 u a8;refine wp_region_held_drew (S:=fun w'=>Far (fun b=>b=(w.heap.size+1)∨b=(w.heap.size+2)) (a8) w') (by kernel_rfl) (Far.of (below_drew _)) (fun b2=>?_);refine takeA 0 (v:=?_) rfl ?_ ?_;rotate_left
  · (intro w t;replace F:=Far.c6z F t;replace L:=Far.c6z L t;replace I:=Far.c6z I t;replace J:=Far.c6z J t;replace G:=Far.c2z G t;go_simp;try rfl)
  (try simp only [pu]);refine takeA 1 (v:=?_) rfl ?_ ?_;rotate_left
  · (intro w t;replace F:=Far.c6z F t;replace L:=Far.c6z L t;replace I:=Far.c6z I t;replace J:=Far.c6z J t;replace G:=Far.c2z G t;go_simp;try rfl)
  (try simp only [pu]);refine takeA 2 (v:=?_) rfl ?_ ?_;rotate_left
  · (intro w t;replace F:=Far.c6z F t;replace L:=Far.c6z L t;replace I:=Far.c6z I t;replace J:=Far.c6z J t;replace G:=Far.c2z G t;go_simp;try rfl)
  (try simp only [pu]);refine takeA 3 (v:=?_) rfl ?_ ?_;rotate_left
  · (intro w t;replace F:=Far.c6z F t;replace L:=Far.c6z L t;replace I:=Far.c6z I t;replace J:=Far.c6z J t;replace G:=Far.c2z G t;go_simp;try rfl)
  (try simp only [pu]);refine takeA 5 (v:=?_) rfl ?_ ?_;rotate_left
  · (intro w t;replace F:=Far.c6z F t;replace L:=Far.c6z L t;replace I:=Far.c6z I t;replace J:=Far.c6z J t;replace G:=Far.c2z G t;go_simp;try rfl)
  (try simp only [pu]);refine twoL 4 7 rfl rfl (by kernel_rfl) (by rfl) (by rfl) (fun K C=>?_) (fun K C=>?_)
  ·
   go_simp;refine C.out _ _ ?_ (fun a5=>?_);· exact Far.trans (Far.of (below_new _ _)) (Far.of (below_drew _))
   clear C K;clear Z G L I F J;generalize a:(a8.alloc (.cells #[.int .i64 x.kind,.string x.name,.int .i64 x.n,.slice ax mx cx,.int .i64 x.line,.int .i64 x.col,.int .i64 y.kind,.string y.name,.int .i64 y.n,.slice ay my cy,.int .i64 y.line,.int .i64 y.col,.int .i64 kb,.string sb,.int .i64 nb,.slice ab mb cb,.int .i64 ub,.int .i64 vb] 60))=a9 at *;replace d:=fA d a;replace e:=bA e a;replace o:=bA o a;clear a;generalize a:(a9.drew)=a3 at *;replace d:=fD d a;replace e:=bD e a;replace o:=bD o a;clear a;clear O;have Z:=kc6 e;refine takeA 6 (v:=?_) rfl ?_ ?_;rotate_left
   · (intro w t;go_simp;try rfl)
   (try simp only [pu]);refine callA 7 rfl fun K C=>?_;go_simp;refine C.out _ _ ?_ (fun a6=>?_);· exact (by (iterate 6 (refine Far.setCell (p:=⟨(w.heap.size+1),_,none⟩) ?_ (.inl rfl) _));exact a5)
   clear C K;clear Z;generalize a:World.setCell _ ⟨(w.heap.size+1),5,none⟩ _=ad at *;replace d:=fN6 d a;replace e:=bS6 e a;replace o:=bF6 o a;clear a;have xc:=kc6 o;refine callA 8 rfl fun K C=>?_;go_simp;refine C.out _ _ ?_ (fun ah=>?_);· exact (by (iterate 6 (refine Far.setCell (p:=⟨(w.heap.size+2),_,none⟩) ?_ (.inr rfl) _));exact a6)
   clear C K;refine wpAnyH_done (by kernel_rfl) ?_ _;clear xc;generalize a:World.setCell _ ⟨(w.heap.size+2),5,none⟩ _=al;replace d:=fN6 d a;replace e:=bF6 e a;replace o:=bS6 o a;clear a
   go_wp2_with (fail)
   have z:=kc6 e;have y:=kc6 o;refine bodyPost_ret (v:=.tuple #[.agg #[.slice aL n cap,.int .i64 (ib:Int),.int .i64 (Q:Int),.bool true,.int .i64 l_,.int .i64 c_],.agg #[.int .i64 6,.string ⟨#[]⟩,.int .i64 0,.slice (some ⟨u.heap.size+2,0,none⟩) 3 3,.int .i64 (nowT ts i).l,.int .i64 (nowT ts i).c]]) (by clear d H P e o B aa E ac M N V;simp [results,Tryz.results66,go_sem,z,y]) rfl ?_;exact ⟨_,_,_,_,_,_,_,_,_,_,rfl,refBelow d.out⟩
  ·
   go_simp;refine C.out _ _ ?_ (fun a5=>?_);· exact (by refine Far.trans ?_ (Far.of (below_drew _));(iterate 6 (refine Far.setCell (p:=⟨(w.heap.size+1),_,none⟩) ?_ (.inl rfl) _));exact Far.refl _ _)
   clear C K;clear Z G L I F J;generalize a:World.setCell _ ⟨(w.heap.size+1),5,none⟩ _=a9 at *;have R:=sizeS6 a;replace d:=fN6 d a;replace e:=bS6 e a;replace o:=bF6 o a;clear a;generalize a:(a9.drew)=a3 at *;have T:=sizeD a;replace d:=fD d a;replace e:=bD e a;replace o:=bD o a;clear a
   have ar:a3.heap.size=u.heap.size+2:=by omega
   clear R T;clear O;refine callA 4 rfl fun K C=>?_;go_simp;refine C.out _ _ ?_ (fun a6=>?_);· exact Far.trans a5 (Far.of (below_new _ _))
   clear C K;generalize a:(a3.alloc (.cells #[.int .i64 x.kind,.string x.name,.int .i64 x.n,.slice ax mx cx,.int .i64 x.line,.int .i64 x.col,.int .i64 y.kind,.string y.name,.int .i64 y.n,.slice ay my cy,.int .i64 y.line,.int .i64 y.col,.int .i64 kb,.string sb,.int .i64 nb,.slice ab mb cb,.int .i64 ub,.int .i64 vb] 60))=ad at *;replace d:=fA d a;replace e:=bA e a;replace o:=bA o a;clear a;have xc:=kc6 o;refine takeA 6 (v:=?_) rfl ?_ ?_;rotate_left
   · (intro w t;go_simp;try rfl)
   (try simp only [pu]);refine callA 8 rfl fun K C=>?_;go_simp;refine C.out _ _ ?_ (fun ah=>?_);· exact (by (iterate 6 (refine Far.setCell (p:=⟨(w.heap.size+2),_,none⟩) ?_ (.inr rfl) _));exact a6)
   clear C K;refine wpAnyH_done (by kernel_rfl) ?_ _;clear xc;generalize a:World.setCell _ ⟨(w.heap.size+2),5,none⟩ _=al;replace d:=fN6 d a;replace e:=bF6 e a;replace o:=bS6 o a;clear a
   go_wp2_with (fail)
   have z:=kc6 e;have y:=kc6 o;refine bodyPost_ret (v:=.tuple #[.agg #[.slice aL n cap,.int .i64 (ib:Int),.int .i64 (Q:Int),.bool true,.int .i64 l_,.int .i64 c_],.agg #[.int .i64 6,.string ⟨#[]⟩,.int .i64 0,.slice (some ⟨u.heap.size+2,0,none⟩) 3 3,.int .i64 (nowT ts i).l,.int .i64 (nowT ts i).c]]) (by clear d H P e o B aa E ac M N V;simp [results,Tryz.results66,go_sem,z,y]) rfl ?_;exact ⟨_,_,_,_,_,_,_,_,_,_,rfl,refBelow d.out⟩
 rw [hz] at D
 first | simp only at D | simp only [andT] at D
 refine (HE (k+1) (Q+1) _ _ _ _ am (refTok d.out H.out) hn hz).mono ?_;rintro _ u ⟨az,mz,cz,rfl,q,hm⟩;replace e:=kB e q;replace o:=kB o q;replace B:=kB B q;replace E:=kB E q;replace M:=kB M q;replace U:=kM U q;replace a4:=kM a4 q;replace d:=kF d q;have b3:=q.size;clear q;have au:=zz hm;clear hm;simp only [rdV,exV];have W:Hid (Mem (NwS (Av w6.heap.size u.heap.size u.heap.size) u.heap.size) u _ _):=zz (memS_av (g:=u.heap.size) (k:=u.heap.size) U.out (by omega) (by omega) (by omega));clear U;have X:Hid (Mem (NwS (Av w6.heap.size u.heap.size u.heap.size) u.heap.size) u _ _):=zz (memS_av (g:=u.heap.size) (k:=u.heap.size) a4.out (by omega) (by omega) (by omega));clear a4;have Y:Hid (Mem (NwS (Av w6.heap.size u.heap.size u.heap.size) u.heap.size) u _ _):=zz (memS_av (g:=u.heap.size) (k:=u.heap.size) au.out (by omega) (by omega) (by omega));clear au;clear O;go_upto_region 24 with (fail);generalize a:World.alloc u _=ak;have R:=sizeA a;replace d:=fA d a;replace e:=bA e a;replace o:=bA o a;replace B:=bA B a;replace E:=bA E a;replace M:=bA M a;replace W:=yA W a;replace X:=yA X a;replace Y:=yA Y a;have N:=nB a (u.heap.size);clear a;generalize a:World.alloc ak _=a7;have T:=sizeA a;replace d:=fA d a;replace e:=bA e a;replace o:=bA o a;replace B:=bA B a;replace E:=bA E a;replace M:=bA M a;replace N:=bA N a;replace W:=yA W a;replace X:=yA X a;replace Y:=yA Y a;have V:=nB a (u.heap.size+1);clear a
 have b4:a7.heap.size=u.heap.size+2:=by omega
 clear R T;have F:=kc6 N;have O:=i012_01_01_01_01_0 w w2 w7 a1 u a7
 go_wp2_with (fail)
 clear F;generalize a:World.setCell a7 _ _=a8;have b5:=sizeS1 a;replace d:=fN1 d a;replace e:=bF1 e a;replace o:=bF1 o a;replace B:=bF1 B a;replace E:=bF1 E a;replace M:=bF1 M a;replace N:=s6_2 N a;replace V:=bF1 V a;replace W:=yS1 W a;replace X:=yS1 X a;replace Y:=yS1 Y a;clear a;clear O;have Z:=kc6 e;have G:=kc2 B;have L:=kc6 E;have I:=kc6 M;have F:=kc6 N;have J:=kc6 V;have O:=i012_01_01_01_01_0 w w2 w7 a1 u a8;cases D;refine wp_region_held_drew (S:=fun w'=>Far (fun b=>b=(w.heap.size+1)∨b=(w.heap.size+2)) (a8) w') (by kernel_rfl) (Far.of (below_drew _)) (fun b2=>?_);refine takeA 0 (v:=?_) rfl ?_ ?_;rotate_left
 · (intro w t;replace F:=Far.c6z F t;replace L:=Far.c6z L t;replace I:=Far.c6z I t;replace J:=Far.c6z J t;replace G:=Far.c2z G t;go_simp;try rfl)
 (try simp only [pu]);refine takeA 1 (v:=?_) rfl ?_ ?_;rotate_left
 · (intro w t;replace F:=Far.c6z F t;replace L:=Far.c6z L t;replace I:=Far.c6z I t;replace J:=Far.c6z J t;replace G:=Far.c2z G t;go_simp;try rfl)
 (try simp only [pu]);refine takeA 2 (v:=?_) rfl ?_ ?_;rotate_left
 · (intro w t;replace F:=Far.c6z F t;replace L:=Far.c6z L t;replace I:=Far.c6z I t;replace J:=Far.c6z J t;replace G:=Far.c2z G t;go_simp;try rfl)
 (try simp only [pu]);refine takeA 3 (v:=?_) rfl ?_ ?_;rotate_left
 · (intro w t;replace F:=Far.c6z F t;replace L:=Far.c6z L t;replace I:=Far.c6z I t;replace J:=Far.c6z J t;replace G:=Far.c2z G t;go_simp;try rfl)
 (try simp only [pu]);refine takeA 5 (v:=?_) rfl ?_ ?_;rotate_left
 · (intro w t;replace F:=Far.c6z F t;replace L:=Far.c6z L t;replace I:=Far.c6z I t;replace J:=Far.c6z J t;replace G:=Far.c2z G t;go_simp;try rfl)
 (try simp only [pu]);refine twoL 4 7 rfl rfl (by kernel_rfl) (by rfl) (by rfl) (fun K C=>?_) (fun K C=>?_)
 ·
  go_simp;refine C.out _ _ ?_ (fun a5=>?_);· exact Far.trans (Far.of (below_new _ _)) (Far.of (below_drew _))
  clear C K;clear Z G L I F J;generalize a:(a8.alloc (.cells #[.int .i64 x.kind,.string x.name,.int .i64 x.n,.slice ax mx cx,.int .i64 x.line,.int .i64 x.col,.int .i64 y.kind,.string y.name,.int .i64 y.n,.slice ay my cy,.int .i64 y.line,.int .i64 y.col,.int .i64 z.kind,.string z.name,.int .i64 z.n,.slice az mz cz,.int .i64 z.line,.int .i64 z.col] 60))=a9 at *;have R:=sizeA a;have ag:=zz (builtS3E (A:=Av w6.heap.size u.heap.size u.heap.size) (base:=u.heap.size+2) W.out X.out Y.out a (b:=u.heap.size+2) (by omega) (by omega));replace d:=fA d a;replace e:=bA e a;replace o:=bA o a;have a2:=ag;clear ag;clear a;generalize a:(a9.drew)=a3 at *;have T:=sizeD a;replace d:=fD d a;replace e:=bD e a;replace o:=bD o a;replace a2:=sD a2 a;clear a
  have ar:a3.heap.size=u.heap.size+3:=by omega
  clear R T;clear O;have Z:=kc6 e;have O:=i012_01_01_01_01_0 w w2 w7 a1 u a3;refine takeA 6 (v:=?_) rfl ?_ ?_;rotate_left
  · (intro w t;go_simp;try rfl)
  (try simp only [pu]);refine callA 7 rfl fun K C=>?_;go_simp;refine C.out _ _ ?_ (fun a6=>?_);· exact (by (iterate 6 (refine Far.setCell (p:=⟨(w.heap.size+1),_,none⟩) ?_ (.inl rfl) _));exact a5)
  clear C K;clear Z;generalize a:World.setCell _ ⟨(w.heap.size+1),5,none⟩ _=ad at *;have c1:=sizeS6 a;replace d:=fN6 d a;replace e:=bS6 e a;replace o:=bF6 o a;replace a2:=sS6 a2 a;clear a;clear O;have xc:=kc6 o;have O:=i012_01_01_01_01_0 w w2 w7 a1 u ad;refine callA 8 rfl fun K C=>?_;go_simp;refine C.out _ _ ?_ (fun ah=>?_);· exact (by (iterate 6 (refine Far.setCell (p:=⟨(w.heap.size+2),_,none⟩) ?_ (.inr rfl) _));exact a6)
  clear C K;refine wpAnyH_done (by kernel_rfl) ?_ _;clear xc;generalize a:World.setCell _ ⟨(w.heap.size+2),5,none⟩ _=al;have bf:=sizeS6 a;replace d:=fN6 d a;replace e:=bF6 e a;replace o:=bS6 o a;replace a2:=sS6 a2 a;clear a;clear O
  go_wp2_with (fail)
  have z:=kc6 e;have y:=kc6 o;refine bodyPost_ret (v:=.tuple #[.agg #[.slice aL n cap,.int .i64 (m:Int),.int .i64 (Q:Int),.bool false,.int .i64 a0,.int .i64 b0],.agg #[.int .i64 6,.string ⟨#[]⟩,.int .i64 0,.slice (some ⟨u.heap.size+2,0,none⟩) 3 3,.int .i64 (nowT ts i).l,.int .i64 (nowT ts i).c]]) (by clear d H P e o B aa E ac M N V W X Y a2;simp [results,Tryz.results66,go_sem,z,y]) rfl ?_
  have ap:=zz (OwnS.sameO a2.out (A:=Av w6.heap.size u.heap.size u.heap.size) fun k hk=>by have bc:u.heap.size+2=k:=Option.some.inj hk;exact ⟨by omega,by omega,by omega⟩)
  exact ⟨_,_,_,rfl,refBelow d.out,(memS_nw ap.out (fun b q=>Nat.le_trans (by omega) q.1))⟩
 ·
  go_simp;refine C.out _ _ ?_ (fun a5=>?_);· exact (by refine Far.trans ?_ (Far.of (below_drew _));(iterate 6 (refine Far.setCell (p:=⟨(w.heap.size+1),_,none⟩) ?_ (.inl rfl) _));exact Far.refl _ _)
  clear C K;clear Z G L I F J;generalize a:World.setCell _ ⟨(w.heap.size+1),5,none⟩ _=a9 at *;have R:=sizeS6 a;replace d:=fN6 d a;replace e:=bS6 e a;replace o:=bF6 o a;replace W:=yS6 W a;replace X:=yS6 X a;replace Y:=yS6 Y a;clear a;generalize a:(a9.drew)=a3 at *;have T:=sizeD a;replace d:=fD d a;replace e:=bD e a;replace o:=bD o a;replace W:=yD W a;replace X:=yD X a;replace Y:=yD Y a;clear a
  have ar:a3.heap.size=u.heap.size+2:=by omega
  clear R T;clear O;refine callA 4 rfl fun K C=>?_;go_simp;refine C.out _ _ ?_ (fun a6=>?_);· exact Far.trans a5 (Far.of (below_new _ _))
  clear C K;generalize a:(a3.alloc (.cells #[.int .i64 x.kind,.string x.name,.int .i64 x.n,.slice ax mx cx,.int .i64 x.line,.int .i64 x.col,.int .i64 y.kind,.string y.name,.int .i64 y.n,.slice ay my cy,.int .i64 y.line,.int .i64 y.col,.int .i64 z.kind,.string z.name,.int .i64 z.n,.slice az mz cz,.int .i64 z.line,.int .i64 z.col] 60))=ad at *;have bx:=sizeA a;have ag:=zz (builtS3E (A:=Av w6.heap.size u.heap.size u.heap.size) (base:=u.heap.size+2) W.out X.out Y.out a (b:=u.heap.size+2) (by omega) (by omega));replace d:=fA d a;replace e:=bA e a;replace o:=bA o a;have a2:=ag;clear ag;clear a;have xc:=kc6 o;have O:=i012_01_01_01_01_0 w w2 w7 a1 u ad;refine takeA 6 (v:=?_) rfl ?_ ?_;rotate_left
  · (intro w t;go_simp;try rfl)
  (try simp only [pu]);refine callA 8 rfl fun K C=>?_;go_simp;refine C.out _ _ ?_ (fun ah=>?_);· exact (by (iterate 6 (refine Far.setCell (p:=⟨(w.heap.size+2),_,none⟩) ?_ (.inr rfl) _));exact a6)
  clear C K;refine wpAnyH_done (by kernel_rfl) ?_ _;clear xc;generalize a:World.setCell _ ⟨(w.heap.size+2),5,none⟩ _=al;have bf:=sizeS6 a;replace d:=fN6 d a;replace e:=bF6 e a;replace o:=bS6 o a;replace a2:=sS6 a2 a;clear a;clear O
  go_wp2_with (fail)
  have z:=kc6 e;have y:=kc6 o;refine bodyPost_ret (v:=.tuple #[.agg #[.slice aL n cap,.int .i64 (m:Int),.int .i64 (Q:Int),.bool false,.int .i64 a0,.int .i64 b0],.agg #[.int .i64 6,.string ⟨#[]⟩,.int .i64 0,.slice (some ⟨u.heap.size+2,0,none⟩) 3 3,.int .i64 (nowT ts i).l,.int .i64 (nowT ts i).c]]) (by clear d H P e o B aa E ac M N V W X Y a2;simp [results,Tryz.results66,go_sem,z,y]) rfl ?_
  have ap:=zz (OwnS.sameO a2.out (A:=Av w6.heap.size u.heap.size u.heap.size) fun k hk=>by have bc:u.heap.size+2=k:=Option.some.inj hk;exact ⟨by omega,by omega,by omega⟩)
  exact ⟨_,_,_,rfl,refBelow d.out,(memS_nw ap.out (fun b q=>Nat.le_trans (by omega) q.1))⟩
end
end
section
open Go.RowKit
section
variable (ts:List Tk) (aL:Option Addr) (n cap:Nat)
structure AllRR (g:Nat):Prop where
  ex:ReadsR ts aL n cap 66 .expr g
  rk:ReadsK ts aL n cap g
  tm:ReadsR ts aL n cap 148 .atom g
theorem allRR_zero:AllRR ts aL n cap 0 where
  ex:=fun i e r b d w _ _ _ a=>by rw [readE] at a;cases a
  rk:=fun f i e r b d w _ _ _ _ _ a=>by rw [readE] at a;cases a
  tm:=fun i e r b d w _ _ _ a=>by rw [readE] at a;cases a
theorem allRR_succ (F:Nat) (ih:∀ g,g≤F→AllRR ts aL n cap g):AllRR ts aL n cap (F+1) where
  ex:=fun i deep r a0 b0 w hd hm hn hr=>by
    cases hlet:isT ts i 5 wLet with
    | false =>
      by_cases hif:isT ts i 5 wIf=true
      · by_cases h40:deep=40
        · exact exprR_A hr hlet (fun _ h=>absurd h40 h) w hd hm hn (ih F (Nat.le_refl _)).ex (ih F (Nat.le_refl _)).rk
        · by_cases hD:∃ (x:Ex) (j:Nat) (y:Ex) (k:Nat),readE ts F .expr (i+1) (deep+1)=some (.ok x j)∧isT ts j 5 wThen=true∧readE ts F .expr (j+1) (deep+1)=some (.ok y k)
          · exact exprR_D hr hlet hif h40 hD w hd hm hn (ih F (Nat.le_refl _)).ex (ih F (Nat.le_refl _)).rk
          · exact exprR_A hr hlet (fun _ _ x j y k h1 h2 h3=>hD ⟨x,j,y,k,h1,h2,h3⟩) w hd hm hn (ih F (Nat.le_refl _)).ex (ih F (Nat.le_refl _)).rk
      · exact exprR_A hr hlet (fun h=>absurd h hif) w hd hm hn (ih F (Nat.le_refl _)).ex (ih F (Nat.le_refl _)).rk
    | true =>
      by_cases h40:deep=40
      · exact exprR_B hr hlet (.inl h40) w hd hm hn (ih F (Nat.le_refl _)).ex (ih F (Nat.le_refl _)).rk
      · by_cases hnm:(nowT ts (i+1)).k≠2
        · exact exprR_B hr hlet (.inr (.inl hnm)) w hd hm hn (ih F (Nat.le_refl _)).ex (ih F (Nat.le_refl _)).rk
        · cases hfr:isT ts (i+2) 5 wFree with
          | true=>exact exprR_B hr hlet (.inr (.inr hfr)) w hd hm hn (ih F (Nat.le_refl _)).ex (ih F (Nat.le_refl _)).rk
          | false=>exact exprR_C hr hlet h40 hnm hfr w hd hm hn (ih F (Nat.le_refl _)).ex (ih F (Nat.le_refl _)).rk
  rk:=rank_reads F (fun g hg=>(ih g hg).rk) fun i deep r a0 b0 w hd hm hn hr=>appR_reads w hd hm hn hr fun g hg=>(ih g hg).tm
  tm:=fun i deep r a0 b0 w hd hm hn hr=>atomR_succ hr w hd hm hn (ih F (Nat.le_refl _)).ex
theorem allRR_le:∀ F g,g≤F→AllRR ts aL n cap g
  | 0, g, h => by obtain rfl : g = 0 := by omega
                  exact allRR_zero ts aL n cap
  | F + 1, g, h => by
    by_cases e:g=F+1
    · subst e
      exact allRR_succ ts aL n cap F (allRR_le F)
    · exact allRR_le F g (by omega)
theorem allRR (F:Nat):AllRR ts aL n cap F:=allRR_le ts aL n cap F F (Nat.le_refl _)
end
end
end Go.Proofs.YtcoiagfeoonpbaaGreat
