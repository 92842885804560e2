/-
 The document's reader's app and rank, once something can't be: they hand it on. No condition but how the tokens lie.
-/
import Derived.Test.YtcoiagfeoonpbaaGreatMp14
import Derived.Test.YtcoiagfeoonpbaaGreatMp10
set_option maxHeartbeats 20000000
set_option maxRecDepth 100000
namespace Go.Proofs.YtcoiagfeoonpbaaGreat
section
open Go.RowKit
section
variable {ts:List Tk} {aL:Option Addr} {n cap:Nat}
attribute [local go_sem] tk_pos
end
end
section
open Go.RowKit
section
variable {ts:List Tk} {aL:Option Addr} {n cap:Nat}
attribute [local go_sem] tk_pos
theorem plain_kind {t:Tk} {x:Ex} (h:plainE t=some x):x.kind≠0:=by
 unfold plainE at h
 split at h
 · (cases h;exact (by decide:(1:Int)≠0))
 ·
  split at h
  · (cases h;exact (by decide:(2:Int)≠0))
  ·
   split at h
   · (cases h;exact (by decide:(3:Int)≠0))
   · cases h
theorem memNoneR {base:Nat} {w:World} {x:Ex} (h:x.args=[]):Mem (Nw 0 base w.heap.size) w (.s 6 (Ex.rows x.args)) (.slice none 0 0):=by
 rw [h,Ex.rows_eq];exact .e none 0 6 (by decide)
theorem plain_argsR {t:Tk} {x:Ex} (h:plainE t=some x):x.args=[]:=by
 unfold plainE at h
 split at h
 · (cases h;rfl)
 ·
  split at h
  · (cases h;rfl)
  ·
   split at h
   · (cases h;rfl)
   · cases h
theorem downR_bad2 {i a:Nat} {l c:Int} (w:World) (h:MemW w (.s 5 (tkRows ts)) (.slice aL n cap)) (b:a=40):
  Calls Tryz.prog 105 #[rdV aL n cap (i:Int) (a:Int) false l c] w fun e d=>e=.returned (rdV aL n cap (i:Int) (a:Int) true (nowT ts i).l (nowT ts i).c)∧Below w.heap.size w d:=by
 subst b;exact downR_bad w h
theorem atomR_succ {f i N:Nat} {r:Rd1} {a0 b0:Int} (E:readE ts (f+1) .atom i N=some r) (w:World) (hd:N≤40) (h:MemW w (.s 5 (tkRows ts)) (.slice aL n cap)) (hn:n≤1048576) (HE:ReadsR ts aL n cap 66 .expr f):
  Calls Tryz.prog 148 #[rdV aL n cap (i:Int) (N:Int) false a0 b0] w (AnsR aL n cap r N a0 b0 w):=by
 have H:=zz h;clear h;rw [readE] at E;have d:Hid (FarB w.heap.size w.heap.size w w):=zz (FarB.refl _ _ _);simp only [rdV];go_enter Tryz.func148,Tryz.ntmps148
 go_wp2_with (fail)
 generalize a:World.alloc w _=ap;have J:=sizeA a;replace d:=fA d a;have t:=nB a (w.heap.size);clear a;generalize a:World.alloc ap _=ar;have L:=sizeA a;replace d:=fA d a;replace t:=bA t a;have m:=nB a (w.heap.size+1);clear a;generalize a:World.alloc ar _=w1;have ak:=sizeA a;replace d:=fA d a;replace t:=bA t a;replace m:=bA m a;have o:=nB a (w.heap.size+2);clear a
 have aw:w1.heap.size=w.heap.size+3:=by omega
 clear J L ak
 cases hpl:plainE (nowT ts i) with
 | some x=>
  simp only [hpl] at E;cases E
  have ek:(x.kind != 0)=true:=by simp [plain_kind hpl]
  refine (plainR_ok _ (refTok d.out H.out) hpl).mono ?_;rintro _ W ⟨rfl,q⟩;replace m:=kB m q;replace o:=kB o q;replace d:=kF d q;have al:=q.size;clear q;simp only [rdV,exV]
  go_wp2_with (fail)
  generalize a:World.alloc W _=ad;have J:=sizeA a;replace d:=fA d a;replace m:=bA m a;replace o:=bA o a;have a7:=nB a (W.heap.size);clear a;generalize a:World.alloc ad _=w3;have L:=sizeA a;replace d:=fA d a;replace m:=bA m a;replace o:=bA o a;replace a7:=bA a7 a;have Y:=nB a (W.heap.size+1);clear a
  have ao:w3.heap.size=W.heap.size+2:=by omega
  clear J L;clear t;have R:=kc6 m;have tc:=kc6 a7;have X:=kc6 Y;refine wp_region_held_drew (S:=fun T=>Far (fun b=>b=(w.heap.size+1)∨b=(w.heap.size+2)) (w3) T) (by kernel_rfl) (Far.of (below_drew _)) (fun a2=>?_);refine takeA 0 (v:=?_) rfl ?_ ?_;rotate_left
  · (intro w D;replace tc:=Far.c6z tc D;go_simp;try rfl)
  (try simp only [pu]);refine takeA 1 (v:=?_) rfl ?_ ?_;rotate_left
  · (intro w D;replace X:=Far.c6z X D;go_simp;try rfl)
  (try simp only [pu]);refine callA 2 rfl fun K A=>?_;go_simp;refine A.out _ _ ?_ (fun Q=>?_);· exact (by refine Far.trans ?_ (Far.of (below_drew _));(iterate 6 (refine Far.setCell (p:=⟨(w.heap.size+1),_,none⟩) ?_ (.inl rfl) _));exact Far.refl _ _)
  clear A K;clear R tc X;generalize a:World.setCell _ ⟨(w.heap.size+1),5,none⟩ _=au at *;replace d:=fN6 d a;replace m:=bS6 m a;replace o:=bF6 o a;clear a;generalize a:(au.drew)=w4 at *;replace d:=fD d a;replace m:=bD m a;replace o:=bD o a;clear a;have V:=kc6 o;refine callA 3 rfl fun K A=>?_;go_simp;refine A.out _ _ ?_ (fun a3=>?_);· exact (by (iterate 6 (refine Far.setCell (p:=⟨(w.heap.size+2),_,none⟩) ?_ (.inr rfl) _));exact Q)
  clear A K;refine wpAnyH_done (by kernel_rfl) ?_ _;clear V;generalize a:World.setCell _ ⟨(w.heap.size+2),5,none⟩ _=w5;replace d:=fN6 d a;replace m:=bF6 m a;replace o:=bS6 o a;clear a
  go_wp2_with (fail)
  have z:=kc6 m;have y:=kc6 o;refine bodyPost_ret (v:=.tuple #[.agg #[.slice aL n cap,.int .i64 ((i:Int)+1),.int .i64 (N:Int),.bool false,.int .i64 a0,.int .i64 b0],.agg #[.int .i64 x.kind,.string x.name,.int .i64 x.n,.slice none 0 0,.int .i64 x.line,.int .i64 x.col]]) (by clear d H m o a7 Y;simp [results,Tryz.results148,go_sem,z,y]) rfl ?_;exact ⟨_,_,_,rfl,refBelow d.out,memNoneR (plain_argsR hpl)⟩
 | none=>
  simp only [hpl] at E;refine (plainR_no _ (refTok d.out H.out) hpl).mono ?_;rintro _ W ⟨rfl,q⟩;replace t:=kB t q;replace m:=kB m q;replace o:=kB o q;replace d:=kF d q;have al:=q.size;clear q;simp only [rdV];have M:=kc6 t;have I:=i012_0 w W
  go_wp2_with (fail)
  clear M;generalize a:World.alloc W _=ad;have J:=sizeA a;replace d:=fA d a;replace t:=bA t a;replace m:=bA m a;replace o:=bA o a;clear a;generalize a:World.alloc ad _=w3;have L:=sizeA a;replace d:=fA d a;replace t:=bA t a;replace m:=bA m a;replace o:=bA o a;have Y:=nB a (W.heap.size+1);clear a
  have ao:w3.heap.size=W.heap.size+2:=by omega
  clear J L;clear I
  rcases a5:isT ts i 6 wOpen
  ·
   simp only [a5,Bool.false_eq_true,if_false] at E;cases E;refine (isR_ok (s:=wOpen) _ (refTok d.out H.out)).mono ?_;rintro _ w4 ⟨rfl,q⟩;replace t:=kB t q;replace m:=kB m q;replace o:=kB o q;replace Y:=kB Y q;replace d:=kF d q;have am:=q.size;clear q;rw [a5];have M:=kc6 t;have X:=kc6 Y;have I:=i012_01_0 w W w4
   go_wp2_with (fail)
   refine wp_region_held_drew (S:=fun T=>Far (fun b=>b=(w.heap.size+1)∨b=(w.heap.size+2)) (w4) T) (by kernel_rfl) (Far.of (below_drew _)) (fun a2=>?_);refine takeA 0 (v:=?_) rfl ?_ ?_;rotate_left
   · (intro w D;replace M:=Far.c6z M D;replace X:=Far.c6z X D;go_simp;try rfl)
   (try simp only [pu]);refine takeA 2 (v:=?_) rfl ?_ ?_;rotate_left
   · (intro w D;replace M:=Far.c6z M D;replace X:=Far.c6z X D;go_simp;try rfl)
   (try simp only [pu]);refine callA 1 rfl fun K A=>?_;go_simp;refine (failR_ok _ (refTok d.out.drew H.out)).mono ?_;rintro e b1 ⟨rfl,q⟩;clear M X;have ai:=q;replace q:=Below.one q;replace m:=kB m q;replace o:=kB o q;replace d:=kF d q;clear q;simp only [rdV];go_simp;refine A.out _ _ ?_ (fun Q=>?_);· exact Far.trans a2 (Far.of ai)
   clear A K;clear I;have R:=kc6 m;refine callA 3 rfl fun K A=>?_;go_simp;refine A.out _ _ ?_ (fun a3=>?_);· exact (by (iterate 6 (refine Far.setCell (p:=⟨(w.heap.size+1),_,none⟩) ?_ (.inl rfl) _));exact Q)
   clear A K;clear R;generalize a:World.setCell _ ⟨(w.heap.size+1),5,none⟩ _=ay at *;replace d:=fN6 d a;replace m:=bS6 m a;replace o:=bF6 o a;clear a;have V:=kc6 o;refine callA 4 rfl fun K A=>?_;go_simp;refine A.out _ _ ?_ (fun av=>?_);· exact (by (iterate 6 (refine Far.setCell (p:=⟨(w.heap.size+2),_,none⟩) ?_ (.inr rfl) _));exact a3)
   clear A K;refine wpAnyH_done (by kernel_rfl) ?_ _;clear V;generalize a:World.setCell _ ⟨(w.heap.size+2),5,none⟩ _=az;replace d:=fN6 d a;replace m:=bF6 m a;replace o:=bS6 o a;clear a
   go_wp2_with (fail)
   have z:=kc6 m;have y:=kc6 o;refine bodyPost_ret (v:=.tuple #[.agg #[.slice aL n cap,.int .i64 (i:Int),.int .i64 (N:Int),.bool true,.int .i64 (nowT ts i).l,.int .i64 (nowT ts i).c],.agg #[.int .i64 0,.string ⟨#[]⟩,.int .i64 0,.slice none 0 0,.int .i64 0,.int .i64 0]]) (by clear d H t m o Y;simp [results,Tryz.results148,go_sem,z,y]) rfl ?_;exact ⟨_,_,_,_,_,_,_,_,_,_,rfl,refBelow d.out⟩
  simp only [a5,if_true] at E;clear Y;refine (isR_ok (s:=wOpen) _ (refTok d.out H.out)).mono ?_;rintro _ w4 ⟨rfl,q⟩;replace t:=kB t q;replace m:=kB m q;replace o:=kB o q;replace d:=kF d q;have am:=q.size;clear q;rw [a5];have M:=kc6 t
  go_wp2_with (fail)
  by_cases a8:N=40
  ·
   rw [if_pos a8] at E;cases E;clear M;refine (downR_bad2 _ (refTok d.out H.out) a8).mono ?_;rintro _ w5 ⟨rfl,q⟩;replace t:=kB t q;replace m:=kB m q;replace o:=kB o q;replace d:=kF d q;have an:=q.size;clear q;clear a8;simp only [rdV]
   go_wp2_with (fail)
   refine (exprR_bad _ (refTok d.out H.out)).mono ?_;rintro _ C ⟨iq,dq,kq,sq,nq,aq,mq,cq,uq,vq,rfl,q⟩;replace t:=kB t q;replace m:=kB m q;replace o:=kB o q;replace d:=kF d q;have ag:=q.size;clear q;simp only [rdV]
   go_wp2_with (fail)
   generalize a:World.alloc C _=a6;have J:=sizeA a;replace d:=fA d a;replace t:=bA t a;replace m:=bA m a;replace o:=bA o a;have u:=nB a (C.heap.size);clear a;generalize a:World.alloc a6 _=w7;have L:=sizeA a;replace d:=fA d a;replace t:=bA t a;replace m:=bA m a;replace o:=bA o a;replace u:=bA u a;have B:=nB a (C.heap.size+1);clear a
   have ah:w7.heap.size=C.heap.size+2:=by omega
   clear J L;refine (takeR_bad _ (refTok d.out H.out)).mono ?_;rintro _ U ⟨rfl,q⟩;replace t:=kB t q;replace m:=kB m q;replace o:=kB o q;replace u:=kB u q;replace B:=kB B q;replace d:=kF d q;have a9:=q.size;clear q;simp only [rdV];have M:=kc6 t;have F:=kc6 u;have I:=i012_01_0 w C U
   go_wp2_with (fail)
   clear M F;generalize a:World.setCell _ ⟨C.heap.size,5,none⟩ _=a1;have J:=sizeS6 a;replace d:=fN6 d a;replace m:=bF6 m a;replace o:=bF6 o a;replace u:=bS6 u a;replace B:=bF6 B a;clear a;generalize a:World.setCell a1 _ _=P;have L:=sizeS1 a;replace d:=fN1 d a;replace m:=bF1 m a;replace o:=bF1 o a;replace u:=s6_2 u a;replace B:=bF1 B a;clear a
   have aa:P.heap.size=U.heap.size:=by omega
   clear J L;clear I;clear t;have R:=kc6 m;have F:=kc6 u;have O:=kc6 B;have I:=i12_01_0 w C P;refine wp_region_held_drew (S:=fun T=>Far (fun b=>b=(w.heap.size+1)∨b=(w.heap.size+2)) (P) T) (by kernel_rfl) (Far.of (below_drew _)) (fun a2=>?_);refine takeA 0 (v:=?_) rfl ?_ ?_;rotate_left
   · (intro w D;replace F:=Far.c6z F D;go_simp;try rfl)
   (try simp only [pu]);refine takeA 1 (v:=?_) rfl ?_ ?_;rotate_left
   · (intro w D;replace O:=Far.c6z O D;go_simp;try rfl)
   (try simp only [pu]);refine callA 2 rfl fun K A=>?_;go_simp;refine A.out _ _ ?_ (fun Q=>?_);· exact (by refine Far.trans ?_ (Far.of (below_drew _));(iterate 6 (refine Far.setCell (p:=⟨(w.heap.size+1),_,none⟩) ?_ (.inl rfl) _));exact Far.refl _ _)
   clear A K;clear R F O;generalize a:World.setCell _ ⟨(w.heap.size+1),5,none⟩ _=Z at *;replace d:=fN6 d a;replace m:=bS6 m a;replace o:=bF6 o a;clear a;generalize a:(Z.drew)=ab at *;replace d:=fD d a;replace m:=bD m a;replace o:=bD o a;clear a;clear I;have V:=kc6 o;refine callA 3 rfl fun K A=>?_;go_simp;refine A.out _ _ ?_ (fun a3=>?_);· exact (by (iterate 6 (refine Far.setCell (p:=⟨(w.heap.size+2),_,none⟩) ?_ (.inr rfl) _));exact Q)
   clear A K;refine wpAnyH_done (by kernel_rfl) ?_ _;clear V;generalize a:World.setCell _ ⟨(w.heap.size+2),5,none⟩ _=ac;replace d:=fN6 d a;replace m:=bF6 m a;replace o:=bS6 o a;clear a
   go_wp2_with (fail)
   have z:=kc6 m;have y:=kc6 o;refine bodyPost_ret (v:=.tuple #[.agg #[.slice aL n cap,.int .i64 (iq:Int),.int .i64 (N:Int),.bool true,.int .i64 (nowT ts i).l,.int .i64 (nowT ts i).c],.agg #[.int .i64 kq,.string sq,.int .i64 nq,.slice aq mq cq,.int .i64 uq,.int .i64 vq]]) (by clear d H m o u B;simp [results,Tryz.results148,go_sem,z,y]) rfl ?_;exact ⟨_,_,_,_,_,_,_,_,_,_,rfl,refBelow d.out⟩
  rw [if_neg a8] at E;have aj:i<ts.length:=isT_lt a5 (by decide)
  have af:N+1≤40:=by omega
  clear M;refine (downR_ok _ (refTok d.out H.out) (by omega) aj).mono ?_;rintro _ w5 ⟨rfl,q⟩;replace t:=kB t q;replace m:=kB m q;replace o:=kB o q;replace d:=kF d q;have an:=q.size;clear q;simp only [rdV]
  go_wp2_with (fail)
  rcases hx:readE ts f .expr (i+1) (N+1) with _ | ⟨x,j⟩ | ⟨l_,c_⟩
  · (rw [hx] at E;cases E)
  rotate_left
  ·
   rw [hx] at E
   first | simp only at E | simp only [andT] at E
   cases E;refine (HE (i+1) (N+1) _ _ _ _ af (refTok d.out H.out) hn hx).mono ?_;rintro _ C ⟨iq,dq,kq,sq,nq,aq,mq,cq,uq,vq,rfl,q⟩;replace t:=kB t q;replace m:=kB m q;replace o:=kB o q;replace d:=kF d q;have ag:=q.size;clear q;simp only [rdV]
   go_wp2_with (fail)
   generalize a:World.alloc C _=a6;have J:=sizeA a;replace d:=fA d a;replace t:=bA t a;replace m:=bA m a;replace o:=bA o a;have u:=nB a (C.heap.size);clear a;generalize a:World.alloc a6 _=w7;have L:=sizeA a;replace d:=fA d a;replace t:=bA t a;replace m:=bA m a;replace o:=bA o a;replace u:=bA u a;have B:=nB a (C.heap.size+1);clear a
   have ah:w7.heap.size=C.heap.size+2:=by omega
   clear J L;refine (takeR_bad _ (refTok d.out H.out)).mono ?_;rintro _ U ⟨rfl,q⟩;replace t:=kB t q;replace m:=kB m q;replace o:=kB o q;replace u:=kB u q;replace B:=kB B q;replace d:=kF d q;have a9:=q.size;clear q;simp only [rdV];have M:=kc6 t;have F:=kc6 u;have I:=i012_01_0 w C U
   go_wp2_with (fail)
   clear M F;generalize a:World.setCell _ ⟨C.heap.size,5,none⟩ _=a1;have J:=sizeS6 a;replace d:=fN6 d a;replace m:=bF6 m a;replace o:=bF6 o a;replace u:=bS6 u a;replace B:=bF6 B a;clear a;generalize a:World.setCell a1 _ _=P;have L:=sizeS1 a;replace d:=fN1 d a;replace m:=bF1 m a;replace o:=bF1 o a;replace u:=s6_2 u a;replace B:=bF1 B a;clear a
   have aa:P.heap.size=U.heap.size:=by omega
   clear J L;clear I;clear t;have R:=kc6 m;have F:=kc6 u;have O:=kc6 B;have I:=i12_01_0 w C P;refine wp_region_held_drew (S:=fun T=>Far (fun b=>b=(w.heap.size+1)∨b=(w.heap.size+2)) (P) T) (by kernel_rfl) (Far.of (below_drew _)) (fun a2=>?_);refine takeA 0 (v:=?_) rfl ?_ ?_;rotate_left
   · (intro w D;replace F:=Far.c6z F D;go_simp;try rfl)
   (try simp only [pu]);refine takeA 1 (v:=?_) rfl ?_ ?_;rotate_left
   · (intro w D;replace O:=Far.c6z O D;go_simp;try rfl)
   (try simp only [pu]);refine callA 2 rfl fun K A=>?_;go_simp;refine A.out _ _ ?_ (fun Q=>?_);· exact (by refine Far.trans ?_ (Far.of (below_drew _));(iterate 6 (refine Far.setCell (p:=⟨(w.heap.size+1),_,none⟩) ?_ (.inl rfl) _));exact Far.refl _ _)
   clear A K;clear R F O;generalize a:World.setCell _ ⟨(w.heap.size+1),5,none⟩ _=Z at *;replace d:=fN6 d a;replace m:=bS6 m a;replace o:=bF6 o a;clear a;generalize a:(Z.drew)=ab at *;replace d:=fD d a;replace m:=bD m a;replace o:=bD o a;clear a;clear I;have V:=kc6 o;refine callA 3 rfl fun K A=>?_;go_simp;refine A.out _ _ ?_ (fun a3=>?_);· exact (by (iterate 6 (refine Far.setCell (p:=⟨(w.heap.size+2),_,none⟩) ?_ (.inr rfl) _));exact Q)
   clear A K;refine wpAnyH_done (by kernel_rfl) ?_ _;clear V;generalize a:World.setCell _ ⟨(w.heap.size+2),5,none⟩ _=ac;replace d:=fN6 d a;replace m:=bF6 m a;replace o:=bS6 o a;clear a
   go_wp2_with (fail)
   have z:=kc6 m;have y:=kc6 o;refine bodyPost_ret (v:=.tuple #[.agg #[.slice aL n cap,.int .i64 (iq:Int),.int .i64 (N:Int),.bool true,.int .i64 l_,.int .i64 c_],.agg #[.int .i64 kq,.string sq,.int .i64 nq,.slice aq mq cq,.int .i64 uq,.int .i64 vq]]) (by clear d H m o u B;simp [results,Tryz.results148,go_sem,z,y]) rfl ?_;exact ⟨_,_,_,_,_,_,_,_,_,_,rfl,refBelow d.out⟩
  rw [hx] at E
  first | simp only at E | simp only [andT] at E
  refine (HE (i+1) (N+1) _ _ _ _ af (refTok d.out H.out) hn hx).mono ?_;rintro _ C ⟨ax,mx,cx,rfl,q,hm⟩;replace t:=kB t q;replace m:=kB m q;replace o:=kB o q;replace d:=kF d q;have ag:=q.size;clear q;have ae:=zz hm;clear hm;simp only [rdV,exV]
  go_wp2_with (fail)
  have G:=zz (memX_of (base:=w5.heap.size) (g:=C.heap.size) ae.out (Nat.le_refl _) (by omega));clear ae;generalize a:World.alloc C _=a6;have J:=sizeA a;replace d:=fA d a;replace t:=bA t a;replace m:=bA m a;replace o:=bA o a;replace G:=xA G a;have u:=nB a (C.heap.size);clear a;generalize a:World.alloc a6 _=w7;have L:=sizeA a;replace d:=fA d a;replace t:=bA t a;replace m:=bA m a;replace o:=bA o a;replace u:=bA u a;replace G:=xA G a;have B:=nB a (C.heap.size+1);clear a
  have ah:w7.heap.size=C.heap.size+2:=by omega
  clear J L
  rcases a4:isT ts j 6 wClose
  rotate_left
  ·
   first | simp only [a4,if_true] at E | simp only [takeT,a4,if_true] at E
   cases E;refine (takeR_ok _ (refTok d.out H.out) a4 (by decide)).mono ?_;rintro _ U ⟨rfl,q⟩;replace t:=kB t q;replace m:=kB m q;replace o:=kB o q;replace u:=kB u q;replace B:=kB B q;replace G:=kX G q;replace d:=kF d q;have a9:=q.size;clear q;simp only [rdV];have M:=kc6 t;have F:=kc6 u;have I:=i012_01_0 w C U
   go_wp2_with (fail)
   clear M F;generalize a:World.setCell _ ⟨C.heap.size,5,none⟩ _=a1;have J:=sizeS6 a;replace d:=fN6 d a;replace m:=bF6 m a;replace o:=bF6 o a;replace u:=bS6 u a;replace B:=bF6 B a;replace G:=xS6 G a;clear a;generalize a:World.setCell a1 _ _=P;have L:=sizeS1 a;replace d:=fN1 d a;replace m:=bF1 m a;replace o:=bF1 o a;replace u:=s6_2 u a;replace B:=bF1 B a;replace G:=xS1 G a;clear a
   have aa:P.heap.size=U.heap.size:=by omega
   clear J L;clear I;clear t;have R:=kc6 m;have F:=kc6 u;have O:=kc6 B;have I:=i12_01_0 w C P;refine wp_region_held_drew (S:=fun T=>Far (fun b=>b=(w.heap.size+1)∨b=(w.heap.size+2)) (P) T) (by kernel_rfl) (Far.of (below_drew _)) (fun a2=>?_);refine takeA 0 (v:=?_) rfl ?_ ?_;rotate_left
   · (intro w D;replace F:=Far.c6z F D;go_simp;try rfl)
   (try simp only [pu]);refine takeA 1 (v:=?_) rfl ?_ ?_;rotate_left
   · (intro w D;replace O:=Far.c6z O D;go_simp;try rfl)
   (try simp only [pu]);refine callA 2 rfl fun K A=>?_;go_simp;refine A.out _ _ ?_ (fun Q=>?_);· exact (by refine Far.trans ?_ (Far.of (below_drew _));(iterate 6 (refine Far.setCell (p:=⟨(w.heap.size+1),_,none⟩) ?_ (.inl rfl) _));exact Far.refl _ _)
   clear A K;clear R F O;generalize a:World.setCell _ ⟨(w.heap.size+1),5,none⟩ _=Z at *;replace d:=fN6 d a;replace m:=bS6 m a;replace o:=bF6 o a;replace G:=xS6 G a;clear a;generalize a:(Z.drew)=ab at *;replace d:=fD d a;replace m:=bD m a;replace o:=bD o a;replace G:=xD G a;clear a;clear I;have V:=kc6 o;refine callA 3 rfl fun K A=>?_;go_simp;refine A.out _ _ ?_ (fun a3=>?_);· exact (by (iterate 6 (refine Far.setCell (p:=⟨(w.heap.size+2),_,none⟩) ?_ (.inr rfl) _));exact Q)
   clear A K;refine wpAnyH_done (by kernel_rfl) ?_ _;clear V;generalize a:World.setCell _ ⟨(w.heap.size+2),5,none⟩ _=ac;replace d:=fN6 d a;replace m:=bF6 m a;replace o:=bS6 o a;replace G:=xS6 G a;clear a
   go_wp2_with (fail)
   have z:=kc6 m;have y:=kc6 o;refine bodyPost_ret (v:=.tuple #[.agg #[.slice aL n cap,.int .i64 ((j:Int)+1),.int .i64 (N:Int),.bool false,.int .i64 a0,.int .i64 b0],.agg #[.int .i64 x.kind,.string x.name,.int .i64 x.n,.slice ax mx cx,.int .i64 x.line,.int .i64 x.col]]) (by clear d H m o u B G;simp [results,Tryz.results148,go_sem,z,y]) rfl ?_;exact ⟨_,_,_,rfl,refBelow d.out,memNw (memX_nw G.out) (by omega)⟩
  first | simp only [a4,Bool.false_eq_true,if_false] at E | simp only [takeT,a4,Bool.false_eq_true,if_false] at E
  cases E;refine (takeR_no _ (refTok d.out H.out) a4).mono ?_;rintro _ U ⟨rfl,q⟩;replace t:=kB t q;replace m:=kB m q;replace o:=kB o q;replace u:=kB u q;replace B:=kB B q;replace d:=kF d q;have a9:=q.size;clear q;simp only [rdV];have M:=kc6 t;have F:=kc6 u;have I:=i012_01_0 w C U
  go_wp2_with (fail)
  clear M F;generalize a:World.setCell _ ⟨C.heap.size,5,none⟩ _=a1;have J:=sizeS6 a;replace d:=fN6 d a;replace m:=bF6 m a;replace o:=bF6 o a;replace u:=bS6 u a;replace B:=bF6 B a;clear a;generalize a:World.setCell a1 _ _=P;have L:=sizeS1 a;replace d:=fN1 d a;replace m:=bF1 m a;replace o:=bF1 o a;replace u:=s6_2 u a;replace B:=bF1 B a;clear a
  have aa:P.heap.size=U.heap.size:=by omega
  clear J L;clear I;clear t;have R:=kc6 m;have F:=kc6 u;have O:=kc6 B;have I:=i12_01_0 w C P;refine wp_region_held_drew (S:=fun T=>Far (fun b=>b=(w.heap.size+1)∨b=(w.heap.size+2)) (P) T) (by kernel_rfl) (Far.of (below_drew _)) (fun a2=>?_);refine takeA 0 (v:=?_) rfl ?_ ?_;rotate_left
  · (intro w D;replace F:=Far.c6z F D;go_simp;try rfl)
  (try simp only [pu]);refine takeA 1 (v:=?_) rfl ?_ ?_;rotate_left
  · (intro w D;replace O:=Far.c6z O D;go_simp;try rfl)
  (try simp only [pu]);refine callA 2 rfl fun K A=>?_;go_simp;refine A.out _ _ ?_ (fun Q=>?_);· exact (by refine Far.trans ?_ (Far.of (below_drew _));(iterate 6 (refine Far.setCell (p:=⟨(w.heap.size+1),_,none⟩) ?_ (.inl rfl) _));exact Far.refl _ _)
  clear A K;clear R F O;generalize a:World.setCell _ ⟨(w.heap.size+1),5,none⟩ _=Z at *;replace d:=fN6 d a;replace m:=bS6 m a;replace o:=bF6 o a;clear a;generalize a:(Z.drew)=ab at *;replace d:=fD d a;replace m:=bD m a;replace o:=bD o a;clear a;clear I;have V:=kc6 o;refine callA 3 rfl fun K A=>?_;go_simp;refine A.out _ _ ?_ (fun a3=>?_);· exact (by (iterate 6 (refine Far.setCell (p:=⟨(w.heap.size+2),_,none⟩) ?_ (.inr rfl) _));exact Q)
  clear A K;refine wpAnyH_done (by kernel_rfl) ?_ _;clear V;generalize a:World.setCell _ ⟨(w.heap.size+2),5,none⟩ _=ac;replace d:=fN6 d a;replace m:=bF6 m a;replace o:=bS6 o a;clear a
  go_wp2_with (fail)
  have z:=kc6 m;have y:=kc6 o;refine bodyPost_ret (v:=.tuple #[.agg #[.slice aL n cap,.int .i64 (j:Int),.int .i64 (N:Int),.bool true,.int .i64 (nowT ts j).l,.int .i64 (nowT ts j).c],.agg #[.int .i64 x.kind,.string x.name,.int .i64 x.n,.slice ax mx cx,.int .i64 x.line,.int .i64 x.col]]) (by clear d H m o u B G;simp [results,Tryz.results148,go_sem,z,y]) rfl ?_;exact ⟨_,_,_,_,_,_,_,_,_,_,rfl,refBelow d.out⟩
end
end
section
open Go.RowKit
def rkN (n:Nat):Nt:=if n=1 then .or else .left n
def moreR (ts:List Tk) (f n:Nat) (e:Ex) (i deep:Nat):Option Rd1:=
  if (nowT ts i).k=6∧bindsE (nowT ts i).s=n then
    andT (readE ts f (rkN (if n=1 then 1 else n+1)) (i+1) deep) fun y j=>if n≤2 then some (.ok (.mk 5 (nowT ts i).s 0 [e,y] (nowT ts i).l (nowT ts i).c) j) else readE ts f (.more n (.mk 5 (nowT ts i).s 0 [e,y] (nowT ts i).l (nowT ts i).c)) j deep
  else some (.ok e i)
theorem binds_or {s:ByteArray} :bindsE s=1 ↔ s=wOr:=by
  unfold bindsE
  constructor
  · intro h
    split at h
    · assumption
    · split at h
      · cases h
      · split at h
        · cases h
        · split at h <;> cases h
  · intro h;rw [if_pos h]
theorem or_more {ts:List Tk} {f i a:Nat} :readE ts (f+1) .or i a=andT (readE ts f (.left 2) i a) fun x j=>moreR ts f 1 x j a:=by
  rw [readE]
  congr 1
  funext x j
  unfold moreR isT
  by_cases b:(nowT ts j).k=6
  · by_cases d:(nowT ts j).s=wOr
    · simp [b,d,binds_or.2 rfl,rkN]
    · have e: ¬bindsE (nowT ts j).s=1:=fun h=>d (binds_or.1 h)
      simp [b,d,e]
  · simp [b]
theorem left_more {ts:List Tk} {f n i a:Nat} {e:Ex} (h:2≤n):readE ts (f+1) (.more n e) i a=moreR ts f n e i a:=by
  rw [readE];unfold moreR
  have b: ¬n=1:=by omega
  have d:(n≤2)=(n=2):=by rw [eq_iff_iff];omega
  have g: ¬n+1=1:=by omega
  simp only [b,if_false,d,rkN,g]
end
section
open Go.RowKit
section
variable {A A':Nat→Prop} {base sz:Nat} {e:TypeId} {w w':World} {y:Value} {rs:List (List At)}
theorem OwnS.nil (A:Nat→Prop) (base:Nat) (e:TypeId) (sz:Nat) (w:World):OwnS A base e sz w (.slice none 0 0) []:=⟨[],World.ownsRow_nil w base e sz,.nil⟩
theorem OwnS.conv (h:OwnS A base e sz w y rs) (g:∀ b,A b→b<w.heap.size→A' b):OwnS A' base e sz w y rs:=by
  obtain ⟨css,d,f⟩:=h;exact ⟨css,d,f.imp fun r cs ⟨hc,hm⟩=>⟨hc,hm.imp fun x j i=>i.mono (fun b a=>⟨⟨g b a.1.1 a.1.2,a.1.2⟩,a.2⟩) fun _ _=>rfl⟩⟩
theorem OwnS.sameO (h:OwnS A base e sz w y rs) (B:∀ k,y.ownBlock=some k→A k):Mem (NwS A w.heap.size) w (.s sz rs) y:=by
  obtain ⟨css,u,m⟩:=h;have I:=m.len
  have o:∀ r∈css,r.length=sz:=fun r o=>by
    obtain ⟨i,a,rfl⟩:=List.getElem_of_mem o;exact (m.at i (by omega) a).1
  rcases u.2 with ⟨rfl,F⟩ | ⟨g,cap,H,rfl,v,E,G,D,J,K⟩
  · have :rs=[]:=List.eq_nil_of_length_eq_zero F
    subst this;exact .e none 0 sz (by decide)
  · refine .s g 0 rs.length cap sz rs (fun i j=>css.flatten.getD (i * sz+j) undef) rfl G (by simpa [maxLen] using D) ⟨B g rfl,(Array.getElem?_eq_some_iff.1 E).1⟩ (fun i a=>?_) (fun i j a x=>?_) (fun i j a x=>?_)
    · have d:i<css.length:=by omega
      obtain ⟨q,f⟩:=m.at i a d;rw [f.len,q]
    · have d:i<css.length:=by omega
      obtain ⟨q,f⟩:=m.at i a d;have p:=flat_at sz css o i j d (by omega);have :=u.cells (g:=g) rfl (i * sz+j) _ p
      have C:(⟨g,0,none⟩:Addr).add (i * sz+j)=⟨g,i * sz+j,none⟩:=by unfold Addr.add;split <;> simp_all
      rw [C] at this
      rw [Nat.zero_add,this,List.getD_eq_getElem?_getD,p];rfl
    · have d:i<css.length:=by omega
      obtain ⟨q,f⟩:=m.at i a d
      have p:=flat_at sz css o i j d (by have :=f.len;omega)
      rw [List.getD_eq_getElem?_getD,p]
      exact (f.at j x (by have :=f.len;omega)).mono (fun b v=>v.1) fun _ _=>rfl
end
theorem OwnS.ofBo {A:Nat→Prop} {base q:Nat} {w:World} (k:Int) (s:ByteArray) (a:Int) (b:Option Addr) (f d:Nat) (u v:Int) (h:Bo w q 60 #[.int .i64 k,.string s,.int .i64 a,.slice b f d,.int .i64 u,.int .i64 v]) (g:base≤q):
    OwnS A base 60 6 w (.slice (some ⟨q,0,none⟩) 1 1) [rawRow k s a b f d u v]:=
  ⟨[[.int .i64 k,.string s,.int .i64 a,.slice b f d,.int .i64 u,.int .i64 v]],⟨rfl,.inr ⟨q,1,_,rfl,g,h,Nat.le_refl _,by decide,rfl,rfl⟩⟩,.cons ⟨rfl,raw_all k s a b f d u v⟩ .nil⟩
theorem newRowS2 {A A':Nat→Prop} {w:World} {y:Value} {x:Ex} {a:Option Addr} {m c:Nat} (j:∀ b,A' b→A b) (o:A w.heap.size) (h:∀ k,y.ownBlock=some k→ ¬A' k∧k<w.heap.size) (q:Mem (NwS A' w.heap.size) w (.s 6 (Ex.rows x.args)) (.slice a m c)) {g:Nat} (p:w.heap.size=g):
    Mem (fun b=>NwS A (w.alloc (.cells #[.int .i64 x.kind,.string x.name,.int .i64 x.n,.slice a m c,.int .i64 x.line,.int .i64 x.col] 60)).heap.size b∧y.ownBlock≠some b) (w.alloc (.cells #[.int .i64 x.kind,.string x.name,.int .i64 x.n,.slice a m c,.int .i64 x.line,.int .i64 x.col] 60)) (.s 6 (Ex.rows [x])) (.slice (some ⟨g,0,none⟩) 1 1):=by
  subst p
  refine (builtS1 (base:=w.heap.size) q (Nat.le_refl _)).mem.mono (fun b f=>?_) fun _ _=>rfl
  have d:A' b∨w.heap.size≤b:=f.1;have i:=f.2;rw [World.size_alloc] at i
  rcases d with d | d
  · exact ⟨⟨j b d,f.2⟩,fun e=>(h b e).1 d⟩
  · obtain rfl:b=w.heap.size:=by omega
    exact ⟨⟨o,f.2⟩,fun e=>by have :=(h _ e).2;omega⟩
section
variable {P:Program} {w:World} {t e:TypeId} {z:Value} {sz bytes:Nat}
theorem wpList_append_S2 {g:Array Oper} {rest:List Oper} {o:Oper} {f:Act} {Q:Exit→Act→World→Prop} (E:o.guard=none) (s x:Operand) {A:Nat→Prop} {base:Nat}
    (H:o.op=.call { callee:=.builtin .append,args:=#[s,x],argTypes:=#[t,t] }) (L:P.underlying t=some (.slice e)) (F:(P.info? e).map (fun i=>(i.zero,i.size,i.bytes))=some (some z,sz,bytes)) (N:z.cells.size=sz) (K:0<sz)
    {y:Value} {rs new:List (List At)} {a:Option Addr} {m c:Nat} (J:f.eval s=y) (M:f.eval x=.slice a m c) (h:OwnS A base e sz w y rs) (G:new≠[]) (v:Mem (fun b=>NwS A w.heap.size b∧y.ownBlock≠some b) w (.s sz new) (.slice a m c)) (D:(rs.length+new.length) * bytes≤140737488355328) (C:rs.length+new.length≤4611686018427387904) (B:base≤w.heap.size)
    (r:∀ d w',OwnS A base e sz w' d (rs++new)→w.grownBy w' y.ownBlock→(d.ownBlock=y.ownBlock∨∀ k,d.ownBlock=some k→w.heap.size≤k)→wpList P g Q rest (f.put o.dst d) w'):wpList P g Q (o::rest) f w:=by
  obtain ⟨d,w',I,j,p,q⟩:=run_append_S o.type L F N K h G v D C B;refine wpList_plain E fun _ u=>?_;unfold Oper.wp execOp;simp only [H,resolve,invoke,builtin,Sem.run_bind,Sem.run_pure,Result.andThen_ok,List.map_toArray,List.map_cons,List.map_nil,J,M,I];exact u _ _ (r d w' j p q)
end
theorem downR_ok2 {ts:List Tk} {aL:Option Addr} {n cap:Nat} {i a:Nat} {l c:Int} (w:World) (h:MemW w (.s 5 (tkRows ts)) (.slice aL n cap)) (b:a<40) (d:i<ts.length):
    Calls Tryz.prog 105 #[rdV aL n cap (i:Int) (a:Int) false l c] w fun e w'=>e=.returned (rdV aL n cap ((i:Int)+1) ((a:Int)+1) false l c)∧Below w.heap.size w w':=downR_ok w h b d
end
end Go.Proofs.YtcoiagfeoonpbaaGreat
