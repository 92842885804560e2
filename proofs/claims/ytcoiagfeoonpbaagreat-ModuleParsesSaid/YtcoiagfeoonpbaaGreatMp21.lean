/-
 The document's reader's Pat: a Pat. Under what itself does with less fuel.
-/
import Derived.Test.YtcoiagfeoonpbaaGreatMp18
import Derived.Test.YtcoiagfeoonpbaaGreatMp15
set_option maxHeartbeats 20000000
set_option maxRecDepth 100000
namespace Go.Proofs.YtcoiagfeoonpbaaGreat
section
open Go.RowKit
section
variable {ts:List Tk} {aL:Option Addr} {n cap:Nat}
attribute [local go_sem] tk_pos tk_text tk_kind0
def measP (q L:Nat) (v:Value) (w:World):Nat:=if bad4 q w then 0 else L+2 - lenV v
theorem patR_succ {f i R:Nat} {r:Rd1} {a0 b0:Int} (I:readE ts (f+1) .pat i R=some r) (w:World) (hd:R≤40) (h:MemW w (.s 5 (tkRows ts)) (.slice aL n cap)) (hn:n≤1048576) (HP:∀ g,g≤f→ReadsR ts aL n cap 65 .pat g):
  Calls Tryz.prog 65 #[rdV aL n cap (i:Int) (R:Int) false a0 b0] w (AnsR aL n cap r R a0 b0 w):=by
 have H:=zz h;clear h;have HQ:=zz HP;clear HP;rw [readE] at I;have d:Hid (FarB w.heap.size w.heap.size w w):=zz (FarB.refl _ _ _);simp only [rdV];go_enter Tryz.func65,Tryz.ntmps65
 go_wp2_with (fail)
 generalize a:World.alloc w _=ca;have P:=sizeA a;replace d:=fA d a;have t:=nB a (w.heap.size);clear a;generalize a:World.alloc ca _=cb;have Q:=sizeA a;replace d:=fA d a;replace t:=bA t a;have m:=nB a (w.heap.size+1);clear a;generalize a:World.alloc cb _=w1;have a8:=sizeA a;replace d:=fA d a;replace t:=bA t a;replace m:=bA m a;have o:=nB a (w.heap.size+2);clear a
 have cl:w1.heap.size=w.heap.size+3:=by omega
 clear P Q a8;refine (nowR_any _ (refTok d.out H.out)).mono ?_;rintro _ w2 ⟨rfl,q⟩;replace t:=kB t q;replace m:=kB m q;replace o:=kB o q;replace d:=kF d q;have ck:=q.size;clear q;simp only [tkV];have O:=kc6 t;have J:=i012_0 w w2
 go_wp2_with (fail)
 clear O;generalize a:World.alloc w2 _=w3;have cn:=sizeA a;replace d:=fA d a;replace t:=bA t a;replace m:=bA m a;replace o:=bA o a;have ae:=nB a (w2.heap.size);clear a;clear J
 rcases b3:isT ts i 6 wWild
 rotate_left
 ·
  simp only [b3,if_true] at I;cases I;have bj:i<ts.length:=isT_lt b3 (by decide)
  have cj:(i:Int)+1≤9223372036854775807:=by have h1:=H.out.len;rw [tkRows_len] at h1;omega
  refine (isR_ok (s:=wWild) _ (refTok d.out H.out)).mono ?_;rintro _ w4 ⟨rfl,q⟩;replace t:=kB t q;replace m:=kB m q;replace o:=kB o q;replace ae:=kB ae q;replace d:=kF d q;have bt:=q.size;clear q;rw [b3];have O:=kc6 t
  go_wp2_with (fail)
  clear O;generalize a:World.setCell w4 _ _=w5;have cr:=sizeS1 a;replace d:=fN1 d a;replace t:=s6_1 t a;replace m:=bF1 m a;replace o:=bF1 o a;replace ae:=bF1 ae a;clear a;have O:=kc6 t;have U:=kc6 m;have pc:=kc2 ae;have J:=i012_0_0 w w2 w5;refine wp_region_held_drew (S:=fun V=>Far (fun b=>b=(w.heap.size+1)∨b=(w.heap.size+2)) (w5) V) (by kernel_rfl) (Far.of (below_drew _)) (fun aa=>?_);refine takeA 0 (v:=?_) rfl ?_ ?_;rotate_left
  · (intro w E;replace O:=Far.c6z O E;replace pc:=Far.c2z pc E;go_simp;try rfl)
  (try simp only [pu]);refine takeA 1 (v:=?_) rfl ?_ ?_;rotate_left
  · (intro w E;replace O:=Far.c6z O E;replace pc:=Far.c2z pc E;go_simp;try rfl)
  (try simp only [pu]);refine takeA 2 (v:=?_) rfl ?_ ?_;rotate_left
  · (intro w E;replace O:=Far.c6z O E;replace pc:=Far.c2z pc E;go_simp;try rfl)
  (try simp only [pu]);refine callA 3 rfl fun K F=>?_;go_simp;refine F.out _ _ ?_ (fun T=>?_);· exact (by refine Far.trans ?_ (Far.of (below_drew _));(iterate 6 (refine Far.setCell (p:=⟨(w.heap.size+1),_,none⟩) ?_ (.inl rfl) _));exact Far.refl _ _)
  clear F K;clear O U pc;generalize a:World.setCell _ ⟨(w.heap.size+1),5,none⟩ _=b4 at *;replace d:=fN6 d a;replace m:=bS6 m a;replace o:=bF6 o a;clear a;generalize a:(b4.drew)=w6 at *;replace d:=fD d a;replace m:=bD m a;replace o:=bD o a;clear a;clear J;have W:=kc6 o;refine callA 4 rfl fun K F=>?_;go_simp;refine F.out _ _ ?_ (fun ab=>?_);· exact (by (iterate 6 (refine Far.setCell (p:=⟨(w.heap.size+2),_,none⟩) ?_ (.inr rfl) _));exact T)
  clear F K;refine wpAnyH_done (by kernel_rfl) ?_ _;clear W;generalize a:World.setCell _ ⟨(w.heap.size+2),5,none⟩ _=w7;replace d:=fN6 d a;replace m:=bF6 m a;replace o:=bS6 o a;clear a
  go_wp2_with (fail)
  have z:=kc6 m;have y:=kc6 o;refine bodyPost_ret (v:=.tuple #[.agg #[.slice aL n cap,.int .i64 ((i:Int)+1),.int .i64 (R:Int),.bool false,.int .i64 a0,.int .i64 b0],.agg #[.int .i64 9,.string ⟨#[]⟩,.int .i64 0,.slice none 0 0,.int .i64 (nowT ts i).l,.int .i64 (nowT ts i).c]]) (by clear d H t m o ae;simp [results,Tryz.results65,go_sem,z,y]) rfl ?_;exact ⟨_,_,_,rfl,refBelow d.out,memNoneR (x:=.mk 9 .empty 0 [] (nowT ts i).l (nowT ts i).c) rfl⟩
 simp only [b3,Bool.false_eq_true,if_false] at I;refine (isR_ok (s:=wWild) _ (refTok d.out H.out)).mono ?_;rintro _ w4 ⟨rfl,q⟩;replace t:=kB t q;replace m:=kB m q;replace o:=kB o q;replace d:=kF d q;have bt:=q.size;clear q;rw [b3];have O:=kc6 t
 go_wp2_with (fail)
 cases hpl:plainE (nowT ts i) with
 | some x=>
  simp only [hpl] at I;cases I
  have ek:(x.kind != 0)=true:=by simp [plain_kind hpl]
  clear O;refine (plainR_ok _ (refTok d.out H.out) hpl).mono ?_;rintro _ w5 ⟨rfl,q⟩;replace m:=kB m q;replace o:=kB o q;replace d:=kF d q;have bu:=q.size;clear q;simp only [rdV,exV]
  go_wp2_with (fail)
  generalize a:World.alloc w5 _=b4;have P:=sizeA a;replace d:=fA d a;replace m:=bA m a;replace o:=bA o a;have b5:=nB a (w5.heap.size);clear a;generalize a:World.alloc b4 _=w6;have Q:=sizeA a;replace d:=fA d a;replace m:=bA m a;replace o:=bA o a;replace b5:=bA b5 a;have ag:=nB a (w5.heap.size+1);clear a
  have c0:w6.heap.size=w5.heap.size+2:=by omega
  clear P Q;clear t ae;have U:=kc6 m;have tc:=kc6 b5;have ec:=kc6 ag;have J:=i12_01_0 w w5 w6;refine wp_region_held_drew (S:=fun V=>Far (fun b=>b=(w.heap.size+1)∨b=(w.heap.size+2)) (w6) V) (by kernel_rfl) (Far.of (below_drew _)) (fun aa=>?_);refine takeA 0 (v:=?_) rfl ?_ ?_;rotate_left
  · (intro w E;replace tc:=Far.c6z tc E;go_simp;try rfl)
  (try simp only [pu]);refine takeA 1 (v:=?_) rfl ?_ ?_;rotate_left
  · (intro w E;replace ec:=Far.c6z ec E;go_simp;try rfl)
  (try simp only [pu]);refine callA 2 rfl fun K F=>?_;go_simp;refine F.out _ _ ?_ (fun T=>?_);· exact (by refine Far.trans ?_ (Far.of (below_drew _));(iterate 6 (refine Far.setCell (p:=⟨(w.heap.size+1),_,none⟩) ?_ (.inl rfl) _));exact Far.refl _ _)
  clear F K;clear U tc ec;generalize a:World.setCell _ ⟨(w.heap.size+1),5,none⟩ _=cc at *;replace d:=fN6 d a;replace m:=bS6 m a;replace o:=bF6 o a;clear a;generalize a:(cc.drew)=w7 at *;replace d:=fD d a;replace m:=bD m a;replace o:=bD o a;clear a;clear J;have W:=kc6 o;refine callA 3 rfl fun K F=>?_;go_simp;refine F.out _ _ ?_ (fun ab=>?_);· exact (by (iterate 6 (refine Far.setCell (p:=⟨(w.heap.size+2),_,none⟩) ?_ (.inr rfl) _));exact T)
  clear F K;refine wpAnyH_done (by kernel_rfl) ?_ _;clear W;generalize a:World.setCell _ ⟨(w.heap.size+2),5,none⟩ _=w8;replace d:=fN6 d a;replace m:=bF6 m a;replace o:=bS6 o a;clear a
  go_wp2_with (fail)
  have z:=kc6 m;have y:=kc6 o;refine bodyPost_ret (v:=.tuple #[.agg #[.slice aL n cap,.int .i64 ((i:Int)+1),.int .i64 (R:Int),.bool false,.int .i64 a0,.int .i64 b0],.agg #[.int .i64 x.kind,.string x.name,.int .i64 x.n,.slice none 0 0,.int .i64 x.line,.int .i64 x.col]]) (by clear d H m o b5 ag;simp [results,Tryz.results65,go_sem,z,y]) rfl ?_;exact ⟨_,_,_,rfl,refBelow d.out,memNoneR (plain_argsR hpl)⟩
 | none=>
  simp only [hpl] at I;clear O;refine (plainR_no _ (refTok d.out H.out) hpl).mono ?_;rintro _ w5 ⟨rfl,q⟩;replace t:=kB t q;replace m:=kB m q;replace o:=kB o q;replace d:=kF d q;have bu:=q.size;clear q;simp only [rdV];have O:=kc6 t;have J:=i012_0_0 w w2 w5
  go_wp2_with (fail)
  clear O;generalize a:World.alloc w5 _=b4;have P:=sizeA a;replace d:=fA d a;replace t:=bA t a;replace m:=bA m a;replace o:=bA o a;clear a;generalize a:World.alloc b4 _=w6;have Q:=sizeA a;replace d:=fA d a;replace t:=bA t a;replace m:=bA m a;replace o:=bA o a;have ag:=nB a (w5.heap.size+1);clear a
  have c0:w6.heap.size=w5.heap.size+2:=by omega
  clear P Q;clear J
  rcases az:isT ts i 6 wOpen
  ·
   simp only [az,Bool.false_eq_true,if_false] at I;cases I;refine (isR_ok (s:=wOpen) _ (refTok d.out H.out)).mono ?_;rintro _ w7 ⟨rfl,q⟩;replace t:=kB t q;replace m:=kB m q;replace o:=kB o q;replace ag:=kB ag q;replace d:=kF d q;have bv:=q.size;clear q;rw [az];have O:=kc6 t;have ec:=kc6 ag;have J:=i012_0_01_0 w w2 w5 w7
   go_wp2_with (fail)
   refine wp_region_held_drew (S:=fun V=>Far (fun b=>b=(w.heap.size+1)∨b=(w.heap.size+2)) (w7) V) (by kernel_rfl) (Far.of (below_drew _)) (fun aa=>?_);refine takeA 0 (v:=?_) rfl ?_ ?_;rotate_left
   · (intro w E;replace O:=Far.c6z O E;replace ec:=Far.c6z ec E;go_simp;try rfl)
   (try simp only [pu]);refine takeA 2 (v:=?_) rfl ?_ ?_;rotate_left
   · (intro w E;replace O:=Far.c6z O E;replace ec:=Far.c6z ec E;go_simp;try rfl)
   (try simp only [pu]);refine callA 1 rfl fun K F=>?_;go_simp;refine (failR_ok _ (refTok d.out.drew H.out)).mono ?_;rintro e cu ⟨rfl,q⟩;clear O ec;have bm:=q;replace q:=Below.one q;replace m:=kB m q;replace o:=kB o q;replace d:=kF d q;clear q;simp only [rdV];go_simp;refine F.out _ _ ?_ (fun T=>?_);· exact Far.trans aa (Far.of bm)
   clear F K;clear J;have U:=kc6 m;refine callA 3 rfl fun K F=>?_;go_simp;refine F.out _ _ ?_ (fun ab=>?_);· exact (by (iterate 6 (refine Far.setCell (p:=⟨(w.heap.size+1),_,none⟩) ?_ (.inl rfl) _));exact T)
   clear F K;clear U;generalize a:World.setCell _ ⟨(w.heap.size+1),5,none⟩ _=cs at *;replace d:=fN6 d a;replace m:=bS6 m a;replace o:=bF6 o a;clear a;have W:=kc6 o;refine callA 4 rfl fun K F=>?_;go_simp;refine F.out _ _ ?_ (fun cd=>?_);· exact (by (iterate 6 (refine Far.setCell (p:=⟨(w.heap.size+2),_,none⟩) ?_ (.inr rfl) _));exact ab)
   clear F K;refine wpAnyH_done (by kernel_rfl) ?_ _;clear W;generalize a:World.setCell _ ⟨(w.heap.size+2),5,none⟩ _=ct;replace d:=fN6 d a;replace m:=bF6 m a;replace o:=bS6 o a;clear a
   go_wp2_with (fail)
   have z:=kc6 m;have y:=kc6 o;refine bodyPost_ret (v:=.tuple #[.agg #[.slice aL n cap,.int .i64 (i:Int),.int .i64 (R:Int),.bool true,.int .i64 (nowT ts i).l,.int .i64 (nowT ts i).c],.agg #[.int .i64 0,.string ⟨#[]⟩,.int .i64 0,.slice none 0 0,.int .i64 0,.int .i64 0]]) (by clear d H t m o ae ag;simp [results,Tryz.results65,go_sem,z,y]) rfl ?_;exact ⟨_,_,_,_,_,_,_,_,_,_,rfl,refBelow d.out⟩
  simp only [az,if_true] at I;clear ae ag;refine (isR_ok (s:=wOpen) _ (refTok d.out H.out)).mono ?_;rintro _ w7 ⟨rfl,q⟩;replace t:=kB t q;replace m:=kB m q;replace o:=kB o q;replace d:=kF d q;have bv:=q.size;clear q;rw [az];have O:=kc6 t
  go_wp2_with (fail)
  by_cases b6:R=40
  ·
   rw [if_pos b6] at I;cases I;clear O;refine (downR_bad2 _ (refTok d.out H.out) b6).mono ?_;rintro _ w8 ⟨rfl,q⟩;replace t:=kB t q;replace m:=kB m q;replace o:=kB o q;replace d:=kF d q;have bw:=q.size;clear q;clear b6;simp only [rdV]
   go_wp2_with (fail)
   generalize a:World.alloc w8 _=w9;have c6:=sizeA a;replace d:=fA d a;replace t:=bA t a;replace m:=bA m a;replace o:=bA o a;have a6:=nB a (w8.heap.size);clear a;refine (nowR_any _ (refTok d.out H.out)).mono ?_;rintro _ ai ⟨rfl,q⟩;replace t:=kB t q;replace m:=kB m q;replace o:=kB o q;replace a6:=kB a6 q;replace d:=kF d q;have bs:=q.size;clear q;simp only [tkV]
   by_cases hu:(nowT ts i).k=3
   ·
    have eu:((nowT ts i).k==3)=true:=by simp [hu]
    clear hu;have ic:=kc6 a6
    go_wp2_with (fail)
    clear ic;refine (patR_bad _ (refTok d.out H.out)).mono ?_;rintro _ C ⟨iq,dq,kq,sq,nq,aq,mq,cq,uq,vq,rfl,q⟩;replace t:=kB t q;replace m:=kB m q;replace o:=kB o q;replace d:=kF d q;have b1:=q.size;clear q;simp only [rdV]
    go_wp2_with (fail)
    generalize a:World.alloc C _=ac;have P:=sizeA a;replace d:=fA d a;replace t:=bA t a;replace m:=bA m a;replace o:=bA o a;have u:=nB a (C.heap.size);clear a;generalize a:World.alloc ac _=ad;have Q:=sizeA a;replace d:=fA d a;replace t:=bA t a;replace m:=bA m a;replace o:=bA o a;replace u:=bA u a;have B:=nB a (C.heap.size+1);clear a;generalize a:World.alloc ad _=a4;have a8:=sizeA a;replace d:=fA d a;replace t:=bA t a;replace m:=bA m a;replace o:=bA o a;replace u:=bA u a;replace B:=bA B a;clear a
    have b2:a4.heap.size=C.heap.size+3:=by omega
    clear P Q a8
    go_loopw [11] (fun v wr=>v=.slice (some ⟨(C.heap.size+2),0,none⟩) 1 1∧a4=wr) (fun _ _=>0)
    case atStart=>exact ⟨rfl,rfl⟩
    case round=>
     obtain ⟨hv,hw⟩:=hrel;subst hv;subst hw;have D:=kc6 u
     go_wp2_with (fail)
     clear D;refine (takeR_bad _ (refTok d.out H.out)).mono ?_;rintro _ X ⟨rfl,q⟩;replace t:=kB t q;replace m:=kB m q;replace o:=kB o q;replace u:=kB u q;replace B:=kB B q;replace d:=kF d q;have ah:=q.size;clear q;simp only [rdV];have O:=kc6 t;have D:=kc6 u;have J:=i012_0_012_0 w w8 C X
     go_wp2_with (fail)
     clear O D;generalize a:World.setCell _ ⟨C.heap.size,5,none⟩ _=a9;have P:=sizeS6 a;replace d:=fN6 d a;replace m:=bF6 m a;replace o:=bF6 o a;replace u:=bS6 u a;replace B:=bF6 B a;clear a;generalize a:World.setCell a9 _ _=M;have Q:=sizeS1 a;replace d:=fN1 d a;replace m:=bF1 m a;replace o:=bF1 o a;replace u:=s6_2 u a;replace B:=bF1 B a;clear a
     have ar:M.heap.size=X.heap.size:=by omega
     clear P Q;clear J;clear t a6;have U:=kc6 m;have D:=kc6 u;have L:=kc6 B;have J:=i12_01_0 w C M;refine wp_region_held_drew (S:=fun V=>Far (fun b=>b=(w.heap.size+1)∨b=(w.heap.size+2)) (M) V) (by kernel_rfl) (Far.of (below_drew _)) (fun aa=>?_);refine takeA 0 (v:=?_) rfl ?_ ?_;rotate_left
     · (intro w E;replace D:=Far.c6z D E;go_simp;try rfl)
     (try simp only [pu]);refine takeA 1 (v:=?_) rfl ?_ ?_;rotate_left
     · (intro w E;replace L:=Far.c6z L E;go_simp;try rfl)
     (try simp only [pu]);refine callA 2 rfl fun K F=>?_;go_simp;refine F.out _ _ ?_ (fun T=>?_);· exact (by refine Far.trans ?_ (Far.of (below_drew _));(iterate 6 (refine Far.setCell (p:=⟨(w.heap.size+1),_,none⟩) ?_ (.inl rfl) _));exact Far.refl _ _)
     clear F K;clear U D L;generalize a:World.setCell _ ⟨(w.heap.size+1),5,none⟩ _=Y at *;replace d:=fN6 d a;replace m:=bS6 m a;replace o:=bF6 o a;clear a;generalize a:(Y.drew)=Z at *;replace d:=fD d a;replace m:=bD m a;replace o:=bD o a;clear a;clear J;have W:=kc6 o;refine callA 3 rfl fun K F=>?_;go_simp;refine F.out _ _ ?_ (fun ab=>?_);· exact (by (iterate 6 (refine Far.setCell (p:=⟨(w.heap.size+2),_,none⟩) ?_ (.inr rfl) _));exact T)
     clear F K;refine wpAnyH_done (by kernel_rfl) ?_ _;clear W;generalize a:World.setCell _ ⟨(w.heap.size+2),5,none⟩ _=a5;replace d:=fN6 d a;replace m:=bF6 m a;replace o:=bS6 o a;clear a
     go_wp2_with (fail)
     have z:=kc6 m;have y:=kc6 o;refine bodyPost_ret (v:=.tuple #[.agg #[.slice aL n cap,.int .i64 (iq:Int),.int .i64 (R:Int),.bool true,.int .i64 (nowT ts i).l,.int .i64 (nowT ts i).c],.agg #[.int .i64 kq,.string sq,.int .i64 nq,.slice aq mq cq,.int .i64 uq,.int .i64 vq]]) (by clear d H m o u B;simp [results,Tryz.results65,go_sem,z,y]) rfl ?_;exact ⟨_,_,_,_,_,_,_,_,_,_,rfl,refBelow d.out⟩
   have eu:((nowT ts i).k==3)=false:=by simp [hu]
   clear hu;have ic:=kc6 a6
   go_wp2_with (fail)
   clear ic;refine (patR_bad _ (refTok d.out H.out)).mono ?_;rintro _ C ⟨iq,dq,kq,sq,nq,aq,mq,cq,uq,vq,rfl,q⟩;replace t:=kB t q;replace m:=kB m q;replace o:=kB o q;replace d:=kF d q;have b1:=q.size;clear q;simp only [rdV]
   go_wp2_with (fail)
   generalize a:World.alloc C _=ac;have P:=sizeA a;replace d:=fA d a;replace t:=bA t a;replace m:=bA m a;replace o:=bA o a;have u:=nB a (C.heap.size);clear a;generalize a:World.alloc ac _=ad;have Q:=sizeA a;replace d:=fA d a;replace t:=bA t a;replace m:=bA m a;replace o:=bA o a;replace u:=bA u a;have B:=nB a (C.heap.size+1);clear a;generalize a:World.alloc ad _=a4;have a8:=sizeA a;replace d:=fA d a;replace t:=bA t a;replace m:=bA m a;replace o:=bA o a;replace u:=bA u a;replace B:=bA B a;clear a
   have b2:a4.heap.size=C.heap.size+3:=by omega
   clear P Q a8
   go_loopw [11] (fun v wr=>v=.slice (some ⟨(C.heap.size+2),0,none⟩) 1 1∧a4=wr) (fun _ _=>0)
   case atStart=>exact ⟨rfl,rfl⟩
   case round=>
    obtain ⟨hv,hw⟩:=hrel;subst hv;subst hw;have D:=kc6 u
    go_wp2_with (fail)
    clear D;refine (takeR_bad _ (refTok d.out H.out)).mono ?_;rintro _ X ⟨rfl,q⟩;replace t:=kB t q;replace m:=kB m q;replace o:=kB o q;replace u:=kB u q;replace B:=kB B q;replace d:=kF d q;have ah:=q.size;clear q;simp only [rdV];have O:=kc6 t;have D:=kc6 u;have J:=i012_0_012_0 w w8 C X
    go_wp2_with (fail)
    clear O D;generalize a:World.setCell _ ⟨C.heap.size,5,none⟩ _=a9;have P:=sizeS6 a;replace d:=fN6 d a;replace m:=bF6 m a;replace o:=bF6 o a;replace u:=bS6 u a;replace B:=bF6 B a;clear a;generalize a:World.setCell a9 _ _=M;have Q:=sizeS1 a;replace d:=fN1 d a;replace m:=bF1 m a;replace o:=bF1 o a;replace u:=s6_2 u a;replace B:=bF1 B a;clear a
    have ar:M.heap.size=X.heap.size:=by omega
    clear P Q;clear J;clear t a6;have U:=kc6 m;have D:=kc6 u;have L:=kc6 B;have J:=i12_01_0 w C M;refine wp_region_held_drew (S:=fun V=>Far (fun b=>b=(w.heap.size+1)∨b=(w.heap.size+2)) (M) V) (by kernel_rfl) (Far.of (below_drew _)) (fun aa=>?_);refine takeA 0 (v:=?_) rfl ?_ ?_;rotate_left
    · (intro w E;replace D:=Far.c6z D E;go_simp;try rfl)
    (try simp only [pu]);refine takeA 1 (v:=?_) rfl ?_ ?_;rotate_left
    · (intro w E;replace L:=Far.c6z L E;go_simp;try rfl)
    (try simp only [pu]);refine callA 2 rfl fun K F=>?_;go_simp;refine F.out _ _ ?_ (fun T=>?_);· exact (by refine Far.trans ?_ (Far.of (below_drew _));(iterate 6 (refine Far.setCell (p:=⟨(w.heap.size+1),_,none⟩) ?_ (.inl rfl) _));exact Far.refl _ _)
    clear F K;clear U D L;generalize a:World.setCell _ ⟨(w.heap.size+1),5,none⟩ _=Y at *;replace d:=fN6 d a;replace m:=bS6 m a;replace o:=bF6 o a;clear a;generalize a:(Y.drew)=Z at *;replace d:=fD d a;replace m:=bD m a;replace o:=bD o a;clear a;clear J;have W:=kc6 o;refine callA 3 rfl fun K F=>?_;go_simp;refine F.out _ _ ?_ (fun ab=>?_);· exact (by (iterate 6 (refine Far.setCell (p:=⟨(w.heap.size+2),_,none⟩) ?_ (.inr rfl) _));exact T)
    clear F K;refine wpAnyH_done (by kernel_rfl) ?_ _;clear W;generalize a:World.setCell _ ⟨(w.heap.size+2),5,none⟩ _=a5;replace d:=fN6 d a;replace m:=bF6 m a;replace o:=bS6 o a;clear a
    go_wp2_with (fail)
    have z:=kc6 m;have y:=kc6 o;refine bodyPost_ret (v:=.tuple #[.agg #[.slice aL n cap,.int .i64 (iq:Int),.int .i64 (R:Int),.bool true,.int .i64 (nowT ts i).l,.int .i64 (nowT ts i).c],.agg #[.int .i64 kq,.string sq,.int .i64 nq,.slice aq mq cq,.int .i64 uq,.int .i64 vq]]) (by clear d H m o u B;simp [results,Tryz.results65,go_sem,z,y]) rfl ?_;exact ⟨_,_,_,_,_,_,_,_,_,_,rfl,refBelow d.out⟩
  rw [if_neg b6] at I;have bj:i<ts.length:=isT_lt az (by decide)
  have ap:R+1≤40:=by omega
  clear O;refine (downR_ok2 _ (refTok d.out H.out) (by omega) bj).mono ?_;rintro _ w8 ⟨rfl,q⟩;replace t:=kB t q;replace m:=kB m q;replace o:=kB o q;replace d:=kF d q;have bw:=q.size;clear q;simp only [rdV]
  go_wp2_with (fail)
  generalize a:World.alloc w8 _=w9;have c6:=sizeA a;replace d:=fA d a;replace t:=bA t a;replace m:=bA m a;replace o:=bA o a;have a6:=nB a (w8.heap.size);clear a;refine (nowR_any (i:=i+1) _ (refTok d.out H.out)).mono ?_;rintro _ ai ⟨rfl,q⟩;replace t:=kB t q;replace m:=kB m q;replace o:=kB o q;replace a6:=kB a6 q;replace d:=kF d q;have bs:=q.size;clear q;simp only [tkV]
  by_cases hu:(nowT ts (i+1)).k=3
  rotate_left
  ·
   have eu:((nowT ts (i+1)).k==3)=false:=by simp [hu]
   rw [if_neg hu] at I;clear hu;have ic:=kc6 a6
   go_wp2_with (fail)
   rcases hx:readE ts f .pat (i+1) (R+1) with _ | ⟨x,j⟩ | ⟨l_,c_⟩
   · (rw [hx] at I;cases I)
   rotate_left
   ·
    rw [hx] at I
    first | simp only at I | simp only [andT] at I
    cases I;clear ic;refine (HQ.out f (Nat.le_refl _) (i+1) (R+1) _ _ _ _ ap (refTok d.out H.out) hn hx).mono ?_;rintro _ C ⟨iq,dq,kq,sq,nq,aq,mq,cq,uq,vq,rfl,q⟩;replace t:=kB t q;replace m:=kB m q;replace o:=kB o q;replace d:=kF d q;have b1:=q.size;clear q;simp only [rdV]
    go_wp2_with (fail)
    generalize a:World.alloc C _=ac;have P:=sizeA a;replace d:=fA d a;replace t:=bA t a;replace m:=bA m a;replace o:=bA o a;have u:=nB a (C.heap.size);clear a;generalize a:World.alloc ac _=ad;have Q:=sizeA a;replace d:=fA d a;replace t:=bA t a;replace m:=bA m a;replace o:=bA o a;replace u:=bA u a;have B:=nB a (C.heap.size+1);clear a;generalize a:World.alloc ad _=a4;have a8:=sizeA a;replace d:=fA d a;replace t:=bA t a;replace m:=bA m a;replace o:=bA o a;replace u:=bA u a;replace B:=bA B a;clear a
    have b2:a4.heap.size=C.heap.size+3:=by omega
    clear P Q a8
    go_loopw [11] (fun v wr=>v=.slice (some ⟨(C.heap.size+2),0,none⟩) 1 1∧a4=wr) (fun _ _=>0)
    case atStart=>exact ⟨rfl,rfl⟩
    case round=>
     obtain ⟨hv,hw⟩:=hrel;subst hv;subst hw;have D:=kc6 u
     go_wp2_with (fail)
     clear D;refine (takeR_bad _ (refTok d.out H.out)).mono ?_;rintro _ X ⟨rfl,q⟩;replace t:=kB t q;replace m:=kB m q;replace o:=kB o q;replace u:=kB u q;replace B:=kB B q;replace d:=kF d q;have ah:=q.size;clear q;simp only [rdV];have O:=kc6 t;have D:=kc6 u;have J:=i012_0_012_0 w w8 C X
     go_wp2_with (fail)
     clear O D;generalize a:World.setCell _ ⟨C.heap.size,5,none⟩ _=a9;have P:=sizeS6 a;replace d:=fN6 d a;replace m:=bF6 m a;replace o:=bF6 o a;replace u:=bS6 u a;replace B:=bF6 B a;clear a;generalize a:World.setCell a9 _ _=M;have Q:=sizeS1 a;replace d:=fN1 d a;replace m:=bF1 m a;replace o:=bF1 o a;replace u:=s6_2 u a;replace B:=bF1 B a;clear a
     have ar:M.heap.size=X.heap.size:=by omega
     clear P Q;clear J;clear t a6;have U:=kc6 m;have D:=kc6 u;have L:=kc6 B;have J:=i12_01_0 w C M;refine wp_region_held_drew (S:=fun V=>Far (fun b=>b=(w.heap.size+1)∨b=(w.heap.size+2)) (M) V) (by kernel_rfl) (Far.of (below_drew _)) (fun aa=>?_);refine takeA 0 (v:=?_) rfl ?_ ?_;rotate_left
     · (intro w E;replace D:=Far.c6z D E;go_simp;try rfl)
     (try simp only [pu]);refine takeA 1 (v:=?_) rfl ?_ ?_;rotate_left
     · (intro w E;replace L:=Far.c6z L E;go_simp;try rfl)
     (try simp only [pu]);refine callA 2 rfl fun K F=>?_;go_simp;refine F.out _ _ ?_ (fun T=>?_);· exact (by refine Far.trans ?_ (Far.of (below_drew _));(iterate 6 (refine Far.setCell (p:=⟨(w.heap.size+1),_,none⟩) ?_ (.inl rfl) _));exact Far.refl _ _)
     clear F K;clear U D L;generalize a:World.setCell _ ⟨(w.heap.size+1),5,none⟩ _=Y at *;replace d:=fN6 d a;replace m:=bS6 m a;replace o:=bF6 o a;clear a;generalize a:(Y.drew)=Z at *;replace d:=fD d a;replace m:=bD m a;replace o:=bD o a;clear a;clear J;have W:=kc6 o;refine callA 3 rfl fun K F=>?_;go_simp;refine F.out _ _ ?_ (fun ab=>?_);· exact (by (iterate 6 (refine Far.setCell (p:=⟨(w.heap.size+2),_,none⟩) ?_ (.inr rfl) _));exact T)
     clear F K;refine wpAnyH_done (by kernel_rfl) ?_ _;clear W;generalize a:World.setCell _ ⟨(w.heap.size+2),5,none⟩ _=a5;replace d:=fN6 d a;replace m:=bF6 m a;replace o:=bS6 o a;clear a
     go_wp2_with (fail)
     have z:=kc6 m;have y:=kc6 o;refine bodyPost_ret (v:=.tuple #[.agg #[.slice aL n cap,.int .i64 (iq:Int),.int .i64 (R:Int),.bool true,.int .i64 l_,.int .i64 c_],.agg #[.int .i64 kq,.string sq,.int .i64 nq,.slice aq mq cq,.int .i64 uq,.int .i64 vq]]) (by clear d H m o u B;simp [results,Tryz.results65,go_sem,z,y]) rfl ?_;exact ⟨_,_,_,_,_,_,_,_,_,_,rfl,refBelow d.out⟩
   rw [hx] at I
   first | simp only at I | simp only [andT] at I
   clear ic;refine (HQ.out f (Nat.le_refl _) (i+1) (R+1) _ _ _ _ ap (refTok d.out H.out) hn hx).mono ?_;rintro _ C ⟨ax,mx,cx,rfl,q,hm⟩;replace t:=kB t q;replace m:=kB m q;replace o:=kB o q;replace d:=kF d q;have b1:=q.size;clear q;have am:=zz hm;clear hm;simp only [rdV,exV];rw [show ((R+1:Nat):Int)=(R:Int)+1 from rfl];clear a6
   go_wp2_with (fail)
   have G:Hid (Mem (NwS (Bt ai.heap.size C.heap.size) C.heap.size) C _ _):=zz (memS_bt am.out (by omega));clear am;generalize a:World.alloc C _=ac;have P:=sizeA a;replace d:=fA d a;replace t:=bA t a;replace m:=bA m a;replace o:=bA o a;replace G:=yA G a;have u:=nB a (C.heap.size);clear a;generalize a:World.alloc ac _=ad;have Q:=sizeA a;replace d:=fA d a;replace t:=bA t a;replace m:=bA m a;replace o:=bA o a;replace u:=bA u a;replace G:=yA G a;have B:=nB a (C.heap.size+1);clear a;generalize a:World.alloc ad _=a4;have a8:=sizeA a;replace d:=fA d a;replace t:=bA t a;replace m:=bA m a;replace o:=bA o a;replace u:=bA u a;replace B:=bA B a;replace G:=yA G a;clear a
   have b2:a4.heap.size=C.heap.size+3:=by omega
   clear P Q a8
   go_loopw [11] (fun v wr=>v=.slice (some ⟨(C.heap.size+2),0,none⟩) 1 1∧a4=wr) (fun _ _=>0)
   case atStart=>exact ⟨rfl,rfl⟩
   case round=>
    obtain ⟨hv,hw⟩:=hrel;subst hv;subst hw;have D:=kc6 u
    go_wp2_with (fail)
    rcases ao:isT ts j 6 wClose
    rotate_left
    ·
     first | simp only [ao,if_true] at I | simp only [takeT,ao,if_true] at I
     cases I;clear D;refine (takeR_ok _ (refTok d.out H.out) ao (by decide)).mono ?_;rintro _ X ⟨rfl,q⟩;replace t:=kB t q;replace m:=kB m q;replace o:=kB o q;replace u:=kB u q;replace B:=kB B q;replace G:=kY G q;replace d:=kF d q;have ah:=q.size;clear q;simp only [rdV];have O:=kc6 t;have D:=kc6 u;have J:=i012_01_0 w C X
     go_wp2_with (fail)
     clear O D;generalize a:World.setCell _ ⟨C.heap.size,5,none⟩ _=a9;have P:=sizeS6 a;replace d:=fN6 d a;replace m:=bF6 m a;replace o:=bF6 o a;replace u:=bS6 u a;replace B:=bF6 B a;replace G:=yS6 G a;clear a;generalize a:World.setCell a9 _ _=M;have Q:=sizeS1 a;replace d:=fN1 d a;replace m:=bF1 m a;replace o:=bF1 o a;replace u:=s6_2 u a;replace B:=bF1 B a;replace G:=yS1 G a;clear a
     have ar:M.heap.size=X.heap.size:=by omega
     clear P Q;clear J;clear t;have U:=kc6 m;have D:=kc6 u;have L:=kc6 B;have J:=i12_01_0 w C M;refine wp_region_held_drew (S:=fun V=>Far (fun b=>b=(w.heap.size+1)∨b=(w.heap.size+2)) (M) V) (by kernel_rfl) (Far.of (below_drew _)) (fun aa=>?_);refine takeA 0 (v:=?_) rfl ?_ ?_;rotate_left
     · (intro w E;replace D:=Far.c6z D E;go_simp;try rfl)
     (try simp only [pu]);refine takeA 1 (v:=?_) rfl ?_ ?_;rotate_left
     · (intro w E;replace L:=Far.c6z L E;go_simp;try rfl)
     (try simp only [pu]);refine callA 2 rfl fun K F=>?_;go_simp;refine F.out _ _ ?_ (fun T=>?_);· exact (by refine Far.trans ?_ (Far.of (below_drew _));(iterate 6 (refine Far.setCell (p:=⟨(w.heap.size+1),_,none⟩) ?_ (.inl rfl) _));exact Far.refl _ _)
     clear F K;clear U D L;generalize a:World.setCell _ ⟨(w.heap.size+1),5,none⟩ _=Y at *;replace d:=fN6 d a;replace m:=bS6 m a;replace o:=bF6 o a;replace G:=yS6 G a;clear a;generalize a:(Y.drew)=Z at *;replace d:=fD d a;replace m:=bD m a;replace o:=bD o a;replace G:=yD G a;clear a;clear J;have W:=kc6 o;refine callA 3 rfl fun K F=>?_;go_simp;refine F.out _ _ ?_ (fun ab=>?_);· exact (by (iterate 6 (refine Far.setCell (p:=⟨(w.heap.size+2),_,none⟩) ?_ (.inr rfl) _));exact T)
     clear F K;refine wpAnyH_done (by kernel_rfl) ?_ _;clear W;generalize a:World.setCell _ ⟨(w.heap.size+2),5,none⟩ _=a5;replace d:=fN6 d a;replace m:=bF6 m a;replace o:=bS6 o a;replace G:=yS6 G a;clear a
     go_wp2_with (fail)
     have z:=kc6 m;have y:=kc6 o;refine bodyPost_ret (v:=.tuple #[.agg #[.slice aL n cap,.int .i64 ((j:Int)+1),.int .i64 (R:Int),.bool false,.int .i64 a0,.int .i64 b0],.agg #[.int .i64 x.kind,.string x.name,.int .i64 x.n,.slice ax mx cx,.int .i64 x.line,.int .i64 x.col]]) (by clear d H m o u B G;simp [results,Tryz.results65,go_sem,z,y]) rfl ?_;exact ⟨_,_,_,rfl,refBelow d.out,(bt_nw (base:=w.heap.size) G.out (by omega))⟩
    first | simp only [ao,Bool.false_eq_true,if_false] at I | simp only [takeT,ao,Bool.false_eq_true,if_false] at I
    cases I;clear D;refine (takeR_no _ (refTok d.out H.out) ao).mono ?_;rintro _ X ⟨rfl,q⟩;replace t:=kB t q;replace m:=kB m q;replace o:=kB o q;replace u:=kB u q;replace B:=kB B q;replace d:=kF d q;have ah:=q.size;clear q;simp only [rdV];have O:=kc6 t;have D:=kc6 u;have J:=i012_01_0 w C X
    go_wp2_with (fail)
    clear O D;generalize a:World.setCell _ ⟨C.heap.size,5,none⟩ _=a9;have P:=sizeS6 a;replace d:=fN6 d a;replace m:=bF6 m a;replace o:=bF6 o a;replace u:=bS6 u a;replace B:=bF6 B a;clear a;generalize a:World.setCell a9 _ _=M;have Q:=sizeS1 a;replace d:=fN1 d a;replace m:=bF1 m a;replace o:=bF1 o a;replace u:=s6_2 u a;replace B:=bF1 B a;clear a
    have ar:M.heap.size=X.heap.size:=by omega
    clear P Q;clear J;clear t;have U:=kc6 m;have D:=kc6 u;have L:=kc6 B;have J:=i12_01_0 w C M;refine wp_region_held_drew (S:=fun V=>Far (fun b=>b=(w.heap.size+1)∨b=(w.heap.size+2)) (M) V) (by kernel_rfl) (Far.of (below_drew _)) (fun aa=>?_);refine takeA 0 (v:=?_) rfl ?_ ?_;rotate_left
    · (intro w E;replace D:=Far.c6z D E;go_simp;try rfl)
    (try simp only [pu]);refine takeA 1 (v:=?_) rfl ?_ ?_;rotate_left
    · (intro w E;replace L:=Far.c6z L E;go_simp;try rfl)
    (try simp only [pu]);refine callA 2 rfl fun K F=>?_;go_simp;refine F.out _ _ ?_ (fun T=>?_);· exact (by refine Far.trans ?_ (Far.of (below_drew _));(iterate 6 (refine Far.setCell (p:=⟨(w.heap.size+1),_,none⟩) ?_ (.inl rfl) _));exact Far.refl _ _)
    clear F K;clear U D L;generalize a:World.setCell _ ⟨(w.heap.size+1),5,none⟩ _=Y at *;replace d:=fN6 d a;replace m:=bS6 m a;replace o:=bF6 o a;clear a;generalize a:(Y.drew)=Z at *;replace d:=fD d a;replace m:=bD m a;replace o:=bD o a;clear a;clear J;have W:=kc6 o;refine callA 3 rfl fun K F=>?_;go_simp;refine F.out _ _ ?_ (fun ab=>?_);· exact (by (iterate 6 (refine Far.setCell (p:=⟨(w.heap.size+2),_,none⟩) ?_ (.inr rfl) _));exact T)
    clear F K;refine wpAnyH_done (by kernel_rfl) ?_ _;clear W;generalize a:World.setCell _ ⟨(w.heap.size+2),5,none⟩ _=a5;replace d:=fN6 d a;replace m:=bF6 m a;replace o:=bS6 o a;clear a
    go_wp2_with (fail)
    have z:=kc6 m;have y:=kc6 o;refine bodyPost_ret (v:=.tuple #[.agg #[.slice aL n cap,.int .i64 (j:Int),.int .i64 (R:Int),.bool true,.int .i64 (nowT ts j).l,.int .i64 (nowT ts j).c],.agg #[.int .i64 x.kind,.string x.name,.int .i64 x.n,.slice ax mx cx,.int .i64 x.line,.int .i64 x.col]]) (by clear d H m o u B G;simp [results,Tryz.results65,go_sem,z,y]) rfl ?_;exact ⟨_,_,_,_,_,_,_,_,_,_,rfl,refBelow d.out⟩
  have eu:((nowT ts (i+1)).k==3)=true:=by simp [hu]
  rw [if_pos hu] at I;clear hu;have ic:=kc6 a6
  go_wp2_with (fail)
  rcases hx:readE ts f .pat (i+1) (R+1) with _ | ⟨x,j⟩ | ⟨l_,c_⟩
  · (rw [hx] at I;cases I)
  rotate_left
  ·
   rw [hx] at I
   first | simp only at I | simp only [andT] at I
   cases I;clear ic;refine (HQ.out f (Nat.le_refl _) (i+1) (R+1) _ _ _ _ ap (refTok d.out H.out) hn hx).mono ?_;rintro _ C ⟨iq,dq,kq,sq,nq,aq,mq,cq,uq,vq,rfl,q⟩;replace t:=kB t q;replace m:=kB m q;replace o:=kB o q;replace d:=kF d q;have b1:=q.size;clear q;simp only [rdV]
   go_wp2_with (fail)
   generalize a:World.alloc C _=ac;have P:=sizeA a;replace d:=fA d a;replace t:=bA t a;replace m:=bA m a;replace o:=bA o a;have u:=nB a (C.heap.size);clear a;generalize a:World.alloc ac _=ad;have Q:=sizeA a;replace d:=fA d a;replace t:=bA t a;replace m:=bA m a;replace o:=bA o a;replace u:=bA u a;have B:=nB a (C.heap.size+1);clear a;generalize a:World.alloc ad _=a4;have a8:=sizeA a;replace d:=fA d a;replace t:=bA t a;replace m:=bA m a;replace o:=bA o a;replace u:=bA u a;replace B:=bA B a;clear a
   have b2:a4.heap.size=C.heap.size+3:=by omega
   clear P Q a8
   go_loopw [11] (fun v wr=>v=.slice (some ⟨(C.heap.size+2),0,none⟩) 1 1∧a4=wr) (fun _ _=>0)
   case atStart=>exact ⟨rfl,rfl⟩
   case round=>
    obtain ⟨hv,hw⟩:=hrel;subst hv;subst hw;have D:=kc6 u
    go_wp2_with (fail)
    clear D;refine (takeR_bad _ (refTok d.out H.out)).mono ?_;rintro _ X ⟨rfl,q⟩;replace t:=kB t q;replace m:=kB m q;replace o:=kB o q;replace u:=kB u q;replace B:=kB B q;replace d:=kF d q;have ah:=q.size;clear q;simp only [rdV];have O:=kc6 t;have D:=kc6 u;have J:=i012_0_012_0 w w8 C X
    go_wp2_with (fail)
    clear O D;generalize a:World.setCell _ ⟨C.heap.size,5,none⟩ _=a9;have P:=sizeS6 a;replace d:=fN6 d a;replace m:=bF6 m a;replace o:=bF6 o a;replace u:=bS6 u a;replace B:=bF6 B a;clear a;generalize a:World.setCell a9 _ _=M;have Q:=sizeS1 a;replace d:=fN1 d a;replace m:=bF1 m a;replace o:=bF1 o a;replace u:=s6_2 u a;replace B:=bF1 B a;clear a
    have ar:M.heap.size=X.heap.size:=by omega
    clear P Q;clear J;clear t a6;have U:=kc6 m;have D:=kc6 u;have L:=kc6 B;have J:=i12_01_0 w C M;refine wp_region_held_drew (S:=fun V=>Far (fun b=>b=(w.heap.size+1)∨b=(w.heap.size+2)) (M) V) (by kernel_rfl) (Far.of (below_drew _)) (fun aa=>?_);refine takeA 0 (v:=?_) rfl ?_ ?_;rotate_left
    · (intro w E;replace D:=Far.c6z D E;go_simp;try rfl)
    (try simp only [pu]);refine takeA 1 (v:=?_) rfl ?_ ?_;rotate_left
    · (intro w E;replace L:=Far.c6z L E;go_simp;try rfl)
    (try simp only [pu]);refine callA 2 rfl fun K F=>?_;go_simp;refine F.out _ _ ?_ (fun T=>?_);· exact (by refine Far.trans ?_ (Far.of (below_drew _));(iterate 6 (refine Far.setCell (p:=⟨(w.heap.size+1),_,none⟩) ?_ (.inl rfl) _));exact Far.refl _ _)
    clear F K;clear U D L;generalize a:World.setCell _ ⟨(w.heap.size+1),5,none⟩ _=Y at *;replace d:=fN6 d a;replace m:=bS6 m a;replace o:=bF6 o a;clear a;generalize a:(Y.drew)=Z at *;replace d:=fD d a;replace m:=bD m a;replace o:=bD o a;clear a;clear J;have W:=kc6 o;refine callA 3 rfl fun K F=>?_;go_simp;refine F.out _ _ ?_ (fun ab=>?_);· exact (by (iterate 6 (refine Far.setCell (p:=⟨(w.heap.size+2),_,none⟩) ?_ (.inr rfl) _));exact T)
    clear F K;refine wpAnyH_done (by kernel_rfl) ?_ _;clear W;generalize a:World.setCell _ ⟨(w.heap.size+2),5,none⟩ _=a5;replace d:=fN6 d a;replace m:=bF6 m a;replace o:=bS6 o a;clear a
    go_wp2_with (fail)
    have z:=kc6 m;have y:=kc6 o;refine bodyPost_ret (v:=.tuple #[.agg #[.slice aL n cap,.int .i64 (iq:Int),.int .i64 (R:Int),.bool true,.int .i64 l_,.int .i64 c_],.agg #[.int .i64 kq,.string sq,.int .i64 nq,.slice aq mq cq,.int .i64 uq,.int .i64 vq]]) (by clear d H m o u B;simp [results,Tryz.results65,go_sem,z,y]) rfl ?_;exact ⟨_,_,_,_,_,_,_,_,_,_,rfl,refBelow d.out⟩
  rw [hx] at I
  first | simp only at I | simp only [andT] at I
  clear ic;refine (HQ.out f (Nat.le_refl _) (i+1) (R+1) _ _ _ _ ap (refTok d.out H.out) hn hx).mono ?_;rintro _ C ⟨ax,mx,cx,rfl,q,hm⟩;replace t:=kB t q;replace m:=kB m q;replace o:=kB o q;replace d:=kF d q;have b1:=q.size;clear q;have am:=zz hm;clear hm;simp only [rdV,exV];rw [show ((R+1:Nat):Int)=(R:Int)+1 from rfl];have bp:i+1<j∧j≤ts.length:=readE_fwd f .pat (i+1) (R+1) x j hx;clear a6
  go_wp2_with (fail)
  have G:Hid (Mem (NwS (Bt ai.heap.size C.heap.size) C.heap.size) C _ _):=zz (memS_bt am.out (by omega));have an:Hid (Mem (NwS (Av ai.heap.size C.heap.size (C.heap.size+1)) C.heap.size) C _ _):=zz (memS_av (g:=C.heap.size) (k:=(C.heap.size+1)) am.out (by omega) (by omega) (by omega));clear am;generalize a:World.alloc C _=ac;have P:=sizeA a;replace d:=fA d a;replace t:=bA t a;replace m:=bA m a;replace o:=bA o a;replace G:=yA G a;replace an:=yA an a;have u:=nB a (C.heap.size);clear a;generalize a:World.alloc ac _=ad;have Q:=sizeA a;replace d:=fA d a;replace t:=bA t a;replace m:=bA m a;replace o:=bA o a;replace u:=bA u a;replace G:=yA G a;replace an:=yA an a;have B:=nB a (C.heap.size+1);clear a;generalize a:World.alloc ad _=a4;have a8:=sizeA a;have bg:=zz (builtS1E (A:=Av ai.heap.size C.heap.size (C.heap.size+1)) (base:=(C.heap.size+2)) an.out a (b:=C.heap.size+2) (by omega) (by omega));replace d:=fA d a;replace t:=bA t a;replace m:=bA m a;replace o:=bA o a;replace u:=bA u a;replace B:=bA B a;replace G:=yA G a;have N:=bg;clear bg;clear a
  have b2:a4.heap.size=C.heap.size+3:=by omega
  clear P Q a8;clear an
  go_loopw [11] (fun v wr=>Hid (FarB w.heap.size w.heap.size w wr)∧(C.heap.size+2)+1≤wr.heap.size∧Hid (Bo wr w.heap.size 67 #[.slice aL n cap,.int .i64 (i:Int),.int .i64 (R:Int),.bool false,.int .i64 a0,.int .i64 b0])∧Hid (Bo wr (w.heap.size+1) 67 #[.slice none 0 0,.int .i64 0,.int .i64 0,.bool false,.int .i64 0,.int .i64 0])∧Hid (Bo wr (w.heap.size+2) 60 #[.int .i64 0,.string ⟨#[]⟩,.int .i64 0,.slice none 0 0,.int .i64 0,.int .i64 0])∧Hid (Bo wr (C.heap.size+1) 60 #[.int .i64 x.kind,.string x.name,.int .i64 x.n,.slice ax mx cx,.int .i64 x.line,.int .i64 x.col])∧Hid (Mem (NwS (Bt ai.heap.size C.heap.size) wr.heap.size) wr (.s 6 (Ex.rows x.args)) (.slice ax mx cx))∧((∃ (l:List Ex) (jj g:Nat),readE ts g (.pats l) jj (R+1)=some r∧g≤f∧Hid (Bo wr C.heap.size 67 #[.slice aL n cap,.int .i64 (jj:Int),.int .i64 ((R:Int)+1),.bool false,.int .i64 a0,.int .i64 b0])∧Hid (OwnS (Av ai.heap.size C.heap.size (C.heap.size+1)) (C.heap.size+2) 60 6 wr v (Ex.rows l))∧l[0]?=some x∧l.length≤jj∧jj≤ts.length)∨(∃ (iq:Nat) (dq l_ c_:Int) (av:Option Addr) (mv cv:Nat),r=.bad l_ c_∧v=.slice av mv cv∧2≤mv∧Hid (Bo wr C.heap.size 67 #[.slice aL n cap,.int .i64 (iq:Int),.int .i64 dq,.bool true,.int .i64 l_,.int .i64 c_])))) (fun v wr=>measP C.heap.size ts.length v wr)
  case atStart=>exact ⟨d,by omega,t,m,o,B,G,.inl ⟨[x],j,f,I,Nat.le_refl _,u,N,rfl,by simp only [List.length_cons,List.length_nil];omega,bp.2⟩⟩
  case round=>
   clear d t m o u B G N I;obtain ⟨d,cp,t,m,o,B,G,au⟩:=hrel
   rcases au with au | au
   ·
    obtain ⟨l,jj,g,I,hg,u,N,b7,ce,cf⟩:=au
    have co:l.length≤1048576:=by have h1:=H.out.len.1;rw [tkRows_len] at h1;omega
    have cg:0<l.length:=by cases l with | nil=>cases b7 | cons _ _=>exact Nat.succ_pos _
    obtain ⟨a1,m1,c1,rfl,ba,ch,bq⟩:=N.out.form;rw [Ex.rows_len] at ba;have af:=zz ba;clear ba bq
    have bk:measP C.heap.size ts.length (.slice a1 m1 c1) wr=ts.length+2 - m1:=by unfold measP bad4;rw [u.out.cell (j:=3) rfl];simp [lenV]
    have bh:=zz bk;clear bk
    cases g with
    | zero=>rw [readE] at I;cases I
    | succ g=>
     rw [readE] at I;have D:=kc6 u
     go_wp2_with (fail)
     cases hce:isT ts jj 6 wClose with
     | true=>
      clear D;refine (isR_ok (s:=wClose) _ (refTok d.out H.out)).mono ?_;rintro _ X ⟨rfl,q⟩;replace t:=kB t q;replace m:=kB m q;replace o:=kB o q;replace u:=kB u q;replace B:=kB B q;replace G:=kY G q;replace N:=kS N q;replace d:=kF d q;have ah:=q.size;clear q;rw [hce];simp only [hce,if_true] at I;cases I;have D:=kc6 u
      go_wp2_with (fail)
      clear D;refine (takeR_ok _ (refTok d.out H.out) hce (by decide)).mono ?_;rintro _ M ⟨rfl,q⟩;replace t:=kB t q;replace m:=kB m q;replace o:=kB o q;replace u:=kB u q;replace B:=kB B q;replace G:=kY G q;replace N:=kS N q;replace d:=kF d q;have bl:=q.size;clear q;simp only [rdV]
      by_cases h1:l.length=1
      ·
       obtain rfl:m1=1:=by have :=af.out;omega
       have HZ:Hid (appE l=x):=zz (by match l,h1,b7 with | [e],_,h=>simpa [appE] using h);have O:=kc6 t;have D:=kc6 u;have J:=i012_01_0 w C M
       go_wp2_with (fail)
       clear O D;generalize a:World.setCell _ ⟨C.heap.size,5,none⟩ _=Y;have P:=sizeS6 a;replace d:=fN6 d a;replace m:=bF6 m a;replace o:=bF6 o a;replace u:=bS6 u a;replace B:=bF6 B a;replace G:=yS6 G a;clear a;generalize a:World.setCell Y _ _=Z;have Q:=sizeS1 a;replace d:=fN1 d a;replace m:=bF1 m a;replace o:=bF1 o a;replace u:=s6_2 u a;replace B:=bF1 B a;replace G:=yS1 G a;clear a
       have c7:Z.heap.size=M.heap.size:=by omega
       clear P Q;clear J;clear t;have U:=kc6 m;have D:=kc6 u;have L:=kc6 B;have J:=i12_01_0 w C Z;refine wp_region_held_drew (S:=fun V=>Far (fun b=>b=(w.heap.size+1)∨b=(w.heap.size+2)) (Z) V) (by kernel_rfl) (Far.of (below_drew _)) (fun aa=>?_);refine takeA 0 (v:=?_) rfl ?_ ?_;rotate_left
       · (intro w E;replace D:=Far.c6z D E;go_simp;try rfl)
       (try simp only [pu]);refine takeA 1 (v:=?_) rfl ?_ ?_;rotate_left
       · (intro w E;replace L:=Far.c6z L E;go_simp;try rfl)
       (try simp only [pu]);refine callA 2 rfl fun K F=>?_;go_simp;refine F.out _ _ ?_ (fun T=>?_);· exact (by refine Far.trans ?_ (Far.of (below_drew _));(iterate 6 (refine Far.setCell (p:=⟨(w.heap.size+1),_,none⟩) ?_ (.inl rfl) _));exact Far.refl _ _)
       clear F K;clear U D L;generalize a:World.setCell _ ⟨(w.heap.size+1),5,none⟩ _=bf at *;replace d:=fN6 d a;replace m:=bS6 m a;replace o:=bF6 o a;replace G:=yS6 G a;clear a;generalize a:(bf.drew)=a5 at *;replace d:=fD d a;replace m:=bD m a;replace o:=bD o a;replace G:=yD G a;clear a;clear J;have W:=kc6 o;refine callA 3 rfl fun K F=>?_;go_simp;refine F.out _ _ ?_ (fun ab=>?_);· exact (by (iterate 6 (refine Far.setCell (p:=⟨(w.heap.size+2),_,none⟩) ?_ (.inr rfl) _));exact T)
       clear F K;refine wpAnyH_done (by kernel_rfl) ?_ _;clear W;generalize a:World.setCell _ ⟨(w.heap.size+2),5,none⟩ _=c9;replace d:=fN6 d a;replace m:=bF6 m a;replace o:=bS6 o a;replace G:=yS6 G a;clear a
       go_wp2_with (fail)
       have z:=kc6 m;have y:=kc6 o;refine bodyPost_ret (v:=.tuple #[.agg #[.slice aL n cap,.int .i64 ((jj:Int)+1),.int .i64 (R:Int),.bool false,.int .i64 a0,.int .i64 b0],.agg #[.int .i64 x.kind,.string x.name,.int .i64 x.n,.slice ax mx cx,.int .i64 x.line,.int .i64 x.col]]) (by clear d H m o u B G N;simp [results,Tryz.results65,go_sem,z,y]) rfl ?_;rw [HZ.out];exact ⟨_,_,_,rfl,refBelow d.out,(bt_nw (base:=w.heap.size) G.out (by omega))⟩
      have br:((m1:Int)==1)=false:=by have :=af.out;simp;omega
      have HZ:Hid (appE l=.mk 4 .empty 0 l x.line x.col):=zz (by match l,h1,b7 with | e::e2::es,_,h=>(have h2:e=x:=by simpa using h);rw [←h2];rfl)
      have O:=kc6 t;have D:=kc6 u;have J:=i012_01_0 w C M
      go_wp2_with (fail)
      clear O D;generalize a:World.setCell _ ⟨C.heap.size,5,none⟩ _=Y;have P:=sizeS6 a;replace d:=fN6 d a;replace m:=bF6 m a;replace o:=bF6 o a;replace u:=bS6 u a;replace B:=bF6 B a;replace N:=sS6 N a;clear a;generalize a:World.setCell Y _ _=Z;have Q:=sizeS1 a;replace d:=fN1 d a;replace m:=bF1 m a;replace o:=bF1 o a;replace u:=s6_2 u a;replace B:=bF1 B a;replace N:=sS1 N a;clear a
      have c7:Z.heap.size=M.heap.size:=by omega
      clear P Q;clear J;clear t;have U:=kc6 m;have D:=kc6 u;have L:=kc6 B;have J:=i12_01_0 w C Z;refine wp_region_held_drew (S:=fun V=>Far (fun b=>b=(w.heap.size+1)∨b=(w.heap.size+2)) (Z) V) (by kernel_rfl) (Far.of (below_drew _)) (fun aa=>?_);refine takeA 0 (v:=?_) rfl ?_ ?_;rotate_left
      · (intro w E;replace D:=Far.c6z D E;replace L:=Far.c6z L E;go_simp;try rfl)
      (try simp only [pu]);refine takeA 1 (v:=?_) rfl ?_ ?_;rotate_left
      · (intro w E;replace D:=Far.c6z D E;replace L:=Far.c6z L E;go_simp;try rfl)
      (try simp only [pu]);refine takeA 2 (v:=?_) rfl ?_ ?_;rotate_left
      · (intro w E;replace D:=Far.c6z D E;replace L:=Far.c6z L E;go_simp;try rfl)
      (try simp only [pu]);refine takeA 3 (v:=?_) rfl ?_ ?_;rotate_left
      · (intro w E;replace D:=Far.c6z D E;replace L:=Far.c6z L E;go_simp;try rfl)
      (try simp only [pu]);refine takeA 4 (v:=?_) rfl ?_ ?_;rotate_left
      · (intro w E;replace D:=Far.c6z D E;replace L:=Far.c6z L E;go_simp;try rfl)
      (try simp only [pu]);refine callA 5 rfl fun K F=>?_;go_simp;refine F.out _ _ ?_ (fun T=>?_);· exact (by refine Far.trans ?_ (Far.of (below_drew _));(iterate 6 (refine Far.setCell (p:=⟨(w.heap.size+1),_,none⟩) ?_ (.inl rfl) _));exact Far.refl _ _)
      clear F K;clear U D L;generalize a:World.setCell _ ⟨(w.heap.size+1),5,none⟩ _=bf at *;have P:=sizeS6 a;replace d:=fN6 d a;replace m:=bS6 m a;replace o:=bF6 o a;replace N:=sS6 N a;clear a;generalize a:(bf.drew)=a5 at *;have Q:=sizeD a;replace d:=fD d a;replace m:=bD m a;replace o:=bD o a;replace N:=sD N a;clear a
      have cm:a5.heap.size=M.heap.size+0:=by omega
      clear P Q;clear J;have W:=kc6 o;have J:=i12_01_0 w C a5;refine callA 6 rfl fun K F=>?_;go_simp;refine F.out _ _ ?_ (fun ab=>?_);· exact (by (iterate 6 (refine Far.setCell (p:=⟨(w.heap.size+2),_,none⟩) ?_ (.inr rfl) _));exact T)
      clear F K;refine wpAnyH_done (by kernel_rfl) ?_ _;clear W;generalize a:World.setCell _ ⟨(w.heap.size+2),5,none⟩ _=c9;replace d:=fN6 d a;replace m:=bF6 m a;replace o:=bS6 o a;replace N:=sS6 N a;clear a;clear J
      go_wp2_with (fail)
      have z:=kc6 m;have y:=kc6 o;refine bodyPost_ret (v:=.tuple #[.agg #[.slice aL n cap,.int .i64 ((jj:Int)+1),.int .i64 (R:Int),.bool false,.int .i64 a0,.int .i64 b0],.agg #[.int .i64 4,.string ⟨#[]⟩,.int .i64 0,.slice a1 m1 c1,.int .i64 x.line,.int .i64 x.col]]) (by clear d H m o u B G N;simp [results,Tryz.results65,go_sem,z,y]) rfl ?_;rw [HZ.out];exact ⟨_,_,_,rfl,refBelow d.out,(OwnS.nw (base0:=w.heap.size) N.out (fun b q=>Nat.le_trans (by omega) q.1) (by omega))⟩
     | false=>
      clear D;refine (isR_ok (s:=wClose) _ (refTok d.out H.out)).mono ?_;rintro _ X ⟨rfl,q⟩;replace t:=kB t q;replace m:=kB m q;replace o:=kB o q;replace u:=kB u q;replace B:=kB B q;replace G:=kY G q;replace N:=kS N q;replace d:=kF d q;have ah:=q.size;clear q;rw [hce];simp only [hce,Bool.false_eq_true,if_false] at I;have D:=kc6 u
      go_wp2_with (fail)
      rcases hy:readE ts g .pat jj (R+1) with _ | ⟨y,k⟩ | ⟨l_,c_⟩
      · (rw [hy] at I;cases I)
      rotate_left
      ·
       rw [hy] at I
       first | simp only at I | simp only [andT] at I
       cases I;have b9:=N;clear D;refine (HQ.out g (by omega) jj (R+1) _ _ _ _ ap (refTok d.out H.out) hn hy).mono ?_;rintro _ M ⟨iq,dq,kq,sq,nq,aq,mq,cq,uq,vq,rfl,q⟩;replace t:=kB t q;replace m:=kB m q;replace o:=kB o q;replace u:=kB u q;replace B:=kB B q;replace G:=kY G q;replace N:=kS N q;replace d:=kF d q;have bl:=q.size;clear q;simp only [rdV];go_upto_region 16 with (fail);generalize a:World.alloc M _=Y;have P:=sizeA a;replace d:=fA d a;replace t:=bA t a;replace m:=bA m a;replace o:=bA o a;replace u:=bA u a;replace B:=bA B a;replace G:=yA G a;replace N:=sA N a;have ak:=nB a (M.heap.size);clear a;generalize a:World.alloc Y _=Z;have Q:=sizeA a;replace d:=fA d a;replace t:=bA t a;replace m:=bA m a;replace o:=bA o a;replace u:=bA u a;replace B:=bA B a;replace ak:=bA ak a;replace G:=yA G a;replace N:=sA N a;have aj:=nB a (M.heap.size+1);clear a
       have bz:Z.heap.size=M.heap.size+2:=by omega
       clear P Q;have D:=kc6 u;have be:=kc6 ak;have J:=i012_01_01_0 w C M Z;go_upto_region 17 with (fail);clear D be;generalize a:World.setCell _ ⟨C.heap.size,5,none⟩ _=a5;have c8:=sizeS6 a;replace d:=fN6 d a;replace t:=bF6 t a;replace m:=bF6 m a;replace o:=bF6 o a;replace u:=bS6 u a;replace B:=bF6 B a;replace aj:=bF6 aj a;replace G:=yS6 G a;replace N:=sS6 N a;clear a;clear J;have bd:=kc6 aj;have J:=i012_01_01_0 w C M a5
       go_wp2_with (first | (at_builtin;refine wpList_append_S (y:=.slice a1 m1 c1) (new:=[rawRow kq sq nq aq mq cq uq vq]) rfl _ _ rfl Tryz.underlying58 info_ex rfl (by decide) rfl rfl (N.out.alloc _) (by simp) (rawRowS b9.out kq sq nq aq mq cq uq vq ⟨by omega,by omega,by omega⟩ (by omega) (by omega)) (by have :=af.out;simp only [Ex.rows_len,List.length_cons,List.length_nil];omega) (by have :=af.out;simp only [Ex.rows_len,List.length_cons,List.length_nil];omega) (by rw [World.size_alloc];omega) ?_;intro vA w9 ho aw;have b8:=zz ho;clear ho;have a3:=zz aw;clear aw))
       have a7:∀ k,(Value.slice a1 m1 c1).ownBlock=some k→(C.heap.size+2)≤k:=fun k hk=>(N.out.lt k hk).1
       clear bd
       have bx:a5.heap.size+1≤w9.heap.size:=by have h:=a3.out.size;rw [World.size_alloc] at h;exact h
       replace d:=gFx d a3.out a7
       replace G:=zz (memS_grown (memS_alloc G.out (.cells #[.int .i64 kq,.string sq,.int .i64 nq,.slice aq mq cq,.int .i64 uq,.int .i64 vq] 60)) a3.out fun k hk=>by have :=a7 k hk;unfold Bt;omega)
       replace t:=gOx t a3.out a7;replace m:=gOx m a3.out a7;replace o:=gOx o a3.out a7;replace u:=gOx u a3.out a7;replace B:=gOx B a3.out a7;obtain ⟨a2,m2,c2,rfl,bb,_,_⟩:=b8.out.form;simp only [List.length_append,Ex.rows_len,List.length_cons,List.length_nil] at bb
       have bc:measP C.heap.size ts.length (.slice a2 m2 c2) w9=0:=by unfold measP bad4;rw [u.out.cell (j:=3) rfl];rfl
       go_roundw
       case rel=>exact ⟨d,by omega,t,m,o,B,G,.inr ⟨_,_,_,_,_,_,_,rfl,rfl,by have :=af.out;omega,u⟩⟩
       case measure=>rw [bc,bh.out];have :=af.out;omega
      rw [hy] at I
      first | simp only at I | simp only [andT] at I
      have b9:=N;clear D;refine (HQ.out g (by omega) jj (R+1) _ _ _ _ ap (refTok d.out H.out) hn hy).mono ?_;rintro _ M ⟨ay,my,cy,rfl,q,hm⟩;replace t:=kB t q;replace m:=kB m q;replace o:=kB o q;replace u:=kB u q;replace B:=kB B q;replace G:=kY G q;replace N:=kS N q;replace d:=kF d q;have bl:=q.size;clear q;have al:=zz hm;clear hm;simp only [rdV,exV];have bn:jj<k∧k≤ts.length:=readE_fwd g .pat jj (R+1) y k hy;go_upto_region 16 with (fail);generalize a:World.alloc M _=Y;have P:=sizeA a;replace d:=fA d a;replace t:=bA t a;replace m:=bA m a;replace o:=bA o a;replace u:=bA u a;replace B:=bA B a;replace al:=mA al a;replace G:=yA G a;replace N:=sA N a;have ak:=nB a (M.heap.size);clear a;generalize a:World.alloc Y _=Z;have Q:=sizeA a;replace d:=fA d a;replace t:=bA t a;replace m:=bA m a;replace o:=bA o a;replace u:=bA u a;replace B:=bA B a;replace ak:=bA ak a;replace al:=mA al a;replace G:=yA G a;replace N:=sA N a;have aj:=nB a (M.heap.size+1);clear a
      have bz:Z.heap.size=M.heap.size+2:=by omega
      clear P Q;have D:=kc6 u;have be:=kc6 ak;have J:=i012_01_01_0 w C M Z;go_upto_region 17 with (fail);clear D be;generalize a:World.setCell _ ⟨C.heap.size,5,none⟩ _=a5;have c8:=sizeS6 a;replace d:=fN6 d a;replace t:=bF6 t a;replace m:=bF6 m a;replace o:=bF6 o a;replace u:=bS6 u a;replace B:=bF6 B a;replace aj:=bF6 aj a;replace al:=mS6 al a;replace G:=yS6 G a;replace N:=sS6 N a;clear a;clear J;have bd:=kc6 aj;have J:=i012_01_01_0 w C M a5
      go_wp2_with (first | (at_builtin;refine wpList_append_S (y:=.slice a1 m1 c1) (new:=Ex.rows [y]) rfl _ _ rfl Tryz.underlying58 info_ex rfl (by decide) rfl rfl (N.out.alloc _) (by simp [Ex.rows_eq]) (newRowS b9.out (fun b h1 h2=>⟨by omega,by omega,by omega⟩) (by omega) (memNw al.out (by omega)) (by omega)) (by have :=af.out;simp only [Ex.rows_len,List.length_cons,List.length_nil];omega) (by have :=af.out;simp only [Ex.rows_len,List.length_cons,List.length_nil];omega) (by rw [World.size_alloc];omega) ?_;intro vA w9 ho aw;have b8:=zz ho;clear ho;have a3:=zz aw;clear aw))
      have a7:∀ k,(Value.slice a1 m1 c1).ownBlock=some k→(C.heap.size+2)≤k:=fun k hk=>(N.out.lt k hk).1
      clear bd
      have bx:a5.heap.size+1≤w9.heap.size:=by have h:=a3.out.size;rw [World.size_alloc] at h;exact h
      replace d:=gFx d a3.out a7
      replace G:=zz (memS_grown (memS_alloc G.out (.cells #[.int .i64 y.kind,.string y.name,.int .i64 y.n,.slice ay my cy,.int .i64 y.line,.int .i64 y.col] 60)) a3.out fun k hk=>by have :=a7 k hk;unfold Bt;omega)
      replace t:=gOx t a3.out a7;replace m:=gOx m a3.out a7;replace o:=gOx o a3.out a7;replace u:=gOx u a3.out a7;replace B:=gOx B a3.out a7;have bi:Hid (OwnS (Av ai.heap.size C.heap.size (C.heap.size+1)) (C.heap.size+2) 60 6 w9 vA (Ex.rows (l++[y]))):=zz (by rw [Ex.rows_app];exact b8.out);obtain ⟨a2,m2,c2,rfl,bb,_,_⟩:=bi.out.form;rw [Ex.rows_len,List.length_append,List.length_cons,List.length_nil] at bb
      have bc:measP C.heap.size ts.length (.slice a2 m2 c2) w9=ts.length+2 - m2:=by unfold measP bad4;rw [u.out.cell (j:=3) rfl];simp [lenV]
      go_roundw
      case rel=>exact ⟨d,by omega,t,m,o,B,G,.inl ⟨l++[y],k,g,I,by omega,u,bi,by rw [List.getElem?_append_left (by omega)];exact b7,by rw [List.length_append,List.length_cons,List.length_nil];omega,bn.2⟩⟩
      case measure=>rw [bc,bh.out];have :=af.out;omega
   ·
    obtain ⟨iq,dq,l_,c_,av,mv,cv,rfl,rfl,ci,u⟩:=au
    have br:((mv:Int)==1)=false:=by simp;omega
    have D:=kc6 u
    go_wp2_with (fail)
    clear D;refine (takeR_bad _ (refTok d.out H.out)).mono ?_;rintro _ X ⟨rfl,q⟩;replace t:=kB t q;replace m:=kB m q;replace o:=kB o q;replace u:=kB u q;replace B:=kB B q;replace d:=kF d q;have ah:=q.size;clear q;simp only [rdV];have O:=kc6 t;have D:=kc6 u;have J:=i012_01_0 w C X
    go_wp2_with (fail)
    clear O D;generalize a:World.setCell _ ⟨C.heap.size,5,none⟩ _=a9;have P:=sizeS6 a;replace d:=fN6 d a;replace m:=bF6 m a;replace o:=bF6 o a;replace u:=bS6 u a;replace B:=bF6 B a;clear a;generalize a:World.setCell a9 _ _=M;have Q:=sizeS1 a;replace d:=fN1 d a;replace m:=bF1 m a;replace o:=bF1 o a;replace u:=s6_2 u a;replace B:=bF1 B a;clear a
    have ar:M.heap.size=X.heap.size:=by omega
    clear P Q;clear J;clear t;have U:=kc6 m;have D:=kc6 u;have L:=kc6 B;have J:=i12_01_0 w C M;refine wp_region_held_drew (S:=fun V=>Far (fun b=>b=(w.heap.size+1)∨b=(w.heap.size+2)) (M) V) (by kernel_rfl) (Far.of (below_drew _)) (fun aa=>?_);refine takeA 0 (v:=?_) rfl ?_ ?_;rotate_left
    · (intro w E;replace D:=Far.c6z D E;replace L:=Far.c6z L E;go_simp;try rfl)
    (try simp only [pu]);refine takeA 1 (v:=?_) rfl ?_ ?_;rotate_left
    · (intro w E;replace D:=Far.c6z D E;replace L:=Far.c6z L E;go_simp;try rfl)
    (try simp only [pu]);refine takeA 2 (v:=?_) rfl ?_ ?_;rotate_left
    · (intro w E;replace D:=Far.c6z D E;replace L:=Far.c6z L E;go_simp;try rfl)
    (try simp only [pu]);refine takeA 3 (v:=?_) rfl ?_ ?_;rotate_left
    · (intro w E;replace D:=Far.c6z D E;replace L:=Far.c6z L E;go_simp;try rfl)
    (try simp only [pu]);refine takeA 4 (v:=?_) rfl ?_ ?_;rotate_left
    · (intro w E;replace D:=Far.c6z D E;replace L:=Far.c6z L E;go_simp;try rfl)
    (try simp only [pu]);refine callA 5 rfl fun K F=>?_;go_simp;refine F.out _ _ ?_ (fun T=>?_);· exact (by refine Far.trans ?_ (Far.of (below_drew _));(iterate 6 (refine Far.setCell (p:=⟨(w.heap.size+1),_,none⟩) ?_ (.inl rfl) _));exact Far.refl _ _)
    clear F K;clear U D L;generalize a:World.setCell _ ⟨(w.heap.size+1),5,none⟩ _=Y at *;replace d:=fN6 d a;replace m:=bS6 m a;replace o:=bF6 o a;clear a;generalize a:(Y.drew)=Z at *;replace d:=fD d a;replace m:=bD m a;replace o:=bD o a;clear a;clear J;have W:=kc6 o;refine callA 6 rfl fun K F=>?_;go_simp;refine F.out _ _ ?_ (fun ab=>?_);· exact (by (iterate 6 (refine Far.setCell (p:=⟨(w.heap.size+2),_,none⟩) ?_ (.inr rfl) _));exact T)
    clear F K;refine wpAnyH_done (by kernel_rfl) ?_ _;clear W;generalize a:World.setCell _ ⟨(w.heap.size+2),5,none⟩ _=a5;replace d:=fN6 d a;replace m:=bF6 m a;replace o:=bS6 o a;clear a
    go_wp2_with (fail)
    have z:=kc6 m;have y:=kc6 o;refine bodyPost_ret (v:=.tuple #[.agg #[.slice aL n cap,.int .i64 (iq:Int),.int .i64 (R:Int),.bool true,.int .i64 l_,.int .i64 c_],.agg #[.int .i64 4,.string ⟨#[]⟩,.int .i64 0,.slice av mv cv,.int .i64 x.line,.int .i64 x.col]]) (by clear d H m o u B G;simp [results,Tryz.results65,go_sem,z,y]) rfl ?_;exact ⟨_,_,_,_,_,_,_,_,_,_,rfl,refBelow d.out⟩
end
end
section
open Go.RowKit
theorem allRP (ts:List Tk) (aL:Option Addr) (n cap:Nat):∀ F g,g≤F→ReadsR ts aL n cap 65 .pat g
  | 0, g, h => by
    obtain rfl:g=0:=by omega
    exact fun i deep r a0 b0 w _ _ _ hr=>by rw [readE] at hr;cases hr
  | F + 1, g, h => by
    by_cases e:g=F+1
    · subst e
      exact fun i deep r a0 b0 w hd hm hn hr=>patR_succ hr w hd hm hn fun g hg=>allRP ts aL n cap F g hg
    · exact allRP ts aL n cap F g (by omega)
end
end Go.Proofs.YtcoiagfeoonpbaaGreat
