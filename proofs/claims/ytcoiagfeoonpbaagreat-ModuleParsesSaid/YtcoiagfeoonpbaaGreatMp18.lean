/-
 The document's reader's rank: operators of a rank. Under what the others do with less fuel.
-/
import Derived.Test.YtcoiagfeoonpbaaGreatMp15
import Derived.Deep.Cut
set_option maxHeartbeats 20000000
set_option maxRecDepth 100000
namespace Go.Proofs.YtcoiagfeoonpbaaGreat
section
open Go.RowKit
section
variable (ts:List Tk) (aL:Option Addr) (n cap:Nat)
def ReadsK (g:Nat):Prop:=∀ (rank i deep:Nat) (r:Rd1) (a0 b0:Int) (w:World),1≤rank→rank≤5→deep≤40→MemW w (.s 5 (tkRows ts)) (.slice aL n cap)→n≤1048576→readE ts g (rkN rank) i deep=some r→
 Calls Tryz.prog 106 #[rdV aL n cap (i:Int) (deep:Int) false a0 b0,.int .i64 (rank:Int)] w (AnsR aL n cap r deep a0 b0 w)
end
def badQ (q:Nat) (w:World):Bool:=
 match w.cell? ⟨q,3,none⟩ with
 | some (.bool b)=>b
 | _=>false
section
variable {ts:List Tk} {aL:Option Addr} {n cap:Nat}
attribute [local go_sem] tk_pos tk_text tk_kind0
theorem rankR_go {f T i Z:Nat} {r:Rd1} {a0 b0:Int} (h1:1≤T) (h4:T≤4) (h:∃ f',f'≤f∧(andT (readE ts f (.left (T+1)) i Z) fun x j=>moreR ts f' T x j Z)=some r) (w:World) (hd:Z≤40) (hm:MemW w (.s 5 (tkRows ts)) (.slice aL n cap)) (hn:n≤1048576) (HK:∀ g,g≤f→ReadsK ts aL n cap g):
  Calls Tryz.prog 106 #[rdV aL n cap (i:Int) (Z:Int) false a0 b0,.int .i64 (T:Int)] w (AnsR aL n cap r Z a0 b0 w):=by
 have H:=zz hm;clear hm;obtain ⟨f',av,G⟩:=h
 have ba:((4:Int)<(T:Int))=False:=by simp;omega
 have d:Hid (FarB w.heap.size w.heap.size w w):=zz (FarB.refl _ _ _);simp only [rdV];go_enter Tryz.func106,Tryz.ntmps106
 go_wp2_with (fail)
 generalize a:World.alloc w _=b5;have Q:=sizeA a;replace d:=fA d a;have F:=nB a (w.heap.size);clear a;generalize a:World.alloc b5 _=b6;have R:=sizeA a;replace d:=fA d a;replace F:=bA F a;have m:=nB a (w.heap.size+1);clear a;generalize a:World.alloc b6 _=w1;have aw:=sizeA a;replace d:=fA d a;replace F:=bA F a;replace m:=bA m a;have o:=nB a (w.heap.size+2);clear a
 have bb:w1.heap.size=w.heap.size+3:=by omega
 clear Q R aw
 rcases hx:readE ts f (.left (T+1)) i Z with _ | ⟨x,j⟩ | ⟨l_,c_⟩
 · (rw [hx] at G;cases G)
 rotate_left
 ·
  rw [hx] at G
  first | simp only at G | simp only [andT] at G
  cases G;refine (HK f (Nat.le_refl _) (T+1) _ _ _ _ _ _ (by omega) (by omega) hd (refTok d.out H.out) hn (by rw [rkN,if_neg (by omega)];exact hx)).mono ?_;rintro _ B ⟨iq,dq,kq,sq,nq,aq,mq,cq,uq,vq,rfl,u⟩;replace m:=kB m u;replace o:=kB o u;replace d:=kF d u;have az:=u.size;clear u;simp only [rdV]
  go_wp2_with (fail)
  generalize a:World.alloc B _=al;have Q:=sizeA a;replace d:=fA d a;replace m:=bA m a;replace o:=bA o a;have q:=nB a (B.heap.size);clear a;generalize a:World.alloc al _=w3;have R:=sizeA a;replace d:=fA d a;replace m:=bA m a;replace o:=bA o a;replace q:=bA q a;have t:=nB a (B.heap.size+1);clear a
  have b2:w3.heap.size=B.heap.size+2:=by omega
  clear Q R
  go_loopw [] (fun wr=>w3=wr) (fun _=>0)
  case atStart=>exact rfl
  case round=>
   have hw:=hrel;subst hw;have C:=kc6 q
   go_wp2_with (fail)
   clear C;refine (nowR_any _ (refTok d.out H.out)).mono ?_;rintro _ P ⟨rfl,u⟩;replace m:=kB m u;replace o:=kB o u;replace q:=kB q u;replace t:=kB t u;replace d:=kF d u;have ar:=u.size;clear u;simp only [tkV];have C:=kc6 q;have D:=i012_01_0 w B P
   go_wp2_with (fail)
   clear C;generalize a:World.alloc P _=w5;have ah:=sizeA a;replace d:=fA d a;replace m:=bA m a;replace o:=bA o a;replace q:=bA q a;replace t:=bA t a;clear a;clear D;clear F;have sc:=kc6 m;have C:=kc6 q;have M:=kc6 t;refine wp_region_held_drew (S:=fun w'=>Far (fun b=>b=(w.heap.size+1)∨b=(w.heap.size+2)) (w5) w') (by kernel_rfl) (Far.of (below_drew _)) (fun a2=>?_);refine takeA 0 (v:=?_) rfl ?_ ?_;rotate_left
   · (intro w O;replace C:=Far.c6z C O;go_simp;try rfl)
   (try simp only [pu]);refine takeA 1 (v:=?_) rfl ?_ ?_;rotate_left
   · (intro w O;replace M:=Far.c6z M O;go_simp;try rfl)
   (try simp only [pu]);refine callA 2 rfl fun K J=>?_;go_simp;refine J.out _ _ ?_ (fun a1=>?_);· exact (by refine Far.trans ?_ (Far.of (below_drew _));(iterate 6 (refine Far.setCell (p:=⟨(w.heap.size+1),_,none⟩) ?_ (.inl rfl) _));exact Far.refl _ _)
   clear J K;clear sc C M;generalize a:World.setCell _ ⟨(w.heap.size+1),5,none⟩ _=a7 at *;replace d:=fN6 d a;replace m:=bS6 m a;replace o:=bF6 o a;clear a;generalize a:(a7.drew)=w6 at *;replace d:=fD d a;replace m:=bD m a;replace o:=bD o a;clear a;have xc:=kc6 o;refine callA 3 rfl fun K J=>?_;go_simp;refine J.out _ _ ?_ (fun a3=>?_);· exact (by (iterate 6 (refine Far.setCell (p:=⟨(w.heap.size+2),_,none⟩) ?_ (.inr rfl) _));exact a1)
   clear J K;refine wpAnyH_done (by kernel_rfl) ?_ _;clear xc;generalize a:World.setCell _ ⟨(w.heap.size+2),5,none⟩ _=E;replace d:=fN6 d a;replace m:=bF6 m a;replace o:=bS6 o a;clear a
   go_wp2_with (fail)
   have z:=kc6 m;have y:=kc6 o;refine bodyPost_ret (v:=.tuple #[.agg #[.slice aL n cap,.int .i64 (iq:Int),.int .i64 dq,.bool true,.int .i64 l_,.int .i64 c_],.agg #[.int .i64 kq,.string sq,.int .i64 nq,.slice aq mq cq,.int .i64 uq,.int .i64 vq]]) (by clear d H m o q t;simp [results,Tryz.results106,go_sem,z,y]) rfl ?_;exact ⟨_,_,_,_,_,_,_,_,_,_,rfl,refBelow d.out⟩
 rw [hx] at G
 first | simp only at G | simp only [andT] at G
 refine (HK f (Nat.le_refl _) (T+1) _ _ _ _ _ _ (by omega) (by omega) hd (refTok d.out H.out) hn (by rw [rkN,if_neg (by omega)];exact hx)).mono ?_;rintro _ B ⟨ax,mx,cx,rfl,u,hm⟩;replace F:=kB F u;replace m:=kB m u;replace o:=kB o u;replace d:=kF d u;have az:=u.size;clear u;have am:=zz hm;clear hm;simp only [rdV,exV]
 go_wp2_with (fail)
 have a9:Hid (Mem (NwS (Av w1.heap.size B.heap.size (B.heap.size+1)) B.heap.size) B _ _):=zz (memS_av (g:=B.heap.size) (k:=(B.heap.size+1)) am.out (by omega) (by omega) (by omega));clear am;generalize a:World.alloc B _=al;have Q:=sizeA a;replace d:=fA d a;replace F:=bA F a;replace m:=bA m a;replace o:=bA o a;replace a9:=yA a9 a;have q:=nB a (B.heap.size);clear a;generalize a:World.alloc al _=w3;have R:=sizeA a;replace d:=fA d a;replace F:=bA F a;replace m:=bA m a;replace o:=bA o a;replace q:=bA q a;replace a9:=yA a9 a;have t:=nB a (B.heap.size+1);clear a
 have b2:w3.heap.size=B.heap.size+2:=by omega
 clear Q R
 go_loopw [] (fun wr=>Hid (FarB w.heap.size w.heap.size w wr)∧(B.heap.size+1)+1≤wr.heap.size∧Hid (Bo wr w.heap.size 67 #[.slice aL n cap,.int .i64 (i:Int),.int .i64 (Z:Int),.bool false,.int .i64 a0,.int .i64 b0])∧Hid (Bo wr (w.heap.size+1) 67 #[.slice none 0 0,.int .i64 0,.int .i64 0,.bool false,.int .i64 0,.int .i64 0])∧Hid (Bo wr (w.heap.size+2) 60 #[.int .i64 0,.string ⟨#[]⟩,.int .i64 0,.slice none 0 0,.int .i64 0,.int .i64 0])∧((∃ (e:Ex) (N g:Nat) (ae:Option Addr) (me ce:Nat),moreR ts g T e N Z=some r∧g≤f∧Hid (Bo wr B.heap.size 67 #[.slice aL n cap,.int .i64 (N:Int),.int .i64 (Z:Int),.bool false,.int .i64 a0,.int .i64 b0])∧Hid (Bo wr (B.heap.size+1) 60 #[.int .i64 e.kind,.string e.name,.int .i64 e.n,.slice ae me ce,.int .i64 e.line,.int .i64 e.col])∧Hid (Mem (NwS (Av w1.heap.size B.heap.size (B.heap.size+1)) wr.heap.size) wr (.s 6 (Ex.rows e.args)) (.slice ae me ce)))∨(∃ (iq:Nat) (dq l_ c_ kq:Int) (sq:ByteArray) (nq:Int) (aq:Option Addr) (mq cq:Nat) (uq vq:Int),r=.bad l_ c_∧Hid (Bo wr B.heap.size 67 #[.slice aL n cap,.int .i64 (iq:Int),.int .i64 dq,.bool true,.int .i64 l_,.int .i64 c_])∧Hid (Bo wr (B.heap.size+1) 60 #[.int .i64 kq,.string sq,.int .i64 nq,.slice aq mq cq,.int .i64 uq,.int .i64 vq])))) (fun wr=>if badQ B.heap.size wr then 0 else ts.length+1 - posQ B.heap.size wr)
 case atStart=>exact ⟨d,by omega,F,m,o,.inl ⟨x,j,f',ax,mx,cx,G,av,q,t,a9⟩⟩
 case round=>
  clear d F m o q t a9 G;obtain ⟨d,bc,F,m,o,ac⟩:=hrel
  rcases ac with ac | ac
  ·
   obtain ⟨e,N,g,ae,me,ce,G,hg,q,t,I⟩:=ac
   have ap:(if badQ B.heap.size wr then 0 else ts.length+1 - posQ B.heap.size wr)=ts.length+1 - N:=by unfold badQ posQ;rw [q.out.cell (j:=1) rfl,q.out.cell (j:=3) rfl];simp
   have an:=zz ap;clear ap;have C:=kc6 q
   go_wp2_with (fail)
   clear C;refine (nowR_any _ (refTok d.out H.out)).mono ?_;rintro _ P ⟨rfl,u⟩;replace F:=kB F u;replace m:=kB m u;replace o:=kB o u;replace q:=kB q u;replace t:=kB t u;replace I:=kY I u;replace d:=kF d u;have ar:=u.size;clear u;simp only [tkV]
   by_cases h6:(nowT ts N).k=6
   rotate_left
   ·
    have e6:((nowT ts N).k != 6)=true:=by simp [h6]
    unfold moreR at G;rw [if_neg (fun h=>h6 h.1)] at G;have C:=kc6 q;have D:=i012_01_0 w B P
    go_wp2_with (fail)
    clear C;generalize a:World.alloc P _=w5;have ah:=sizeA a;replace d:=fA d a;replace m:=bA m a;replace o:=bA o a;replace q:=bA q a;replace t:=bA t a;replace I:=yA I a;clear a;clear D;have G:some (Rd1.ok e N)=some r:=G;cases G;clear F;have sc:=kc6 m;have C:=kc6 q;have M:=kc6 t;have D:=i12_01_0 w B w5;refine wp_region_held_drew (S:=fun w'=>Far (fun b=>b=(w.heap.size+1)∨b=(w.heap.size+2)) (w5) w') (by kernel_rfl) (Far.of (below_drew _)) (fun a2=>?_);refine takeA 0 (v:=?_) rfl ?_ ?_;rotate_left
    · (intro w O;replace C:=Far.c6z C O;go_simp;try rfl)
    (try simp only [pu]);refine takeA 1 (v:=?_) rfl ?_ ?_;rotate_left
    · (intro w O;replace M:=Far.c6z M O;go_simp;try rfl)
    (try simp only [pu]);refine callA 2 rfl fun K J=>?_;go_simp;refine J.out _ _ ?_ (fun a1=>?_);· exact (by refine Far.trans ?_ (Far.of (below_drew _));(iterate 6 (refine Far.setCell (p:=⟨(w.heap.size+1),_,none⟩) ?_ (.inl rfl) _));exact Far.refl _ _)
    clear J K;clear sc C M;generalize a:World.setCell _ ⟨(w.heap.size+1),5,none⟩ _=a7 at *;replace d:=fN6 d a;replace m:=bS6 m a;replace o:=bF6 o a;replace I:=yS6 I a;clear a;generalize a:(a7.drew)=w6 at *;replace d:=fD d a;replace m:=bD m a;replace o:=bD o a;replace I:=yD I a;clear a;clear D;have xc:=kc6 o;refine callA 3 rfl fun K J=>?_;go_simp;refine J.out _ _ ?_ (fun a3=>?_);· exact (by (iterate 6 (refine Far.setCell (p:=⟨(w.heap.size+2),_,none⟩) ?_ (.inr rfl) _));exact a1)
    clear J K;refine wpAnyH_done (by kernel_rfl) ?_ _;clear xc;generalize a:World.setCell _ ⟨(w.heap.size+2),5,none⟩ _=E;replace d:=fN6 d a;replace m:=bF6 m a;replace o:=bS6 o a;replace I:=yS6 I a;clear a
    go_wp2_with (fail)
    have z:=kc6 m;have y:=kc6 o;refine bodyPost_ret (v:=.tuple #[.agg #[.slice aL n cap,.int .i64 (N:Int),.int .i64 (Z:Int),.bool false,.int .i64 a0,.int .i64 b0],.agg #[.int .i64 e.kind,.string e.name,.int .i64 e.n,.slice ae me ce,.int .i64 e.line,.int .i64 e.col]]) (by clear d H m o q t I;simp [results,Tryz.results106,go_sem,z,y]) rfl ?_;exact ⟨_,_,_,rfl,refBelow d.out,av_nw I.out (by omega)⟩
   have C:=kc6 q;have D:=i012_01_0 w B P
   go_wp2_with (fail)
   clear C;generalize a:World.alloc P _=w5;have ah:=sizeA a;replace d:=fA d a;replace F:=bA F a;replace m:=bA m a;replace o:=bA o a;replace q:=bA q a;replace t:=bA t a;replace I:=yA I a;have L:=nB a (P.heap.size);clear a;clear D;have C:=kc6 q;have D:=i012_01_0_0 w B P w5;refine (rbinds_any (nowT ts N).s _).mono ?_;rintro _ _ ⟨rfl,rfl⟩
   by_cases u:bindsE (nowT ts N).s=T
   rotate_left
   ·
    have eb:(((bindsE (nowT ts N).s:Nat):Int) != (T:Int))=true:=by simp;omega
    unfold moreR at G;rw [if_neg (fun h=>u h.2)] at G
    go_wp2_with (fail)
    have G:some (Rd1.ok e N)=some r:=G;cases G;clear C;clear D;clear F L;have sc:=kc6 m;have C:=kc6 q;have M:=kc6 t;have D:=i12_01_0 w B w5;refine wp_region_held_drew (S:=fun w'=>Far (fun b=>b=(w.heap.size+1)∨b=(w.heap.size+2)) (w5) w') (by kernel_rfl) (Far.of (below_drew _)) (fun a2=>?_);refine takeA 0 (v:=?_) rfl ?_ ?_;rotate_left
    · (intro w O;replace C:=Far.c6z C O;go_simp;try rfl)
    (try simp only [pu]);refine takeA 1 (v:=?_) rfl ?_ ?_;rotate_left
    · (intro w O;replace M:=Far.c6z M O;go_simp;try rfl)
    (try simp only [pu]);refine callA 2 rfl fun K J=>?_;go_simp;refine J.out _ _ ?_ (fun a1=>?_);· exact (by refine Far.trans ?_ (Far.of (below_drew _));(iterate 6 (refine Far.setCell (p:=⟨(w.heap.size+1),_,none⟩) ?_ (.inl rfl) _));exact Far.refl _ _)
    clear J K;clear sc C M;generalize a:World.setCell _ ⟨(w.heap.size+1),5,none⟩ _=a7 at *;replace d:=fN6 d a;replace m:=bS6 m a;replace o:=bF6 o a;replace I:=yS6 I a;clear a;generalize a:(a7.drew)=w6 at *;replace d:=fD d a;replace m:=bD m a;replace o:=bD o a;replace I:=yD I a;clear a;clear D;have xc:=kc6 o;refine callA 3 rfl fun K J=>?_;go_simp;refine J.out _ _ ?_ (fun a3=>?_);· exact (by (iterate 6 (refine Far.setCell (p:=⟨(w.heap.size+2),_,none⟩) ?_ (.inr rfl) _));exact a1)
    clear J K;refine wpAnyH_done (by kernel_rfl) ?_ _;clear xc;generalize a:World.setCell _ ⟨(w.heap.size+2),5,none⟩ _=E;replace d:=fN6 d a;replace m:=bF6 m a;replace o:=bS6 o a;replace I:=yS6 I a;clear a
    go_wp2_with (fail)
    have z:=kc6 m;have y:=kc6 o;refine bodyPost_ret (v:=.tuple #[.agg #[.slice aL n cap,.int .i64 (N:Int),.int .i64 (Z:Int),.bool false,.int .i64 a0,.int .i64 b0],.agg #[.int .i64 e.kind,.string e.name,.int .i64 e.n,.slice ae me ce,.int .i64 e.line,.int .i64 e.col]]) (by clear d H m o q t I;simp [results,Tryz.results106,go_sem,z,y]) rfl ?_;exact ⟨_,_,_,rfl,refBelow d.out,av_nw I.out (by omega)⟩
   unfold moreR at G;rw [if_pos ⟨h6,u⟩] at G;have b8:N<ts.length:=now_lt (by rw [h6];decide)
   have b9:(N:Int)+1≤9223372036854775807:=by have h1:=H.out.len;rw [tkRows_len] at h1;omega
   by_cases ao:T=1
   ·
    rw [if_pos ao] at G
    go_wp2_with (fail)
    clear C;generalize a:World.setCell w5 _ _=w6;have b4:=sizeS1 a;replace d:=fN1 d a;replace m:=bF1 m a;replace o:=bF1 o a;replace q:=s6_1 q a;replace t:=bF1 t a;replace L:=bF1 L a;replace I:=yS1 I a;clear a;clear D;have D:=i012_01_0_0 w B P w6
    rcases hy:readE ts g (rkN 1) (N+1) Z with _ | ⟨y,k⟩ | ⟨l_,c_⟩
    · (rw [hy] at G;cases G)
    rotate_left
    ·
     rw [hy] at G
     first | simp only at G | simp only [andT] at G
     cases G;refine (HK g hg 1 (N+1) _ _ _ _ _ (by omega) (by omega) hd (refTok d.out H.out) hn hy).mono ?_;rintro _ E ⟨iq,dq,kq,sq,nq,aq,mq,cq,uq,vq,rfl,u⟩;replace m:=kB m u;replace o:=kB o u;replace q:=kB q u;replace t:=kB t u;replace L:=kB L u;replace d:=kF d u;have af:=u.size;clear u;simp only [rdV];clear D;go_upto_region 12 with (fail);generalize a:World.alloc E _=a8;have Q:=sizeA a;replace d:=fA d a;replace m:=bA m a;replace o:=bA o a;replace q:=bA q a;replace t:=bA t a;replace L:=bA L a;have X:=nB a (E.heap.size);clear a;generalize a:World.alloc a8 _=w8;have R:=sizeA a;replace d:=fA d a;replace m:=bA m a;replace o:=bA o a;replace q:=bA q a;replace t:=bA t a;replace L:=bA L a;replace X:=bA X a;have W:=nB a (E.heap.size+1);clear a
     have ai:w8.heap.size=E.heap.size+2:=by omega
     clear Q R;have C:=kc6 q;have pc:=kc6 X;have D:=i012_01_0_01_0 w B P E w8;go_upto_region 13 with (fail);clear C pc;generalize a:World.setCell _ ⟨B.heap.size,5,none⟩ _=w9;have aj:=sizeS6 a;replace d:=fN6 d a;replace m:=bF6 m a;replace o:=bF6 o a;replace q:=bS6 q a;replace t:=bF6 t a;replace L:=bF6 L a;replace W:=bF6 W a;clear a;clear D;have M:=kc6 t;have kc:=kc5 L;have oc:=kc6 W;have D:=i012_01_0_01_0 w B P E w9;have hZ:=i012_01_0_012 w B P E;go_upto_region 14 with (fail);clear M kc oc;generalize a:World.setCell _ ⟨(B.heap.size+1),5,none⟩ _=a4;have Q:=sizeS6 a;replace d:=fN6 d a;replace m:=bF6 m a;replace o:=bF6 o a;replace q:=bF6 q a;replace t:=bS6 t a;clear a;generalize a:World.alloc a4 _=V;have R:=sizeA a;replace d:=fA d a;replace m:=bA m a;replace o:=bA o a;replace q:=bA q a;replace t:=bA t a;clear a
     have ag:V.heap.size=E.heap.size+3:=by omega
     clear Q R;clear D hZ
     go_wp2_with (fail)
     clear F L X W;have sc:=kc6 m;have C:=kc6 q;have M:=kc6 t;have D:=i12_01_0 w B V;refine wp_region_held_drew (S:=fun w'=>Far (fun b=>b=(w.heap.size+1)∨b=(w.heap.size+2)) (V) w') (by kernel_rfl) (Far.of (below_drew _)) (fun a2=>?_);refine takeA 0 (v:=?_) rfl ?_ ?_;rotate_left
     · (intro w O;replace C:=Far.c6z C O;go_simp;try rfl)
     (try simp only [pu]);refine takeA 1 (v:=?_) rfl ?_ ?_;rotate_left
     · (intro w O;replace M:=Far.c6z M O;go_simp;try rfl)
     (try simp only [pu]);refine callA 2 rfl fun K J=>?_;go_simp;refine J.out _ _ ?_ (fun a1=>?_);· exact (by refine Far.trans ?_ (Far.of (below_drew _));(iterate 6 (refine Far.setCell (p:=⟨(w.heap.size+1),_,none⟩) ?_ (.inl rfl) _));exact Far.refl _ _)
     clear J K;clear sc C M;generalize a:World.setCell _ ⟨(w.heap.size+1),5,none⟩ _=a6 at *;replace d:=fN6 d a;replace m:=bS6 m a;replace o:=bF6 o a;clear a;generalize a:(a6.drew)=a5 at *;replace d:=fD d a;replace m:=bD m a;replace o:=bD o a;clear a;clear D;have xc:=kc6 o;refine callA 3 rfl fun K J=>?_;go_simp;refine J.out _ _ ?_ (fun a3=>?_);· exact (by (iterate 6 (refine Far.setCell (p:=⟨(w.heap.size+2),_,none⟩) ?_ (.inr rfl) _));exact a1)
     clear J K;refine wpAnyH_done (by kernel_rfl) ?_ _;clear xc;generalize a:World.setCell _ ⟨(w.heap.size+2),5,none⟩ _=ak;replace d:=fN6 d a;replace m:=bF6 m a;replace o:=bS6 o a;clear a
     go_wp2_with (fail)
     have z:=kc6 m;have y:=kc6 o;refine bodyPost_ret (v:=.tuple #[.agg #[.slice aL n cap,.int .i64 (iq:Int),.int .i64 dq,.bool true,.int .i64 l_,.int .i64 c_],.agg #[.int .i64 5,.string (nowT ts N).s,.int .i64 0,.slice (some ⟨E.heap.size+2,0,none⟩) 2 2,.int .i64 (nowT ts N).l,.int .i64 (nowT ts N).c]]) (by clear d H m o q t I;simp [results,Tryz.results106,go_sem,z,y]) rfl ?_;exact ⟨_,_,_,_,_,_,_,_,_,_,rfl,refBelow d.out⟩
    rw [hy] at G
    first | simp only at G | simp only [andT] at G
    refine (HK g hg 1 (N+1) _ _ _ _ _ (by omega) (by omega) hd (refTok d.out H.out) hn hy).mono ?_;rintro _ E ⟨ay,my,cy,rfl,u,hm⟩;replace m:=kB m u;replace o:=kB o u;replace q:=kB q u;replace t:=kB t u;replace L:=kB L u;replace I:=kY I u;replace d:=kF d u;have af:=u.size;clear u;have aa:=zz hm;clear hm;simp only [rdV,exV];have U:Hid (Mem (NwS (Av w1.heap.size B.heap.size (B.heap.size+1)) E.heap.size) E _ _):=zz (memS_av (g:=B.heap.size) (k:=(B.heap.size+1)) aa.out (by omega) (by omega) (by omega));clear aa
    have h2:T≤2:=by omega
    clear D;go_upto_region 12 with (fail);generalize a:World.alloc E _=a8;have Q:=sizeA a;replace d:=fA d a;replace m:=bA m a;replace o:=bA o a;replace q:=bA q a;replace t:=bA t a;replace L:=bA L a;replace I:=yA I a;replace U:=yA U a;have X:=nB a (E.heap.size);clear a;generalize a:World.alloc a8 _=w8;have R:=sizeA a;replace d:=fA d a;replace m:=bA m a;replace o:=bA o a;replace q:=bA q a;replace t:=bA t a;replace L:=bA L a;replace X:=bA X a;replace I:=yA I a;replace U:=yA U a;have W:=nB a (E.heap.size+1);clear a
    have ai:w8.heap.size=E.heap.size+2:=by omega
    clear Q R;have C:=kc6 q;have pc:=kc6 X;have D:=i012_01_0_01_0 w B P E w8;go_upto_region 13 with (fail);clear C pc;generalize a:World.setCell _ ⟨B.heap.size,5,none⟩ _=w9;have aj:=sizeS6 a;replace d:=fN6 d a;replace m:=bF6 m a;replace o:=bF6 o a;replace q:=bS6 q a;replace t:=bF6 t a;replace L:=bF6 L a;replace W:=bF6 W a;replace I:=yS6 I a;replace U:=yS6 U a;clear a;clear D;have M:=kc6 t;have kc:=kc5 L;have oc:=kc6 W;have D:=i012_01_0_01_0 w B P E w9;have hZ:=i012_01_0_012 w B P E;go_upto_region 14 with (fail);clear M kc oc;generalize a:World.setCell _ ⟨(B.heap.size+1),5,none⟩ _=a4;have Q:=sizeS6 a;replace d:=fN6 d a;replace m:=bF6 m a;replace o:=bF6 o a;replace q:=bF6 q a;replace t:=bS6 t a;replace I:=yS6 I a;replace U:=yS6 U a;clear a;generalize a:World.alloc a4 _=V;have R:=sizeA a;have ab:=zz (builtS2E (A:=Av w1.heap.size B.heap.size (B.heap.size+1)) (base:=E.heap.size+2) I.out U.out a (b:=E.heap.size+2) (by omega) (by omega));replace d:=fA d a;replace m:=bA m a;replace o:=bA o a;replace q:=bA q a;replace t:=bA t a;have Y:=ab;clear ab;clear a
    have ag:V.heap.size=E.heap.size+3:=by omega
    clear Q R;clear D hZ;rw [if_pos h2] at G;cases G
    go_wp2_with (fail)
    clear F L X W;have sc:=kc6 m;have C:=kc6 q;have M:=kc6 t;have D:=i12_01_0 w B V;refine wp_region_held_drew (S:=fun w'=>Far (fun b=>b=(w.heap.size+1)∨b=(w.heap.size+2)) (V) w') (by kernel_rfl) (Far.of (below_drew _)) (fun a2=>?_);refine takeA 0 (v:=?_) rfl ?_ ?_;rotate_left
    · (intro w O;replace C:=Far.c6z C O;go_simp;try rfl)
    (try simp only [pu]);refine takeA 1 (v:=?_) rfl ?_ ?_;rotate_left
    · (intro w O;replace M:=Far.c6z M O;go_simp;try rfl)
    (try simp only [pu]);refine callA 2 rfl fun K J=>?_;go_simp;refine J.out _ _ ?_ (fun a1=>?_);· exact (by refine Far.trans ?_ (Far.of (below_drew _));(iterate 6 (refine Far.setCell (p:=⟨(w.heap.size+1),_,none⟩) ?_ (.inl rfl) _));exact Far.refl _ _)
    clear J K;clear sc C M;generalize a:World.setCell _ ⟨(w.heap.size+1),5,none⟩ _=a6 at *;have Q:=sizeS6 a;replace d:=fN6 d a;replace m:=bS6 m a;replace o:=bF6 o a;replace Y:=sS6 Y a;clear a;generalize a:(a6.drew)=a5 at *;have R:=sizeD a;replace d:=fD d a;replace m:=bD m a;replace o:=bD o a;replace Y:=sD Y a;clear a
    have b1:a5.heap.size=E.heap.size+3:=by omega
    clear Q R;clear D;have xc:=kc6 o;have D:=i12_01_0 w B a5;refine callA 3 rfl fun K J=>?_;go_simp;refine J.out _ _ ?_ (fun a3=>?_);· exact (by (iterate 6 (refine Far.setCell (p:=⟨(w.heap.size+2),_,none⟩) ?_ (.inr rfl) _));exact a1)
    clear J K;refine wpAnyH_done (by kernel_rfl) ?_ _;clear xc;generalize a:World.setCell _ ⟨(w.heap.size+2),5,none⟩ _=ak;have b3:=sizeS6 a;replace d:=fN6 d a;replace m:=bF6 m a;replace o:=bS6 o a;replace Y:=sS6 Y a;clear a;clear D
    go_wp2_with (fail)
    have z:=kc6 m;have y:=kc6 o;refine bodyPost_ret (v:=.tuple #[.agg #[.slice aL n cap,.int .i64 (k:Int),.int .i64 (Z:Int),.bool false,.int .i64 a0,.int .i64 b0],.agg #[.int .i64 5,.string (nowT ts N).s,.int .i64 0,.slice (some ⟨E.heap.size+2,0,none⟩) 2 2,.int .i64 (nowT ts N).l,.int .i64 (nowT ts N).c]]) (by clear d H m o q t I U Y;simp [results,Tryz.results106,go_sem,z,y]) rfl ?_;exact ⟨_,_,_,rfl,refBelow d.out,OwnS.nw Y.out (fun b u=>Nat.le_trans (by omega) u.1) (by omega)⟩
   have e1:((T:Int)==1)=false:=by simp;omega
   rw [if_neg ao] at G
   go_wp2_with (fail)
   clear C;generalize a:World.setCell w5 _ _=w6;have b4:=sizeS1 a;replace d:=fN1 d a;replace F:=bF1 F a;replace m:=bF1 m a;replace o:=bF1 o a;replace q:=s6_1 q a;replace t:=bF1 t a;replace L:=bF1 L a;replace I:=yS1 I a;clear a;clear D;have D:=i012_01_0_0 w B P w6
   rcases hy:readE ts g (rkN (T+1)) (N+1) Z with _ | ⟨y,k⟩ | ⟨l_,c_⟩
   · (rw [hy] at G;cases G)
   rotate_left
   ·
    rw [hy] at G
    first | simp only at G | simp only [andT] at G
    cases G;refine (HK g hg (T+1) (N+1) _ _ _ _ _ (by omega) (by omega) hd (refTok d.out H.out) hn hy).mono ?_;rintro _ E ⟨iq,dq,kq,sq,nq,aq,mq,cq,uq,vq,rfl,u⟩;replace F:=kB F u;replace m:=kB m u;replace o:=kB o u;replace q:=kB q u;replace t:=kB t u;replace L:=kB L u;replace d:=kF d u;have af:=u.size;clear u;simp only [rdV];clear D;go_upto_region 12 with (fail);generalize a:World.alloc E _=a8;have Q:=sizeA a;replace d:=fA d a;replace F:=bA F a;replace m:=bA m a;replace o:=bA o a;replace q:=bA q a;replace t:=bA t a;replace L:=bA L a;have X:=nB a (E.heap.size);clear a;generalize a:World.alloc a8 _=w8;have R:=sizeA a;replace d:=fA d a;replace F:=bA F a;replace m:=bA m a;replace o:=bA o a;replace q:=bA q a;replace t:=bA t a;replace L:=bA L a;replace X:=bA X a;have W:=nB a (E.heap.size+1);clear a
    have ai:w8.heap.size=E.heap.size+2:=by omega
    clear Q R;have C:=kc6 q;have pc:=kc6 X;have D:=i012_01_0_01_0 w B P E w8;go_upto_region 13 with (fail);clear C pc;generalize a:World.setCell _ ⟨B.heap.size,5,none⟩ _=w9;have aj:=sizeS6 a;replace d:=fN6 d a;replace F:=bF6 F a;replace m:=bF6 m a;replace o:=bF6 o a;replace q:=bS6 q a;replace t:=bF6 t a;replace L:=bF6 L a;replace W:=bF6 W a;clear a;clear D;have M:=kc6 t;have kc:=kc5 L;have oc:=kc6 W;have D:=i012_01_0_01_0 w B P E w9;have hZ:=i012_01_0_012 w B P E;go_upto_region 14 with (fail);clear M kc oc;generalize a:World.setCell _ ⟨(B.heap.size+1),5,none⟩ _=a4;have Q:=sizeS6 a;replace d:=fN6 d a;replace F:=bF6 F a;replace m:=bF6 m a;replace o:=bF6 o a;replace q:=bF6 q a;replace t:=bS6 t a;clear a;generalize a:World.alloc a4 _=V;have R:=sizeA a;replace d:=fA d a;replace F:=bA F a;replace m:=bA m a;replace o:=bA o a;replace q:=bA q a;replace t:=bA t a;clear a
    have ag:V.heap.size=E.heap.size+3:=by omega
    clear Q R;clear D hZ;have D:=i012_01_0_012_0 w B P E V
    by_cases h2:T≤2
    rotate_left
    ·
     have e2:((T:Int)≤2)=False:=by simp;omega
     go_wp2_with (fail)
     have ad:(if badQ B.heap.size V then 0 else ts.length+1 - posQ B.heap.size V)=0:=by unfold badQ;rw [q.out.cell (j:=3) rfl];rfl
     go_roundw
     case rel=>exact ⟨d,by omega,F,m,o,.inr ⟨_,_,_,_,_,_,_,_,_,_,_,_,rfl,q,t⟩⟩
     case measure=>rw [ad,an.out];omega
    have e2:((T:Int)≤2)=True:=by simp;omega
    go_wp2_with (fail)
    clear D;clear F L X W;have sc:=kc6 m;have C:=kc6 q;have M:=kc6 t;have D:=i12_01_0 w B V;refine wp_region_held_drew (S:=fun w'=>Far (fun b=>b=(w.heap.size+1)∨b=(w.heap.size+2)) (V) w') (by kernel_rfl) (Far.of (below_drew _)) (fun a2=>?_);refine takeA 0 (v:=?_) rfl ?_ ?_;rotate_left
    · (intro w O;replace C:=Far.c6z C O;go_simp;try rfl)
    (try simp only [pu]);refine takeA 1 (v:=?_) rfl ?_ ?_;rotate_left
    · (intro w O;replace M:=Far.c6z M O;go_simp;try rfl)
    (try simp only [pu]);refine callA 2 rfl fun K J=>?_;go_simp;refine J.out _ _ ?_ (fun a1=>?_);· exact (by refine Far.trans ?_ (Far.of (below_drew _));(iterate 6 (refine Far.setCell (p:=⟨(w.heap.size+1),_,none⟩) ?_ (.inl rfl) _));exact Far.refl _ _)
    clear J K;clear sc C M;generalize a:World.setCell _ ⟨(w.heap.size+1),5,none⟩ _=a6 at *;replace d:=fN6 d a;replace m:=bS6 m a;replace o:=bF6 o a;clear a;generalize a:(a6.drew)=a5 at *;replace d:=fD d a;replace m:=bD m a;replace o:=bD o a;clear a;clear D;have xc:=kc6 o;refine callA 3 rfl fun K J=>?_;go_simp;refine J.out _ _ ?_ (fun a3=>?_);· exact (by (iterate 6 (refine Far.setCell (p:=⟨(w.heap.size+2),_,none⟩) ?_ (.inr rfl) _));exact a1)
    clear J K;refine wpAnyH_done (by kernel_rfl) ?_ _;clear xc;generalize a:World.setCell _ ⟨(w.heap.size+2),5,none⟩ _=ak;replace d:=fN6 d a;replace m:=bF6 m a;replace o:=bS6 o a;clear a
    go_wp2_with (fail)
    have z:=kc6 m;have y:=kc6 o;refine bodyPost_ret (v:=.tuple #[.agg #[.slice aL n cap,.int .i64 (iq:Int),.int .i64 dq,.bool true,.int .i64 l_,.int .i64 c_],.agg #[.int .i64 5,.string (nowT ts N).s,.int .i64 0,.slice (some ⟨E.heap.size+2,0,none⟩) 2 2,.int .i64 (nowT ts N).l,.int .i64 (nowT ts N).c]]) (by clear d H m o q t I;simp [results,Tryz.results106,go_sem,z,y]) rfl ?_;exact ⟨_,_,_,_,_,_,_,_,_,_,rfl,refBelow d.out⟩
   rw [hy] at G
   first | simp only at G | simp only [andT] at G
   have b7:N+1<k∧k≤ts.length:=(by have au:=hy;rw [rkN,if_neg (by omega)] at au;exact readE_fwd g (.left (T+1)) (N+1) Z y k au)
   refine (HK g hg (T+1) (N+1) _ _ _ _ _ (by omega) (by omega) hd (refTok d.out H.out) hn hy).mono ?_;rintro _ E ⟨ay,my,cy,rfl,u,hm⟩;replace F:=kB F u;replace m:=kB m u;replace o:=kB o u;replace q:=kB q u;replace t:=kB t u;replace L:=kB L u;replace I:=kY I u;replace d:=kF d u;have af:=u.size;clear u;have aa:=zz hm;clear hm;simp only [rdV,exV];have U:Hid (Mem (NwS (Av w1.heap.size B.heap.size (B.heap.size+1)) E.heap.size) E _ _):=zz (memS_av (g:=B.heap.size) (k:=(B.heap.size+1)) aa.out (by omega) (by omega) (by omega));clear aa;clear D;go_upto_region 12 with (fail);generalize a:World.alloc E _=a8;have Q:=sizeA a;replace d:=fA d a;replace F:=bA F a;replace m:=bA m a;replace o:=bA o a;replace q:=bA q a;replace t:=bA t a;replace L:=bA L a;replace I:=yA I a;replace U:=yA U a;have X:=nB a (E.heap.size);clear a;generalize a:World.alloc a8 _=w8;have R:=sizeA a;replace d:=fA d a;replace F:=bA F a;replace m:=bA m a;replace o:=bA o a;replace q:=bA q a;replace t:=bA t a;replace L:=bA L a;replace X:=bA X a;replace I:=yA I a;replace U:=yA U a;have W:=nB a (E.heap.size+1);clear a
   have ai:w8.heap.size=E.heap.size+2:=by omega
   clear Q R;have C:=kc6 q;have pc:=kc6 X;have D:=i012_01_0_01_0 w B P E w8;go_upto_region 13 with (fail);clear C pc;generalize a:World.setCell _ ⟨B.heap.size,5,none⟩ _=w9;have aj:=sizeS6 a;replace d:=fN6 d a;replace F:=bF6 F a;replace m:=bF6 m a;replace o:=bF6 o a;replace q:=bS6 q a;replace t:=bF6 t a;replace L:=bF6 L a;replace W:=bF6 W a;replace I:=yS6 I a;replace U:=yS6 U a;clear a;clear D;have M:=kc6 t;have kc:=kc5 L;have oc:=kc6 W;have D:=i012_01_0_01_0 w B P E w9;have hZ:=i012_01_0_012 w B P E;go_upto_region 14 with (fail);clear M kc oc;generalize a:World.setCell _ ⟨(B.heap.size+1),5,none⟩ _=a4;have Q:=sizeS6 a;replace d:=fN6 d a;replace F:=bF6 F a;replace m:=bF6 m a;replace o:=bF6 o a;replace q:=bF6 q a;replace t:=bS6 t a;replace I:=yS6 I a;replace U:=yS6 U a;clear a;generalize a:World.alloc a4 _=V;have R:=sizeA a;have ab:=zz (builtS2E (A:=Av w1.heap.size B.heap.size (B.heap.size+1)) (base:=E.heap.size+2) I.out U.out a (b:=E.heap.size+2) (by omega) (by omega));replace d:=fA d a;replace F:=bA F a;replace m:=bA m a;replace o:=bA o a;replace q:=bA q a;replace t:=bA t a;have Y:=ab;clear ab;clear a
   have ag:V.heap.size=E.heap.size+3:=by omega
   clear Q R;clear D hZ;have D:=i012_01_0_01_0 w B P E V
   by_cases h2:T≤2
   rotate_left
   ·
    have e2:((T:Int)≤2)=False:=by simp;omega
    rw [if_neg h2] at G
    go_wp2_with (fail)
    have ad:(if badQ B.heap.size V then 0 else ts.length+1 - posQ B.heap.size V)=ts.length+1 - k:=by unfold badQ posQ;rw [q.out.cell (j:=1) rfl,q.out.cell (j:=3) rfl];simp
    cases g with
    | zero=>rw [readE] at G;cases G
    | succ g=>
     rw [left_more (by omega)] at G
     go_roundw
     case rel=>exact ⟨d,by omega,F,m,o,.inl ⟨_,k,g,_,_,_,G,by omega,q,t,zz (OwnS.same Y.out fun b u=>⟨by omega,by omega,by omega⟩)⟩⟩
     case measure=>rw [ad,an.out];omega
   have e2:((T:Int)≤2)=True:=by simp;omega
   rw [if_pos h2] at G;cases G
   go_wp2_with (fail)
   clear D;clear F L X W;have sc:=kc6 m;have C:=kc6 q;have M:=kc6 t;have D:=i12_01_0 w B V;refine wp_region_held_drew (S:=fun w'=>Far (fun b=>b=(w.heap.size+1)∨b=(w.heap.size+2)) (V) w') (by kernel_rfl) (Far.of (below_drew _)) (fun a2=>?_);refine takeA 0 (v:=?_) rfl ?_ ?_;rotate_left
   · (intro w O;replace C:=Far.c6z C O;go_simp;try rfl)
   (try simp only [pu]);refine takeA 1 (v:=?_) rfl ?_ ?_;rotate_left
   · (intro w O;replace M:=Far.c6z M O;go_simp;try rfl)
   (try simp only [pu]);refine callA 2 rfl fun K J=>?_;go_simp;refine J.out _ _ ?_ (fun a1=>?_);· exact (by refine Far.trans ?_ (Far.of (below_drew _));(iterate 6 (refine Far.setCell (p:=⟨(w.heap.size+1),_,none⟩) ?_ (.inl rfl) _));exact Far.refl _ _)
   clear J K;clear sc C M;generalize a:World.setCell _ ⟨(w.heap.size+1),5,none⟩ _=a6 at *;have Q:=sizeS6 a;replace d:=fN6 d a;replace m:=bS6 m a;replace o:=bF6 o a;replace Y:=sS6 Y a;clear a;generalize a:(a6.drew)=a5 at *;have R:=sizeD a;replace d:=fD d a;replace m:=bD m a;replace o:=bD o a;replace Y:=sD Y a;clear a
   have b1:a5.heap.size=E.heap.size+3:=by omega
   clear Q R;clear D;have xc:=kc6 o;have D:=i12_01_0 w B a5;refine callA 3 rfl fun K J=>?_;go_simp;refine J.out _ _ ?_ (fun a3=>?_);· exact (by (iterate 6 (refine Far.setCell (p:=⟨(w.heap.size+2),_,none⟩) ?_ (.inr rfl) _));exact a1)
   clear J K;refine wpAnyH_done (by kernel_rfl) ?_ _;clear xc;generalize a:World.setCell _ ⟨(w.heap.size+2),5,none⟩ _=ak;have b3:=sizeS6 a;replace d:=fN6 d a;replace m:=bF6 m a;replace o:=bS6 o a;replace Y:=sS6 Y a;clear a;clear D
   go_wp2_with (fail)
   have z:=kc6 m;have y:=kc6 o;refine bodyPost_ret (v:=.tuple #[.agg #[.slice aL n cap,.int .i64 (k:Int),.int .i64 (Z:Int),.bool false,.int .i64 a0,.int .i64 b0],.agg #[.int .i64 5,.string (nowT ts N).s,.int .i64 0,.slice (some ⟨E.heap.size+2,0,none⟩) 2 2,.int .i64 (nowT ts N).l,.int .i64 (nowT ts N).c]]) (by clear d H m o q t I U Y;simp [results,Tryz.results106,go_sem,z,y]) rfl ?_;exact ⟨_,_,_,rfl,refBelow d.out,OwnS.nw Y.out (fun b u=>Nat.le_trans (by omega) u.1) (by omega)⟩
  ·
   obtain ⟨iq,dq,l_,c_,kq,sq,nq,aq,mq,cq,uq,vq,rfl,q,t⟩:=ac;have C:=kc6 q
   go_wp2_with (fail)
   clear C;refine (nowR_any _ (refTok d.out H.out)).mono ?_;rintro _ P ⟨rfl,u⟩;replace m:=kB m u;replace o:=kB o u;replace q:=kB q u;replace t:=kB t u;replace d:=kF d u;have ar:=u.size;clear u;simp only [tkV];have C:=kc6 q;have D:=i012_01_0 w B P
   go_wp2_with (fail)
   clear C;generalize a:World.alloc P _=w5;have ah:=sizeA a;replace d:=fA d a;replace m:=bA m a;replace o:=bA o a;replace q:=bA q a;replace t:=bA t a;clear a;clear D;clear F;have sc:=kc6 m;have C:=kc6 q;have M:=kc6 t;have D:=i12_01_0 w B w5;refine wp_region_held_drew (S:=fun w'=>Far (fun b=>b=(w.heap.size+1)∨b=(w.heap.size+2)) (w5) w') (by kernel_rfl) (Far.of (below_drew _)) (fun a2=>?_);refine takeA 0 (v:=?_) rfl ?_ ?_;rotate_left
   · (intro w O;replace C:=Far.c6z C O;go_simp;try rfl)
   (try simp only [pu]);refine takeA 1 (v:=?_) rfl ?_ ?_;rotate_left
   · (intro w O;replace M:=Far.c6z M O;go_simp;try rfl)
   (try simp only [pu]);refine callA 2 rfl fun K J=>?_;go_simp;refine J.out _ _ ?_ (fun a1=>?_);· exact (by refine Far.trans ?_ (Far.of (below_drew _));(iterate 6 (refine Far.setCell (p:=⟨(w.heap.size+1),_,none⟩) ?_ (.inl rfl) _));exact Far.refl _ _)
   clear J K;clear sc C M;generalize a:World.setCell _ ⟨(w.heap.size+1),5,none⟩ _=a7 at *;replace d:=fN6 d a;replace m:=bS6 m a;replace o:=bF6 o a;clear a;generalize a:(a7.drew)=w6 at *;replace d:=fD d a;replace m:=bD m a;replace o:=bD o a;clear a;clear D;have xc:=kc6 o;refine callA 3 rfl fun K J=>?_;go_simp;refine J.out _ _ ?_ (fun a3=>?_);· exact (by (iterate 6 (refine Far.setCell (p:=⟨(w.heap.size+2),_,none⟩) ?_ (.inr rfl) _));exact a1)
   clear J K;refine wpAnyH_done (by kernel_rfl) ?_ _;clear xc;generalize a:World.setCell _ ⟨(w.heap.size+2),5,none⟩ _=E;replace d:=fN6 d a;replace m:=bF6 m a;replace o:=bS6 o a;clear a
   go_wp2_with (fail)
   have z:=kc6 m;have y:=kc6 o;refine bodyPost_ret (v:=.tuple #[.agg #[.slice aL n cap,.int .i64 (iq:Int),.int .i64 dq,.bool true,.int .i64 l_,.int .i64 c_],.agg #[.int .i64 kq,.string sq,.int .i64 nq,.slice aq mq cq,.int .i64 uq,.int .i64 vq]]) (by clear d H m o q t;simp [results,Tryz.results106,go_sem,z,y]) rfl ?_;exact ⟨_,_,_,_,_,_,_,_,_,_,rfl,refBelow d.out⟩
theorem rankR_five {i o:Nat} {r:Rd1} {h m:Int} (w:World) (p:MemW w (.s 5 (tkRows ts)) (.slice aL n cap)) (A:∀ q:World,MemW q (.s 5 (tkRows ts)) (.slice aL n cap)→Calls Tryz.prog 139 #[rdV aL n cap (i:Int) (o:Int) false h m] q (AnsR aL n cap r o h m q)):
  Calls Tryz.prog 106 #[rdV aL n cap (i:Int) (o:Int) false h m,.int .i64 5] w (AnsR aL n cap r o h m w):=by
 have H:=zz p;clear p;have b:Hid (FarB w.heap.size w.heap.size w w):=zz (FarB.refl _ _ _);simp only [rdV];go_enter Tryz.func106,Tryz.ntmps106
 go_wp2_with (fail)
 generalize a:World.alloc w _=T;have G:=sizeA a;replace b:=fA b a;clear a;generalize a:World.alloc T _=U;have I:=sizeA a;replace b:=fA b a;have d:=nB a (w.heap.size+1);clear a;generalize a:World.alloc U _=S;have J:=sizeA a;replace b:=fA b a;replace d:=bA d a;have e:=nB a (w.heap.size+2);clear a
 have X:S.heap.size=w.heap.size+3:=by omega
 clear G I J
 cases r with
 | bad l_ c_=>
  refine (A _ (refTok b.out H.out)).mono ?_;rintro _ q ⟨K,F,L,P,O,B,M,D,Q,R,rfl,f⟩;replace d:=kB d f;replace e:=kB e f;replace b:=kF b f;clear f;simp only [rdV];have t:=kc6 d;have u:=kc6 e
  go_wp2_with (fail)
  clear t u;generalize a:World.setCell _ ⟨(w.heap.size+1),5,none⟩ _=W;replace b:=fN6 b a;replace d:=bS6 d a;replace e:=bF6 e a;clear a;generalize a:World.setCell _ ⟨(w.heap.size+2),5,none⟩ _=V;replace b:=fN6 b a;replace d:=bF6 d a;replace e:=bS6 e a;clear a
  go_wp2_with (fail)
  have z:=kc6 d;have y:=kc6 e;refine bodyPost_ret (v:=.tuple #[.agg #[.slice aL n cap,.int .i64 (K:Int),.int .i64 F,.bool true,.int .i64 l_,.int .i64 c_],.agg #[.int .i64 L,.string P,.int .i64 O,.slice B M D,.int .i64 Q,.int .i64 R]]) (by clear b H d e;simp [results,Tryz.results106,go_sem,z,y]) rfl ?_;exact ⟨_,_,_,_,_,_,_,_,_,_,rfl,refBelow b.out⟩
 | ok x j=>
  refine (A _ (refTok b.out H.out)).mono ?_;rintro _ q ⟨C,N,E,rfl,f,p⟩;replace d:=kB d f;replace e:=kB e f;replace b:=kF b f;clear f;have g:=zz p;clear p;simp only [rdV,exV];have t:=kc6 d;have u:=kc6 e
  go_wp2_with (fail)
  clear t u;generalize a:World.setCell _ ⟨(w.heap.size+1),5,none⟩ _=W;replace b:=fN6 b a;replace d:=bS6 d a;replace e:=bF6 e a;replace g:=mS6 g a;clear a;generalize a:World.setCell _ ⟨(w.heap.size+2),5,none⟩ _=V;replace b:=fN6 b a;replace d:=bF6 d a;replace e:=bS6 e a;replace g:=mS6 g a;clear a
  go_wp2_with (fail)
  have z:=kc6 d;have y:=kc6 e;refine bodyPost_ret (v:=.tuple #[.agg #[.slice aL n cap,.int .i64 (j:Int),.int .i64 (o:Int),.bool false,.int .i64 h,.int .i64 m],.agg #[.int .i64 x.kind,.string x.name,.int .i64 x.n,.slice C N E,.int .i64 x.line,.int .i64 x.col]]) (by clear b H d e g;simp [results,Tryz.results106,go_sem,z,y]) rfl ?_;exact ⟨_,_,_,rfl,refBelow b.out,memNw g.out (by omega)⟩
theorem rank_reads (f:Nat) (HK:∀ g,g≤f→ReadsK ts aL n cap g) (HA:∀ (i deep:Nat) (r:Rd1) (a0 b0:Int) (w:World),deep≤40→MemW w (.s 5 (tkRows ts)) (.slice aL n cap)→n≤1048576→(andT (readE ts f .atom i deep) fun x j=>readE ts f (.apps [x]) j deep)=some r→Calls Tryz.prog 139 #[rdV aL n cap (i:Int) (deep:Int) false a0 b0] w (AnsR aL n cap r deep a0 b0 w)):ReadsK ts aL n cap (f+1):=by
  intro rank i deep r a0 b0 w h1 h5 hd hm hn hr;unfold rkN at hr
  by_cases e1:rank=1
  · rw [if_pos e1] at hr
    subst e1;rw [or_more] at hr;exact rankR_go (Nat.le_refl _) (by omega) ⟨f,Nat.le_refl _,hr⟩ w hd hm hn HK
  · rw [if_neg e1,readE] at hr
    by_cases e5:4<rank
    · obtain rfl:rank=5:=by omega
      rw [if_pos (by omega)] at hr
      exact rankR_five w hm fun w2 h2=>HA i deep r a0 b0 w2 hd h2 hn hr
    · rw [if_neg e5] at hr
      cases f with
      | zero=>simp [readE,andT] at hr
      | succ f =>
        have e:(fun x j=>readE ts (f+1) (.more rank x) j deep)=fun x j=>moreR ts f rank x j deep:=by
          funext x j
          exact left_more (by omega)
        rw [e] at hr;exact rankR_go h1 (by omega) ⟨f,by omega,hr⟩ w hd hm hn HK
end
end
section
open Go.RowKit
section
variable {ts:List Tk} {aL:Option Addr} {n cap:Nat}
attribute [local go_sem] tk_pos tk_text tk_kind0
def bad4 (q:Nat) (w:World):Bool:=
 match w.cell? ⟨q,3,none⟩ with
 | some (.bool b)=>b
 | _=>false
theorem appR_reads {f i Q:Nat} {r:Rd1} {a0 b0:Int} (w:World) (hd:Q≤40) (X:MemW w (.s 5 (tkRows ts)) (.slice aL n cap)) (hn:n≤1048576) (I:(andT (readE ts f .atom i Q) fun x j=>readE ts f (.apps [x]) j Q)=some r) (HT:∀ g,g≤f→ReadsR ts aL n cap 148 .atom g):
  Calls Tryz.prog 139 #[rdV aL n cap (i:Int) (Q:Int) false a0 b0] w (AnsR aL n cap r Q a0 b0 w):=by
 have H:=zz X;clear X;have d:Hid (FarB w.heap.size w.heap.size w w):=zz (FarB.refl _ _ _);simp only [rdV];go_enter Tryz.func139,Tryz.ntmps139
 go_wp2_with (fail)
 generalize a:World.alloc w _=bb;have U:=sizeA a;replace d:=fA d a;have C:=nB a (w.heap.size);clear a;generalize a:World.alloc bb _=bc;have V:=sizeA a;replace d:=fA d a;replace C:=bA C a;have m:=nB a (w.heap.size+1);clear a;generalize a:World.alloc bc _=w1;have a9:=sizeA a;replace d:=fA d a;replace C:=bA C a;replace m:=bA m a;have o:=nB a (w.heap.size+2);clear a
 have bj:w1.heap.size=w.heap.size+3:=by omega
 clear U V a9
 rcases hx:readE ts f .atom i Q with _ | ⟨x,j⟩ | ⟨l_,c_⟩
 · (rw [hx] at I;cases I)
 rotate_left
 ·
  rw [hx] at I
  first | simp only at I | simp only [andT] at I
  cases I;refine (HT f (Nat.le_refl _) i _ _ _ _ _ hd (refTok d.out H.out) hn hx).mono ?_;rintro _ u ⟨iq,dq,kq,sq,nq,aq,mq,cq,uq,vq,rfl,q⟩;replace m:=kB m q;replace o:=kB o q;replace d:=kF d q;have b4:=q.size;clear q;simp only [rdV]
  go_wp2_with (fail)
  generalize a:World.alloc u _=ak;have U:=sizeA a;replace d:=fA d a;replace m:=bA m a;replace o:=bA o a;have a3:=nB a (u.heap.size);clear a;generalize a:World.alloc ak _=al;have V:=sizeA a;replace d:=fA d a;replace m:=bA m a;replace o:=bA o a;replace a3:=bA a3 a;have aa:=nB a (u.heap.size+1);clear a;generalize a:World.alloc al _=w3;have a9:=sizeA a;replace d:=fA d a;replace m:=bA m a;replace o:=bA o a;replace a3:=bA a3 a;replace aa:=bA aa a;clear a
  have b8:w3.heap.size=u.heap.size+3:=by omega
  clear U V a9
  go_loopw [6] (fun v wr=>v=.slice (some ⟨(u.heap.size+2),0,none⟩) 1 1∧w3=wr) (fun _ _=>0)
  case atStart=>exact ⟨rfl,rfl⟩
  case round=>
   obtain ⟨hv,hw⟩:=hrel;subst hv;subst hw;have tc:=kc6 a3
   go_wp2_with (fail)
   clear tc;clear C;have sc:=kc6 m;have tc:=kc6 a3;have ec:=kc6 aa;refine wp_region_held_drew (S:=fun w'=>Far (fun b=>b=(w.heap.size+1)∨b=(w.heap.size+2)) (w3) w') (by kernel_rfl) (Far.of (below_drew _)) (fun af=>?_);refine takeA 0 (v:=?_) rfl ?_ ?_;rotate_left
   · (intro w G;replace tc:=Far.c6z tc G;go_simp;try rfl)
   (try simp only [pu]);refine takeA 1 (v:=?_) rfl ?_ ?_;rotate_left
   · (intro w G;replace ec:=Far.c6z ec G;go_simp;try rfl)
   (try simp only [pu]);refine callA 2 rfl fun K L=>?_;go_simp;refine L.out _ _ ?_ (fun a5=>?_);· exact (by refine Far.trans ?_ (Far.of (below_drew _));(iterate 6 (refine Far.setCell (p:=⟨(w.heap.size+1),_,none⟩) ?_ (.inl rfl) _));exact Far.refl _ _)
   clear L K;clear sc tc ec;generalize a:World.setCell _ ⟨(w.heap.size+1),5,none⟩ _=am at *;replace d:=fN6 d a;replace m:=bS6 m a;replace o:=bF6 o a;clear a;generalize a:(am.drew)=w4 at *;replace d:=fD d a;replace m:=bD m a;replace o:=bD o a;clear a;have xc:=kc6 o;refine callA 3 rfl fun K L=>?_;go_simp;refine L.out _ _ ?_ (fun ag=>?_);· exact (by (iterate 6 (refine Far.setCell (p:=⟨(w.heap.size+2),_,none⟩) ?_ (.inr rfl) _));exact a5)
   clear L K;refine wpAnyH_done (by kernel_rfl) ?_ _;clear xc;generalize a:World.setCell _ ⟨(w.heap.size+2),5,none⟩ _=w5;replace d:=fN6 d a;replace m:=bF6 m a;replace o:=bS6 o a;clear a
   go_wp2_with (fail)
   have z:=kc6 m;have y:=kc6 o;refine bodyPost_ret (v:=.tuple #[.agg #[.slice aL n cap,.int .i64 (iq:Int),.int .i64 dq,.bool true,.int .i64 l_,.int .i64 c_],.agg #[.int .i64 kq,.string sq,.int .i64 nq,.slice aq mq cq,.int .i64 uq,.int .i64 vq]]) (by clear d H m o a3 aa;simp [results,Tryz.results139,go_sem,z,y]) rfl ?_;exact ⟨_,_,_,_,_,_,_,_,_,_,rfl,refBelow d.out⟩
 rw [hx] at I
 first | simp only at I | simp only [andT] at I
 refine (HT f (Nat.le_refl _) i _ _ _ _ _ hd (refTok d.out H.out) hn hx).mono ?_;rintro _ u ⟨ax,mx,cx,rfl,q,X⟩;replace C:=kB C q;replace m:=kB m q;replace o:=kB o q;replace d:=kF d q;have b4:=q.size;clear q;have ac:=zz X;clear X;simp only [rdV,exV];have b1:i<j∧j≤ts.length:=readE_fwd f .atom i Q x j hx
 go_wp2_with (fail)
 have B:Hid (Mem (NwS (Bt w1.heap.size u.heap.size) u.heap.size) u _ _):=zz (memS_bt ac.out (by omega));have a6:Hid (Mem (NwS (Av w1.heap.size u.heap.size (u.heap.size+1)) u.heap.size) u _ _):=zz (memS_av (g:=u.heap.size) (k:=(u.heap.size+1)) ac.out (by omega) (by omega) (by omega));clear ac;generalize a:World.alloc u _=ak;have U:=sizeA a;replace d:=fA d a;replace C:=bA C a;replace m:=bA m a;replace o:=bA o a;replace B:=yA B a;replace a6:=yA a6 a;have t:=nB a (u.heap.size);clear a;generalize a:World.alloc ak _=al;have V:=sizeA a;replace d:=fA d a;replace C:=bA C a;replace m:=bA m a;replace o:=bA o a;replace t:=bA t a;replace B:=yA B a;replace a6:=yA a6 a;have E:=nB a (u.heap.size+1);clear a;generalize a:World.alloc al _=w3;have a9:=sizeA a;have ap:=zz (builtS1E (A:=Av w1.heap.size u.heap.size (u.heap.size+1)) (base:=(u.heap.size+2)) a6.out a (b:=u.heap.size+2) (by omega) (by omega));replace d:=fA d a;replace C:=bA C a;replace m:=bA m a;replace o:=bA o a;replace t:=bA t a;replace E:=bA E a;replace B:=yA B a;have D:=ap;clear ap;clear a
 have b8:w3.heap.size=u.heap.size+3:=by omega
 clear U V a9;clear a6
 go_loopw [6] (fun v wr=>Hid (FarB w.heap.size w.heap.size w wr)∧(u.heap.size+2)+1≤wr.heap.size∧Hid (Bo wr w.heap.size 67 #[.slice aL n cap,.int .i64 (i:Int),.int .i64 (Q:Int),.bool false,.int .i64 a0,.int .i64 b0])∧Hid (Bo wr (w.heap.size+1) 67 #[.slice none 0 0,.int .i64 0,.int .i64 0,.bool false,.int .i64 0,.int .i64 0])∧Hid (Bo wr (w.heap.size+2) 60 #[.int .i64 0,.string ⟨#[]⟩,.int .i64 0,.slice none 0 0,.int .i64 0,.int .i64 0])∧Hid (Bo wr (u.heap.size+1) 60 #[.int .i64 x.kind,.string x.name,.int .i64 x.n,.slice ax mx cx,.int .i64 x.line,.int .i64 x.col])∧Hid (Mem (NwS (Bt w1.heap.size u.heap.size) wr.heap.size) wr (.s 6 (Ex.rows x.args)) (.slice ax mx cx))∧((∃ (l:List Ex) (O g:Nat),readE ts g (.apps l) O Q=some r∧g≤f∧Hid (Bo wr u.heap.size 67 #[.slice aL n cap,.int .i64 (O:Int),.int .i64 (Q:Int),.bool false,.int .i64 a0,.int .i64 b0])∧Hid (OwnS (Av w1.heap.size u.heap.size (u.heap.size+1)) (u.heap.size+2) 60 6 wr v (Ex.rows l))∧l[0]?=some x∧l.length≤O∧O≤ts.length)∨(∃ (iq:Nat) (dq l_ c_:Int) (av:Option Addr) (mv cv:Nat),r=.bad l_ c_∧v=.slice av mv cv∧2≤mv∧Hid (Bo wr u.heap.size 67 #[.slice aL n cap,.int .i64 (iq:Int),.int .i64 dq,.bool true,.int .i64 l_,.int .i64 c_])))) (fun v wr=>if bad4 u.heap.size wr then 0 else ts.length+2 - lenV v)
 case atStart=>exact ⟨d,by omega,C,m,o,E,B,.inl ⟨[x],j,f,I,Nat.le_refl _,t,D,rfl,by simp only [List.length_cons,List.length_nil];omega,b1.2⟩⟩
 case round=>
  clear d C m o t E B D I;obtain ⟨d,bl,C,m,o,E,B,a7⟩:=hrel
  rcases a7 with a7 | a7
  ·
   obtain ⟨l,O,g,I,hg,t,D,ab,bd,be⟩:=a7
   have bk:l.length≤1048576:=by have h1:=H.out.len.1;rw [tkRows_len] at h1;omega
   have bf:0<l.length:=by cases l with | nil=>cases ab | cons _ _=>exact Nat.succ_pos _
   obtain ⟨a1,W,c1,rfl,ah,bg,b2⟩:=D.out.form;rw [Ex.rows_len] at ah;have R:=zz ah;clear ah b2
   have aw:(if bad4 u.heap.size wr then 0 else ts.length+2 - lenV (.slice a1 W c1))=ts.length+2 - W:=by unfold bad4;rw [t.out.cell (j:=3) rfl];simp [lenV]
   have ar:=zz aw;clear aw;have F:=kc6 t
   go_wp2_with (fail)
   clear F;refine (nowR_any _ (refTok d.out H.out)).mono ?_;rintro _ w4 ⟨rfl,q⟩;replace C:=kB C q;replace m:=kB m q;replace o:=kB o q;replace t:=kB t q;replace E:=kB E q;replace B:=kY B q;replace D:=kS D q;replace d:=kF d q;have bi:=q.size;clear q;simp only [tkV]
   go_wp2_with (fail)
   cases hst:startsE (nowT ts O) with
   | false=>
    refine (rstarts_any (nowT ts O) _).mono ?_;rintro _ w5 ⟨rfl,q⟩;replace m:=kB m q;replace o:=kB o q;replace t:=kB t q;replace E:=kB E q;replace B:=kY B q;replace D:=kS D q;replace d:=kF d q;have b5:=q.size;clear q;rw [hst]
    cases g with
    | zero=>rw [readE] at I;cases I
    | succ g=>
     rw [readE] at I;simp only [hst,Bool.false_eq_true,if_false] at I;cases I
     by_cases h1:l.length=1
     ·
      obtain rfl:W=1:=by have :=R.out;omega
      have HZ:Hid (appE l=x):=zz (by match l,h1,ab with | [e],_,h=>simpa [appE] using h)
      go_wp2_with (fail)
      clear C;have sc:=kc6 m;have F:=kc6 t;have J:=kc6 E;have T:=i12_01_0 w u w5;refine wp_region_held_drew (S:=fun w'=>Far (fun b=>b=(w.heap.size+1)∨b=(w.heap.size+2)) (w5) w') (by kernel_rfl) (Far.of (below_drew _)) (fun af=>?_);refine takeA 0 (v:=?_) rfl ?_ ?_;rotate_left
      · (intro w G;replace F:=Far.c6z F G;go_simp;try rfl)
      (try simp only [pu]);refine takeA 1 (v:=?_) rfl ?_ ?_;rotate_left
      · (intro w G;replace J:=Far.c6z J G;go_simp;try rfl)
      (try simp only [pu]);refine callA 2 rfl fun K L=>?_;go_simp;refine L.out _ _ ?_ (fun a5=>?_);· exact (by refine Far.trans ?_ (Far.of (below_drew _));(iterate 6 (refine Far.setCell (p:=⟨(w.heap.size+1),_,none⟩) ?_ (.inl rfl) _));exact Far.refl _ _)
      clear L K;clear sc F J;generalize a:World.setCell _ ⟨(w.heap.size+1),5,none⟩ _=an at *;replace d:=fN6 d a;replace m:=bS6 m a;replace o:=bF6 o a;replace B:=yS6 B a;clear a;generalize a:(an.drew)=P at *;replace d:=fD d a;replace m:=bD m a;replace o:=bD o a;replace B:=yD B a;clear a;clear T;have xc:=kc6 o;refine callA 3 rfl fun K L=>?_;go_simp;refine L.out _ _ ?_ (fun ag=>?_);· exact (by (iterate 6 (refine Far.setCell (p:=⟨(w.heap.size+2),_,none⟩) ?_ (.inr rfl) _));exact a5)
      clear L K;refine wpAnyH_done (by kernel_rfl) ?_ _;clear xc;generalize a:World.setCell _ ⟨(w.heap.size+2),5,none⟩ _=w7;replace d:=fN6 d a;replace m:=bF6 m a;replace o:=bS6 o a;replace B:=yS6 B a;clear a
      go_wp2_with (fail)
      have z:=kc6 m;have y:=kc6 o;refine bodyPost_ret (v:=.tuple #[.agg #[.slice aL n cap,.int .i64 (O:Int),.int .i64 (Q:Int),.bool false,.int .i64 a0,.int .i64 b0],.agg #[.int .i64 x.kind,.string x.name,.int .i64 x.n,.slice ax mx cx,.int .i64 x.line,.int .i64 x.col]]) (by clear d H m o t E B D;simp [results,Tryz.results139,go_sem,z,y]) rfl ?_;rw [HZ.out];exact ⟨_,_,_,rfl,refBelow d.out,(bt_nw (base:=w.heap.size) B.out (by omega))⟩
     have b3:((W:Int)==1)=false:=by have :=R.out;simp;omega
     have HZ:Hid (appE l=.mk 4 .empty 0 l x.line x.col):=zz (by match l,h1,ab with | e::e2::es,_,h=>(have h2:e=x:=by simpa using h);rw [←h2];rfl)
     go_wp2_with (fail)
     clear C;have sc:=kc6 m;have F:=kc6 t;have J:=kc6 E;have T:=i12_01_0 w u w5;refine wp_region_held_drew (S:=fun w'=>Far (fun b=>b=(w.heap.size+1)∨b=(w.heap.size+2)) (w5) w') (by kernel_rfl) (Far.of (below_drew _)) (fun af=>?_);refine takeA 0 (v:=?_) rfl ?_ ?_;rotate_left
     · (intro w G;replace F:=Far.c6z F G;replace J:=Far.c6z J G;go_simp;try rfl)
     (try simp only [pu]);refine takeA 1 (v:=?_) rfl ?_ ?_;rotate_left
     · (intro w G;replace F:=Far.c6z F G;replace J:=Far.c6z J G;go_simp;try rfl)
     (try simp only [pu]);refine takeA 2 (v:=?_) rfl ?_ ?_;rotate_left
     · (intro w G;replace F:=Far.c6z F G;replace J:=Far.c6z J G;go_simp;try rfl)
     (try simp only [pu]);refine takeA 3 (v:=?_) rfl ?_ ?_;rotate_left
     · (intro w G;replace F:=Far.c6z F G;replace J:=Far.c6z J G;go_simp;try rfl)
     (try simp only [pu]);refine takeA 4 (v:=?_) rfl ?_ ?_;rotate_left
     · (intro w G;replace F:=Far.c6z F G;replace J:=Far.c6z J G;go_simp;try rfl)
     (try simp only [pu]);refine callA 5 rfl fun K L=>?_;go_simp;refine L.out _ _ ?_ (fun a5=>?_);· exact (by refine Far.trans ?_ (Far.of (below_drew _));(iterate 6 (refine Far.setCell (p:=⟨(w.heap.size+1),_,none⟩) ?_ (.inl rfl) _));exact Far.refl _ _)
     clear L K;clear sc F J;generalize a:World.setCell _ ⟨(w.heap.size+1),5,none⟩ _=an at *;replace d:=fN6 d a;replace m:=bS6 m a;replace o:=bF6 o a;replace D:=sS6 D a;clear a;generalize a:(an.drew)=P at *;replace d:=fD d a;replace m:=bD m a;replace o:=bD o a;replace D:=sD D a;clear a;clear T;have xc:=kc6 o;refine callA 6 rfl fun K L=>?_;go_simp;refine L.out _ _ ?_ (fun ag=>?_);· exact (by (iterate 6 (refine Far.setCell (p:=⟨(w.heap.size+2),_,none⟩) ?_ (.inr rfl) _));exact a5)
     clear L K;refine wpAnyH_done (by kernel_rfl) ?_ _;clear xc;generalize a:World.setCell _ ⟨(w.heap.size+2),5,none⟩ _=w7;replace d:=fN6 d a;replace m:=bF6 m a;replace o:=bS6 o a;replace D:=sS6 D a;clear a
     go_wp2_with (fail)
     have z:=kc6 m;have y:=kc6 o;refine bodyPost_ret (v:=.tuple #[.agg #[.slice aL n cap,.int .i64 (O:Int),.int .i64 (Q:Int),.bool false,.int .i64 a0,.int .i64 b0],.agg #[.int .i64 4,.string ⟨#[]⟩,.int .i64 0,.slice a1 W c1,.int .i64 x.line,.int .i64 x.col]]) (by clear d H m o t E B D;simp [results,Tryz.results139,go_sem,z,y]) rfl ?_;rw [HZ.out];exact ⟨_,_,_,rfl,refBelow d.out,(OwnS.nw (base0:=w.heap.size) D.out (fun b q=>Nat.le_trans (by omega) q.1) (by omega))⟩
   | true=>
    refine (rstarts_any (nowT ts O) _).mono ?_;rintro _ w5 ⟨rfl,q⟩;replace C:=kB C q;replace m:=kB m q;replace o:=kB o q;replace t:=kB t q;replace E:=kB E q;replace B:=kY B q;replace D:=kS D q;replace d:=kF d q;have b5:=q.size;clear q;rw [hst]
    cases g with
    | zero=>rw [readE] at I;cases I
    | succ g=>
     rw [readE] at I;simp only [hst,if_true] at I;have F:=kc6 t
     go_wp2_with (fail)
     rcases hy:readE ts g .atom O Q with _ | ⟨y,k⟩ | ⟨l_,c_⟩
     · (rw [hy] at I;cases I)
     rotate_left
     ·
      rw [hy] at I
      first | simp only at I | simp only [andT] at I
      cases I;have ae:=D;clear F;refine (HT g (by omega) O _ _ _ _ _ hd (refTok d.out H.out) hn hy).mono ?_;rintro _ P ⟨iq,dq,kq,sq,nq,aq,mq,cq,uq,vq,rfl,q⟩;replace C:=kB C q;replace m:=kB m q;replace o:=kB o q;replace t:=kB t q;replace E:=kB E q;replace B:=kY B q;replace D:=kS D q;replace d:=kF d q;have b6:=q.size;clear q;simp only [rdV];go_upto_region 5 with (fail);generalize a:World.alloc P _=ao;have U:=sizeA a;replace d:=fA d a;replace C:=bA C a;replace m:=bA m a;replace o:=bA o a;replace t:=bA t a;replace E:=bA E a;replace B:=yA B a;replace D:=sA D a;have Z:=nB a (P.heap.size);clear a;generalize a:World.alloc ao _=w7;have V:=sizeA a;replace d:=fA d a;replace C:=bA C a;replace m:=bA m a;replace o:=bA o a;replace t:=bA t a;replace E:=bA E a;replace Z:=bA Z a;replace B:=yA B a;replace D:=sA D a;have Y:=nB a (P.heap.size+1);clear a
      have b9:w7.heap.size=P.heap.size+2:=by omega
      clear U V;have F:=kc6 t;have pc:=kc6 Z;have T:=i012_01_01_0 w u P w7;go_upto_region 6 with (fail);clear F pc;generalize a:World.setCell _ ⟨u.heap.size,5,none⟩ _=w8;have ba:=sizeS6 a;replace d:=fN6 d a;replace C:=bF6 C a;replace m:=bF6 m a;replace o:=bF6 o a;replace t:=bS6 t a;replace E:=bF6 E a;replace Y:=bF6 Y a;replace B:=yS6 B a;replace D:=sS6 D a;clear a;clear T;have oc:=kc6 Y;have T:=i012_01_01_0 w u P w8
      go_wp2_with (first | (at_builtin;refine wpList_append_S (y:=.slice a1 W c1) (new:=[rawRow kq sq nq aq mq cq uq vq]) rfl _ _ rfl Tryz.underlying58 info_ex rfl (by decide) rfl rfl (D.out.alloc _) (by simp) (rawRowS ae.out kq sq nq aq mq cq uq vq ⟨by omega,by omega,by omega⟩ (by omega) (by omega)) (by have :=R.out;simp only [Ex.rows_len,List.length_cons,List.length_nil];omega) (by have :=R.out;simp only [Ex.rows_len,List.length_cons,List.length_nil];omega) (by rw [World.size_alloc];omega) ?_;intro v9 w9 ho a8;have ad:=zz ho;clear ho;have M:=zz a8;clear a8))
      have N:∀ k,(Value.slice a1 W c1).ownBlock=some k→(u.heap.size+2)≤k:=fun k hk=>(D.out.lt k hk).1
      clear oc
      have b7:w8.heap.size+1≤w9.heap.size:=by have h:=M.out.size;rw [World.size_alloc] at h;exact h
      replace d:=gFx d M.out N
      replace B:=zz (memS_grown (memS_alloc B.out (.cells #[.int .i64 kq,.string sq,.int .i64 nq,.slice aq mq cq,.int .i64 uq,.int .i64 vq] 60)) M.out fun k hk=>by have :=N k hk;unfold Bt;omega)
      replace C:=gOx C M.out N;replace m:=gOx m M.out N;replace o:=gOx o M.out N;replace t:=gOx t M.out N;replace E:=gOx E M.out N;obtain ⟨a2,m2,c2,rfl,ai,_,_⟩:=ad.out.form;simp only [List.length_append,Ex.rows_len,List.length_cons,List.length_nil] at ai
      have aj:(if bad4 u.heap.size w9 then 0 else ts.length+2 - lenV (.slice a2 m2 c2))=0:=by unfold bad4;rw [t.out.cell (j:=3) rfl];rfl
      go_roundw
      case rel=>exact ⟨d,by omega,C,m,o,E,B,.inr ⟨_,_,_,_,_,_,_,rfl,rfl,by have :=R.out;omega,t⟩⟩
      case measure=>rw [aj,ar.out];have :=R.out;omega
     rw [hy] at I
     first | simp only at I | simp only [andT] at I
     have ae:=D;clear F;refine (HT g (by omega) O _ _ _ _ _ hd (refTok d.out H.out) hn hy).mono ?_;rintro _ P ⟨ay,my,cy,rfl,q,X⟩;replace C:=kB C q;replace m:=kB m q;replace o:=kB o q;replace t:=kB t q;replace E:=kB E q;replace B:=kY B q;replace D:=kS D q;replace d:=kF d q;have b6:=q.size;clear q;have a4:=zz X;clear X;simp only [rdV,exV];have az:O<k∧k≤ts.length:=readE_fwd g .atom O Q y k hy;go_upto_region 5 with (fail);generalize a:World.alloc P _=ao;have U:=sizeA a;replace d:=fA d a;replace C:=bA C a;replace m:=bA m a;replace o:=bA o a;replace t:=bA t a;replace E:=bA E a;replace a4:=mA a4 a;replace B:=yA B a;replace D:=sA D a;have Z:=nB a (P.heap.size);clear a;generalize a:World.alloc ao _=w7;have V:=sizeA a;replace d:=fA d a;replace C:=bA C a;replace m:=bA m a;replace o:=bA o a;replace t:=bA t a;replace E:=bA E a;replace Z:=bA Z a;replace a4:=mA a4 a;replace B:=yA B a;replace D:=sA D a;have Y:=nB a (P.heap.size+1);clear a
     have b9:w7.heap.size=P.heap.size+2:=by omega
     clear U V;have F:=kc6 t;have pc:=kc6 Z;have T:=i012_01_01_0 w u P w7;go_upto_region 6 with (fail);clear F pc;generalize a:World.setCell _ ⟨u.heap.size,5,none⟩ _=w8;have ba:=sizeS6 a;replace d:=fN6 d a;replace C:=bF6 C a;replace m:=bF6 m a;replace o:=bF6 o a;replace t:=bS6 t a;replace E:=bF6 E a;replace Y:=bF6 Y a;replace a4:=mS6 a4 a;replace B:=yS6 B a;replace D:=sS6 D a;clear a;clear T;have oc:=kc6 Y;have T:=i012_01_01_0 w u P w8
     go_wp2_with (first | (at_builtin;refine wpList_append_S (y:=.slice a1 W c1) (new:=Ex.rows [y]) rfl _ _ rfl Tryz.underlying58 info_ex rfl (by decide) rfl rfl (D.out.alloc _) (by simp [Ex.rows_eq]) (newRowS ae.out (fun b h1 h2=>⟨by omega,by omega,by omega⟩) (by omega) (memNw a4.out (by omega)) (by omega)) (by have :=R.out;simp only [Ex.rows_len,List.length_cons,List.length_nil];omega) (by have :=R.out;simp only [Ex.rows_len,List.length_cons,List.length_nil];omega) (by rw [World.size_alloc];omega) ?_;intro v9 w9 ho a8;have ad:=zz ho;clear ho;have M:=zz a8;clear a8))
     have N:∀ k,(Value.slice a1 W c1).ownBlock=some k→(u.heap.size+2)≤k:=fun k hk=>(D.out.lt k hk).1
     clear oc
     have b7:w8.heap.size+1≤w9.heap.size:=by have h:=M.out.size;rw [World.size_alloc] at h;exact h
     replace d:=gFx d M.out N
     replace B:=zz (memS_grown (memS_alloc B.out (.cells #[.int .i64 y.kind,.string y.name,.int .i64 y.n,.slice ay my cy,.int .i64 y.line,.int .i64 y.col] 60)) M.out fun k hk=>by have :=N k hk;unfold Bt;omega)
     replace C:=gOx C M.out N;replace m:=gOx m M.out N;replace o:=gOx o M.out N;replace t:=gOx t M.out N;replace E:=gOx E M.out N;have au:Hid (OwnS (Av w1.heap.size u.heap.size (u.heap.size+1)) (u.heap.size+2) 60 6 w9 v9 (Ex.rows (l++[y]))):=zz (by rw [Ex.rows_app];exact ad.out);obtain ⟨a2,m2,c2,rfl,ai,_,_⟩:=au.out.form;rw [Ex.rows_len,List.length_append,List.length_cons,List.length_nil] at ai
     have aj:(if bad4 u.heap.size w9 then 0 else ts.length+2 - lenV (.slice a2 m2 c2))=ts.length+2 - m2:=by unfold bad4;rw [t.out.cell (j:=3) rfl];simp [lenV]
     go_roundw
     case rel=>exact ⟨d,by omega,C,m,o,E,B,.inl ⟨l++[y],k,g,I,by omega,t,au,by rw [List.getElem?_append_left (by omega)];exact ab,by rw [List.length_append,List.length_cons,List.length_nil];omega,az.2⟩⟩
     case measure=>rw [aj,ar.out];have :=R.out;omega
  ·
   obtain ⟨iq,dq,l_,c_,av,mv,cv,rfl,rfl,bh,t⟩:=a7
   have b3:((mv:Int)==1)=false:=by simp;omega
   have F:=kc6 t
   go_wp2_with (fail)
   clear F;clear C;have sc:=kc6 m;have F:=kc6 t;have J:=kc6 E;refine wp_region_held_drew (S:=fun w'=>Far (fun b=>b=(w.heap.size+1)∨b=(w.heap.size+2)) (wr) w') (by kernel_rfl) (Far.of (below_drew _)) (fun af=>?_);refine takeA 0 (v:=?_) rfl ?_ ?_;rotate_left
   · (intro w G;replace F:=Far.c6z F G;replace J:=Far.c6z J G;go_simp;try rfl)
   (try simp only [pu]);refine takeA 1 (v:=?_) rfl ?_ ?_;rotate_left
   · (intro w G;replace F:=Far.c6z F G;replace J:=Far.c6z J G;go_simp;try rfl)
   (try simp only [pu]);refine takeA 2 (v:=?_) rfl ?_ ?_;rotate_left
   · (intro w G;replace F:=Far.c6z F G;replace J:=Far.c6z J G;go_simp;try rfl)
   (try simp only [pu]);refine takeA 3 (v:=?_) rfl ?_ ?_;rotate_left
   · (intro w G;replace F:=Far.c6z F G;replace J:=Far.c6z J G;go_simp;try rfl)
   (try simp only [pu]);refine takeA 4 (v:=?_) rfl ?_ ?_;rotate_left
   · (intro w G;replace F:=Far.c6z F G;replace J:=Far.c6z J G;go_simp;try rfl)
   (try simp only [pu]);refine callA 5 rfl fun K L=>?_;go_simp;refine L.out _ _ ?_ (fun a5=>?_);· exact (by refine Far.trans ?_ (Far.of (below_drew _));(iterate 6 (refine Far.setCell (p:=⟨(w.heap.size+1),_,none⟩) ?_ (.inl rfl) _));exact Far.refl _ _)
   clear L K;clear sc F J;generalize a:World.setCell _ ⟨(w.heap.size+1),5,none⟩ _=am at *;replace d:=fN6 d a;replace m:=bS6 m a;replace o:=bF6 o a;clear a;generalize a:(am.drew)=w4 at *;replace d:=fD d a;replace m:=bD m a;replace o:=bD o a;clear a;have xc:=kc6 o;refine callA 6 rfl fun K L=>?_;go_simp;refine L.out _ _ ?_ (fun ag=>?_);· exact (by (iterate 6 (refine Far.setCell (p:=⟨(w.heap.size+2),_,none⟩) ?_ (.inr rfl) _));exact a5)
   clear L K;refine wpAnyH_done (by kernel_rfl) ?_ _;clear xc;generalize a:World.setCell _ ⟨(w.heap.size+2),5,none⟩ _=w5;replace d:=fN6 d a;replace m:=bF6 m a;replace o:=bS6 o a;clear a
   go_wp2_with (fail)
   have z:=kc6 m;have y:=kc6 o;refine bodyPost_ret (v:=.tuple #[.agg #[.slice aL n cap,.int .i64 (iq:Int),.int .i64 dq,.bool true,.int .i64 l_,.int .i64 c_],.agg #[.int .i64 4,.string ⟨#[]⟩,.int .i64 0,.slice av mv cv,.int .i64 x.line,.int .i64 x.col]]) (by clear d H m o t E B;simp [results,Tryz.results139,go_sem,z,y]) rfl ?_;exact ⟨_,_,_,_,_,_,_,_,_,_,rfl,refBelow d.out⟩
end
end
end Go.Proofs.YtcoiagfeoonpbaaGreat
