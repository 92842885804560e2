/-
  whimbrellaw07.Alike: two copies of one module are alike. No condition but how they lie.
-/
import Derived.Test.YtcoiagfeoonpbaaGreatMp33
import Derived.Test.YtcoiagfeoonpbaaGreatMp35
import Derived.Test.YtcoiagfeoonpbaaGreatMp37
import Derived.Test.YtcoiagfeoonpbaaGreatMp31
import Derived.Test.YtcoiagfeoonpbaaGreatMp30
import Derived.Test.YtcoiagfeoonpbaaGreatMp32
set_option maxHeartbeats 20000000
set_option maxRecDepth 100000
namespace Go.Proofs.YtcoiagfeoonpbaaGreat
section
open Go.RowKit
attribute [local go_sem] toList_beq neq_toListE
theorem rd_memW {w:World} {a:Option Addr} {m c:Nat} {L:List ByteArray} (h:MemW w (.s 1 (L.map strRow)) (.slice a m c)):Rd w.heap.size w a m c 1 (strs L):=by
  obtain ⟨h1,h2,h3⟩:=h.len;rw [List.length_map] at h1
  have hl:(strs L).length=L.length:=by simp [strs]
  refine ⟨by rw [hl];omega,h2,by omega,?_⟩
  cases L with
  | nil=>exact .inl h1.symm
  | cons x L =>
    obtain ⟨b,o,ha,hS,_,_⟩:=Mem.at h 0 (by simp);refine .inr ⟨b,o,ha,hS,fun i hi=>?_⟩;rw [hl] at hi;obtain ⟨b2,o2,ha2,_,_,cs2,hm2,hc2⟩:=Mem.at h i (by rw [List.length_map];exact hi);rw [ha] at ha2;cases ha2;rw [List.getElem_map] at hm2
    cases hm2 with
    | cons hv ht =>
      cases ht;have :=hc2 0 (by simp);cases hv;rw [Nat.mul_one,Nat.add_zero] at this;exact this.trans (by simp only [strs,List.getElem_map];rfl)
theorem alike_any (ds:List Da) (rs:List Ru) (pd qr pe qs:Option Addr) (F kd G Z Y T:Nat) (w:World) (h1:MemW w (.s 5 (ds.map Da.row)) (.slice pd F kd)) (h2:MemW w (.s 11 (rs.map Ru.row)) (.slice qr G Z)) (g1:MemW w (.s 5 (ds.map Da.row)) (.slice pe F Y)) (g2:MemW w (.s 11 (rs.map Ru.row)) (.slice qs G T)):
  Calls Tryz.prog 8 #[.agg #[.slice pd F kd,.slice qr G Z],.agg #[.slice pe F Y,.slice qs G T]] w fun e' w'=>e'=.returned (.bool true)∧Below w.heap.size w w':=by
 have a:Hid (FarB w.heap.size w.heap.size w w):=zz (FarB.refl _ _ _);have H1:=zz h1;have H2:=zz h2;have G1:=zz g1;have G2:=zz g2
 have aq:ds.length=F:=by have h:=h1.len.1;rw [List.length_map] at h;exact h
 have ar:rs.length=G:=by have h:=h2.len.1;rw [List.length_map] at h;exact h
 have bg:F≤kd∧kd≤9223372036854775807:=h1.len.2;have bh:G≤T∧T≤9223372036854775807:=g2.len.2;have b2:=zz aq;have b3:=zz ar;clear h1 h2 g1 g2 aq ar;go_enter Tryz.func8,Tryz.ntmps8
 go_wp2_with (fail)
 generalize f:World.alloc w _=bf;have a7:=sizeA f;replace a:=fA a f;have m:=nB f (w.heap.size);clear f;generalize f:World.alloc bf _=w1;have ad:=sizeA f;replace a:=fA a f;replace m:=bA m f;have o:=nB f (w.heap.size+1);clear f
 have bl:w1.heap.size=w.heap.size+2:=by omega
 clear a7 ad
 go_loopw [34] (fun i wr=>∃ k:Nat,k≤F∧i=.int .i64 k∧Hid (FarB w.heap.size w.heap.size w wr)∧Hid (Bo wr w.heap.size 26 #[.slice pd F kd,.slice qr G Z])∧Hid (Bo wr (w.heap.size+1) 26 #[.slice pe F Y,.slice qs G T])∧w.heap.size+2≤wr.heap.size) (fun i _=>F - (intOf i).toNat)
 case atStart=>exact ⟨0,Nat.zero_le _,rfl,a,m,o,by omega⟩
 case round=>
  clear a m o;obtain ⟨k,hk,rfl,a,m,o,bd⟩:=hrel;have ac:=kc2 m
  by_cases b8:k<F
  ·
   have R:=b2.out;obtain ⟨bx,ox,x,a1,J,c1,a2,D,c2,E,_,N,z,A,B,C,H,P0,P1⟩:=da_at H1.out k (by omega);subst E;obtain ⟨bz,oz,x',a0,aj,a5,a4,ak,a6,E,_,O,r,t,u,y,I,Q0,Q1⟩:=da_at G1.out k (by omega);subst E;obtain rfl:x=x':=Option.some.inj (N.out.symm.trans O.out);clear O
   obtain rfl:J=aj:=by have h1:=P0.len.1;have h2:=Q0.len.1;omega
   obtain rfl:D=ak:=by have h1:=P1.len.1;have h2:=Q1.len.1;omega
   have av:x.cons.length=D:=by have h:=P1.len.1;rw [List.length_map] at h;exact h
   have bi:=P1.len.2;have b4:=zz av;have GV:=zz P0;have GC:=zz P1;have GV2:=zz Q0;have GC2:=zz Q1;clear P0 P1 Q0 Q1 R av N;replace z:=cell_below z (refBelow a.out);replace A:=cell_below A (refBelow a.out);replace B:=cell_below B (refBelow a.out);replace C:=cell_below C (refBelow a.out);replace H:=cell_below H (refBelow a.out);go_upto_region 6 with (fail);clear ac;generalize f:(wr.alloc (.cells #[.string x.name,.slice a1 J c1,.slice a2 D c2,.int .i64 x.l,.int .i64 x.c] 40))=w2 at *;have ba:=sizeA f;replace a:=fA a f;replace m:=bA m f;replace o:=bA o f;have p:=nB f (wr.heap.size);clear f;have bc:=kc2 o;have P:=kc5 p;have hZ:=i01_01 w wr;clear z A B C H;replace r:=cell_below r (refBelow a.out);replace t:=cell_below t (refBelow a.out);replace u:=cell_below u (refBelow a.out);replace y:=cell_below y (refBelow a.out);replace I:=cell_below I (refBelow a.out)
   go_wp2_with (fail)
   clear bc P;generalize f:(w2.alloc (.cells #[.string x.name,.slice a0 J a5,.slice a4 D a6,.int .i64 x.l,.int .i64 x.c] 40))=w3 at *;have bb:=sizeA f;replace a:=fA a f;replace m:=bA m f;replace o:=bA o f;replace p:=bA p f;have q:=nB f (wr.heap.size+1);clear f;clear hZ;clear r t u y I;refine (texts_any _ (rd_memW (MemW.keep GV.out (refBelow a.out))) (rd_memW (MemW.keep GV2.out (refBelow a.out))) (Nat.le_refl _) (Nat.le_refl _)).mono ?_;rintro _ w4 ⟨rfl,g⟩;replace m:=kB m g;replace o:=kB o g;replace p:=kB p g;replace q:=kB q g;replace a:=kF a g;have b9:=g.size;clear g;rw [beq_self_eq_true];have P:=kc5 p;have Q:=kc5 q
   go_wp2_with (fail)
   clear P Q;obtain ⟨D0,a8⟩:∃ d,d=wr.heap.size:=⟨_,rfl⟩;rw [←a8] at p q ⊢
   have b7:D0+2≤w4.heap.size∧w.heap.size+2≤D0:=by omega
   clear a8
   go_loopw [76] (fun i wr=>∃ j:Nat,j≤D∧i=.int .i64 j∧Hid (FarB w.heap.size w.heap.size w wr)∧Hid (Bo wr w.heap.size 26 #[.slice (some ⟨bx,ox,none⟩) F kd,.slice qr G Z])∧Hid (Bo wr (w.heap.size+1) 26 #[.slice (some ⟨bz,oz,none⟩) F Y,.slice qs G T])∧Hid (Bo wr (D0) 40 #[.string x.name,.slice a1 J c1,.slice a2 D c2,.int .i64 x.l,.int .i64 x.c])∧Hid (Bo wr (D0+1) 40 #[.string x.name,.slice a0 J a5,.slice a4 D a6,.int .i64 x.l,.int .i64 x.c])∧D0+2≤wr.heap.size) (fun i _=>D - (intOf i).toNat)
   case atStart=>exact ⟨0,Nat.zero_le _,rfl,a,m,o,p,q,by omega⟩
   case round=>
    clear a m o p q;obtain ⟨j,hj,rfl,a,m,o,p,q,az⟩:=hrel;have hI:=i01_q_q_0 w D0 (D0+1) wr
    by_cases au:j<D
    rotate_left
    ·
     go_wp2_with (fail)
     go_roundw
     case rel=>exact ⟨k+1,by omega,by go_num,a,m,o,by omega⟩
     case measure=>simp [intOf];omega
    have R:=b4.out;obtain ⟨bu,ou,v,af,nt,ct,E,_,N,z,A,B,C,P0⟩:=cn_at GC.out j (by omega);subst E;obtain ⟨bz,oz,v',an,b0,ao,E,_,O,r,t,u,y,Q0⟩:=cn_at GC2.out j (by omega);subst E;obtain rfl:v=v':=Option.some.inj (N.out.symm.trans O.out);have GT:=zz P0;have GT2:=zz Q0;clear N O P0 Q0 R;replace z:=cell_below z (refBelow a.out);replace A:=cell_below A (refBelow a.out);replace B:=cell_below B (refBelow a.out);replace C:=cell_below C (refBelow a.out);go_upto_region 12 with (fail);generalize f:(wr.alloc (.cells #[.string v.name,.slice af nt ct,.int .i64 v.l,.int .i64 v.c] 75))=w5 at *;have bm:=sizeA f;replace a:=fA a f;replace m:=bA m f;replace o:=bA o f;replace p:=bA p f;replace q:=bA q f;have b1:=nB f (wr.heap.size);clear f;clear hI;have Q:=kc5 q;have V:=kc4 b1;clear z A B C;replace r:=cell_below r (refBelow a.out);replace t:=cell_below t (refBelow a.out);replace u:=cell_below u (refBelow a.out);replace y:=cell_below y (refBelow a.out);refine wp_region_held_drew (S:=fun w'=>Far (fun _=>False) (w5) w') (by kernel_rfl) (Far.of (below_drew _)) (fun a9=>?_);refine takeA 0 (v:=?_) rfl ?_ ?_;rotate_left
    · (intro w b;go_simp;try rfl)
    (try simp only [pu]);refine takeA 1 (v:=?_) rfl ?_ ?_;rotate_left
    · (intro w b;replace V:=Far.c4z V b (fun e=>e);go_simp;try rfl)
    (try simp only [pu]);refine takeA 2 (v:=?_) rfl ?_ ?_;rotate_left
    · (intro w b;go_simp;try rfl)
    (try simp only [pu]);refine takeA 3 (v:=?_) rfl ?_ ?_;rotate_left
    · (intro w b;replace Q:=Far.c5z Q b (fun e=>e);go_simp;try rfl)
    (try simp only [pu]);refine takeA 4 (v:=?_) rfl ?_ ?_;rotate_left
    · (intro w b;go_simp;try rfl)
    (try simp only [pu]);refine takeA 5 (v:=?_) rfl ?_ ?_;rotate_left
    · (intro w b;go_simp;try rfl)
    (try simp only [pu]);refine takeA 6 (v:=?_) rfl ?_ ?_;rotate_left
    · (intro w b;go_simp;try rfl)
    (try simp only [pu]);refine takeA 7 (v:=?_) rfl ?_ ?_;rotate_left
    · (intro w b;replace r:=Far.cellZ r b (fun e=>e);replace t:=Far.cellZ t b (fun e=>e);replace u:=Far.cellZ u b (fun e=>e);replace y:=Far.cellZ y b (fun e=>e);go_simp;try rfl)
    (try simp only [pu]);refine takeA 8 (v:=?_) rfl ?_ ?_;rotate_left
    · (intro w b;go_simp;try rfl)
    (try simp only [pu]);refine takeA 9 (v:=?_) rfl ?_ ?_;rotate_left
    · (intro w b;go_simp;try rfl)
    (try simp only [pu]);refine takeA 10 (v:=?_) rfl ?_ ?_;rotate_left
    · (intro w b;go_simp;try rfl)
    (try simp only [pu]);refine takeA 11 (v:=?_) rfl ?_ ?_;rotate_left
    · (intro w b;replace V:=Far.c4z V b (fun e=>e);go_simp;try rfl)
    (try simp only [pu]);refine takeA 12 (v:=?_) rfl ?_ ?_;rotate_left
    · (intro w b;go_simp;try rfl)
    (try simp only [pu]);refine takeA 13 (v:=?_) rfl ?_ ?_;rotate_left
    · (intro w b;replace Q:=Far.c5z Q b (fun e=>e);go_simp;try rfl)
    (try simp only [pu]);refine takeA 14 (v:=?_) rfl ?_ ?_;rotate_left
    · (intro w b;go_simp;try rfl)
    (try simp only [pu]);refine takeA 15 (v:=?_) rfl ?_ ?_;rotate_left
    · (intro w b;go_simp;try rfl)
    (try simp only [pu]);refine takeA 16 (v:=?_) rfl ?_ ?_;rotate_left
    · (intro w b;go_simp;try rfl)
    (try simp only [pu]);refine takeA 17 (v:=?_) rfl ?_ ?_;rotate_left
    · (intro w b;replace r:=Far.cellZ r b (fun e=>e);replace t:=Far.cellZ t b (fun e=>e);replace u:=Far.cellZ u b (fun e=>e);replace y:=Far.cellZ y b (fun e=>e);go_simp;try rfl)
    (try simp only [pu]);refine takeA 18 (v:=?_) rfl ?_ ?_;rotate_left
    · (intro w b;go_simp;try rfl)
    (try simp only [pu]);refine takeA 19 (v:=?_) rfl ?_ ?_;rotate_left
    · (intro w b;go_simp;try rfl)
    (try simp only [pu]);refine takeA 20 (v:=?_) rfl ?_ ?_;rotate_left
    · (intro w b;go_simp;try rfl)
    (try simp only [pu]);refine takeA 21 (v:=?_) rfl ?_ ?_;rotate_left
    · (intro w b;go_simp;try rfl)
    (try simp only [pu]);refine takeA 22 (v:=?_) rfl ?_ ?_;rotate_left
    · (intro w b;replace V:=Far.c4z V b (fun e=>e);go_simp;try rfl)
    (try simp only [pu]);refine takeA 23 (v:=?_) rfl ?_ ?_;rotate_left
    · (intro w b;go_simp;try rfl)
    (try simp only [pu]);refine takeA 24 (v:=?_) rfl ?_ ?_;rotate_left
    · (intro w b;replace Q:=Far.c5z Q b (fun e=>e);go_simp;try rfl)
    (try simp only [pu]);refine takeA 25 (v:=?_) rfl ?_ ?_;rotate_left
    · (intro w b;go_simp;try rfl)
    (try simp only [pu]);refine takeA 26 (v:=?_) rfl ?_ ?_;rotate_left
    · (intro w b;go_simp;try rfl)
    (try simp only [pu]);refine takeA 27 (v:=?_) rfl ?_ ?_;rotate_left
    · (intro w b;go_simp;try rfl)
    (try simp only [pu]);refine takeA 28 (v:=?_) rfl ?_ ?_;rotate_left
    · (intro w b;replace r:=Far.cellZ r b (fun e=>e);replace t:=Far.cellZ t b (fun e=>e);replace u:=Far.cellZ u b (fun e=>e);replace y:=Far.cellZ y b (fun e=>e);go_simp;try rfl)
    (try simp only [pu]);clear r t u y;refine callA 29 rfl fun K U=>?_;go_simp;refine (sameTypes_any _ (MemW.keep (w:=w5) (MemW.keep GT.out (refBelow a.out)) (below_drew _)) (MemW.keep (w:=w5) (MemW.keep GT2.out (refBelow a.out)) (below_drew _))).mono ?_;rintro e ab ⟨rfl,g⟩;clear Q V;have aa:=g;replace g:=Below.one g;replace m:=kB m g;replace o:=kB o g;replace p:=kB p g;replace q:=kB q g;replace a:=kF a g;have ay:=g.size;clear g;rw [decide_eq_true rfl];go_simp;refine U.out _ _ ?_ (fun ap=>?_);· exact Far.trans a9 (Far.of aa)
    clear U K;refine takeA 30 (v:=?_) rfl ?_ ?_;rotate_left
    · (intro w b;go_simp;try rfl)
    (try simp only [pu]);refine takeA 31 (v:=?_) rfl ?_ ?_;rotate_left
    · (intro w b;go_simp;try rfl)
    (try simp only [pu]);refine wpAnyH_done (by kernel_rfl) ?_ _;have hI:=chain6 w.heap.size (w.heap.size+1) D0 (D0+1) wr.heap.size ab.heap.size
    go_wp2_with (fail)
    go_roundw
    case rel=>exact ⟨j+1,by omega,by go_num,a,m,o,p,q,by omega⟩
    case measure=>simp [intOf];omega
  go_wp2_with (fail)
  clear ac;have ac:=kc2 m
  go_loopw [118] (fun i wr=>∃ k:Nat,k≤G∧i=.int .i64 k∧Hid (FarB w.heap.size w.heap.size w wr)∧Hid (Bo wr w.heap.size 26 #[.slice pd F kd,.slice qr G Z])∧Hid (Bo wr (w.heap.size+1) 26 #[.slice pe F Y,.slice qs G T])∧w.heap.size+2≤wr.heap.size) (fun i _=>G - (intOf i).toNat)
  case atStart=>exact ⟨0,Nat.zero_le _,rfl,a,m,o,by omega⟩
  case round=>
   clear a m o;obtain ⟨k,hk,rfl,a,m,o,bd⟩:=hrel;have ac:=kc2 m
   by_cases b8:k<G
   rotate_left
   ·
    go_wp2_with (fail)
    clear ac;go_ret;exact ⟨rfl,refBelow a.out⟩
   have R:=b3.out;obtain ⟨bx,ox,x,a1,J,c1,a2,D,c2,a3,m3,c3,E,_,N,z,A,B,C,H,L,x6,x7,x8,x9,al,P0,P1,P2⟩:=ru_at H2.out k (by omega);subst E;obtain ⟨bz,oz,x',a0,aj,a5,a4,ak,a6,ae,be,ag,E,_,O,r,t,u,y,I,M,z6,z7,z8,z9,am,Q0,Q1,Q2⟩:=ru_at G2.out k (by omega);subst E;obtain rfl:x=x':=Option.some.inj (N.out.symm.trans O.out);clear O;have ai:=P0.len;have a7:=P1.len;have ad:=P2.len;have ah:=Q0.len;have aw:=Q1.len;have ax:=Q2.len;rw [Ex.rows_len] at ai a7 ad ah aw ax
   obtain rfl:J=aj:=by omega
   obtain rfl:D=ak:=by omega
   obtain rfl:m3=be:=by omega
   have b5:=zz ai.1;have b6:=zz a7.1;have bj:=a7.2;have bk:=ah.2;have GP:=zz P0;have GG:=zz P1;have GB:=zz P2;have GP2:=zz Q0;have GG2:=zz Q1;have GB2:=zz Q2;clear P0 P1 P2 Q0 Q1 Q2 R N ai a7 ad ah aw ax;replace z:=cell_below z (refBelow a.out);replace A:=cell_below A (refBelow a.out);replace B:=cell_below B (refBelow a.out);replace C:=cell_below C (refBelow a.out);replace H:=cell_below H (refBelow a.out);replace L:=cell_below L (refBelow a.out);replace x6:=cell_below x6 (refBelow a.out);replace x7:=cell_below x7 (refBelow a.out);replace x8:=cell_below x8 (refBelow a.out);replace x9:=cell_below x9 (refBelow a.out);replace al:=cell_below al (refBelow a.out);go_upto_region 19 with (fail);clear ac;generalize f:(wr.alloc (.cells #[.string x.name,.slice a1 J c1,.slice a2 D c2,.int .i64 x.body.kind,.string x.body.name,.int .i64 x.body.n,.slice a3 m3 c3,.int .i64 x.body.line,.int .i64 x.body.col,.int .i64 x.l,.int .i64 x.c] 62))=w2 at *;have ba:=sizeA f;replace a:=fA a f;replace m:=bA m f;replace o:=bA o f;have p:=nB f (wr.heap.size);clear f;have bc:=kc2 o;have P:=p.out.c11z;have hZ:=i01_01 w wr;clear z A B C H L x6 x7 x8 x9 al;replace r:=cell_below r (refBelow a.out);replace t:=cell_below t (refBelow a.out);replace u:=cell_below u (refBelow a.out);replace y:=cell_below y (refBelow a.out);replace I:=cell_below I (refBelow a.out);replace M:=cell_below M (refBelow a.out);replace z6:=cell_below z6 (refBelow a.out);replace z7:=cell_below z7 (refBelow a.out);replace z8:=cell_below z8 (refBelow a.out);replace z9:=cell_below z9 (refBelow a.out);replace am:=cell_below am (refBelow a.out)
   go_wp2_with (fail)
   clear bc P;generalize f:(w2.alloc (.cells #[.string x.name,.slice a0 J a5,.slice a4 D a6,.int .i64 x.body.kind,.string x.body.name,.int .i64 x.body.n,.slice ae m3 ag,.int .i64 x.body.line,.int .i64 x.body.col,.int .i64 x.l,.int .i64 x.c] 62))=w3 at *;have bb:=sizeA f;replace a:=fA a f;replace m:=bA m f;replace o:=bA o f;replace p:=bA p f;have q:=nB f (wr.heap.size+1);clear f;clear hZ;clear r t u y I M z6 z7 z8 z9 am;refine (sameE_any (SamE.refl true _ x.body (Nat.le_refl _)) _ _ _ _ _ _ _ (MemW.keep GB.out (refBelow a.out)) (MemW.keep GB2.out (refBelow a.out))).mono ?_;rintro _ w4 ⟨rfl,g⟩;replace m:=kB m g;replace o:=kB o g;replace p:=kB p g;replace q:=kB q g;replace a:=kF a g;have b9:=g.size;clear g;have P:=p.out.c11z
   go_wp2_with (fail)
   clear P;obtain ⟨D0,a8⟩:∃ d,d=wr.heap.size:=⟨_,rfl⟩;rw [←a8] at p q ⊢
   have b7:D0+2≤w4.heap.size∧w.heap.size+2≤D0:=by omega
   clear a8
   go_loopw [169] (fun i wr=>∃ j:Nat,j≤J∧i=.int .i64 j∧Hid (FarB w.heap.size w.heap.size w wr)∧Hid (Bo wr (w.heap.size) 26 #[.slice pd F kd,.slice (some ⟨bx,ox,none⟩) G Z])∧Hid (Bo wr (w.heap.size+1) 26 #[.slice pe F Y,.slice (some ⟨bz,oz,none⟩) G T])∧Hid (Bo wr (D0) 62 #[.string x.name,.slice a1 J c1,.slice a2 D c2,.int .i64 x.body.kind,.string x.body.name,.int .i64 x.body.n,.slice a3 m3 c3,.int .i64 x.body.line,.int .i64 x.body.col,.int .i64 x.l,.int .i64 x.c])∧Hid (Bo wr (D0+1) 62 #[.string x.name,.slice a0 J a5,.slice a4 D a6,.int .i64 x.body.kind,.string x.body.name,.int .i64 x.body.n,.slice ae m3 ag,.int .i64 x.body.line,.int .i64 x.body.col,.int .i64 x.l,.int .i64 x.c])∧D0+2≤wr.heap.size) (fun i _=>J - (intOf i).toNat)
   case atStart=>exact ⟨0,Nat.zero_le _,rfl,a,m,o,p,q,by omega⟩
   case round=>
    clear a m o p q;obtain ⟨j,hj,rfl,a,m,o,p,q,az⟩:=hrel;have P:=p.out.c11z
    by_cases au:j<J
    ·
     have R:=b5.out;obtain ⟨bu,ou,v,af,nt,ct,E,_,N,z,A,B,C,H,L,P0⟩:=ex_atT GP.out j (by omega);subst E;obtain ⟨bv,ov,v',an,b0,ao,E,_,O,r,t,u,y,I,M,Q0⟩:=ex_atT GP2.out j (by omega);subst E;obtain rfl:v=v':=Option.some.inj (N.out.symm.trans O.out);have GT:=zz P0;have GT2:=zz Q0;clear N O P0 Q0 R;replace z:=cell_below z (refBelow a.out);replace A:=cell_below A (refBelow a.out);replace B:=cell_below B (refBelow a.out);replace C:=cell_below C (refBelow a.out);replace H:=cell_below H (refBelow a.out);replace L:=cell_below L (refBelow a.out);replace r:=cell_below r (refBelow a.out);replace t:=cell_below t (refBelow a.out);replace u:=cell_below u (refBelow a.out);replace y:=cell_below y (refBelow a.out);replace I:=cell_below I (refBelow a.out);replace M:=cell_below M (refBelow a.out);go_upto_region 25 with (fail);have W:=p.out.cell (j:=1) rfl;have X:=q.out.cell (j:=1) rfl;refine wp_region_held_drew (S:=fun w'=>Far (fun _=>False) (wr) w') (by kernel_rfl) (Far.of (below_drew _)) (fun a9=>?_);refine takeA 0 (v:=?_) rfl ?_ ?_;rotate_left
     · (intro w b;go_simp;try rfl)
     (try simp only [pu]);refine takeA 1 (v:=?_) rfl ?_ ?_;rotate_left
     · (intro w b;replace W:=Far.cellZ W b (fun e=>e);go_simp;try rfl)
     (try simp only [pu]);refine takeA 2 (v:=?_) rfl ?_ ?_;rotate_left
     · (intro w b;go_simp;try rfl)
     (try simp only [pu]);refine takeA 3 (v:=?_) rfl ?_ ?_;rotate_left
     · (intro w b;go_simp;try rfl)
     (try simp only [pu]);refine takeA 4 (v:=?_) rfl ?_ ?_;rotate_left
     · (intro w b;replace z:=Far.cellZ z b (fun e=>e);replace A:=Far.cellZ A b (fun e=>e);replace B:=Far.cellZ B b (fun e=>e);replace C:=Far.cellZ C b (fun e=>e);replace H:=Far.cellZ H b (fun e=>e);replace L:=Far.cellZ L b (fun e=>e);go_simp;try rfl)
     (try simp only [pu]);refine takeA 5 (v:=?_) rfl ?_ ?_;rotate_left
     · (intro w b;go_simp;try rfl)
     (try simp only [pu]);refine takeA 6 (v:=?_) rfl ?_ ?_;rotate_left
     · (intro w b;replace X:=Far.cellZ X b (fun e=>e);go_simp;try rfl)
     (try simp only [pu]);refine takeA 7 (v:=?_) rfl ?_ ?_;rotate_left
     · (intro w b;go_simp;try rfl)
     (try simp only [pu]);refine takeA 8 (v:=?_) rfl ?_ ?_;rotate_left
     · (intro w b;go_simp;try rfl)
     (try simp only [pu]);refine takeA 9 (v:=?_) rfl ?_ ?_;rotate_left
     · (intro w b;replace r:=Far.cellZ r b (fun e=>e);replace t:=Far.cellZ t b (fun e=>e);replace u:=Far.cellZ u b (fun e=>e);replace y:=Far.cellZ y b (fun e=>e);replace I:=Far.cellZ I b (fun e=>e);replace M:=Far.cellZ M b (fun e=>e);go_simp;try rfl)
     (try simp only [pu]);clear W X z A B C H L r t u y I M;refine callA 10 rfl fun K U=>?_;go_simp;refine (sameE_any (SamE.refl true _ v (Nat.le_refl _)) _ _ _ _ _ _ _ (MemW.keep (w:=wr) (MemW.keep GT.out (refBelow a.out)) (below_drew _)) (MemW.keep (w:=wr) (MemW.keep GT2.out (refBelow a.out)) (below_drew _))).mono ?_;rintro e ab ⟨rfl,g⟩;clear P;have aa:=g;replace g:=Below.one g;replace m:=kB m g;replace o:=kB o g;replace p:=kB p g;replace q:=kB q g;replace a:=kF a g;have ay:=g.size;clear g;go_simp;refine U.out _ _ ?_ (fun ap=>?_);· exact Far.trans a9 (Far.of aa)
     clear U K;refine takeA 11 (v:=?_) rfl ?_ ?_;rotate_left
     · (intro w b;go_simp;try rfl)
     (try simp only [pu]);refine wpAnyH_done (by kernel_rfl) ?_ _;have hI:=i01_q_q_0 w D0 (D0+1) ab
     go_wp2_with (fail)
     go_roundw
     case rel=>exact ⟨j+1,by omega,by go_num,a,m,o,p,q,by omega⟩
     case measure=>simp [intOf];omega
    go_wp2_with (fail)
    clear P;have P:=p.out.c11z
    go_loopw [188] (fun i wr=>∃ j:Nat,j≤D∧i=.int .i64 j∧Hid (FarB w.heap.size w.heap.size w wr)∧Hid (Bo wr (w.heap.size) 26 #[.slice pd F kd,.slice (some ⟨bx,ox,none⟩) G Z])∧Hid (Bo wr (w.heap.size+1) 26 #[.slice pe F Y,.slice (some ⟨bz,oz,none⟩) G T])∧Hid (Bo wr (D0) 62 #[.string x.name,.slice a1 J c1,.slice a2 D c2,.int .i64 x.body.kind,.string x.body.name,.int .i64 x.body.n,.slice a3 m3 c3,.int .i64 x.body.line,.int .i64 x.body.col,.int .i64 x.l,.int .i64 x.c])∧Hid (Bo wr (D0+1) 62 #[.string x.name,.slice a0 J a5,.slice a4 D a6,.int .i64 x.body.kind,.string x.body.name,.int .i64 x.body.n,.slice ae m3 ag,.int .i64 x.body.line,.int .i64 x.body.col,.int .i64 x.l,.int .i64 x.c])∧D0+2≤wr.heap.size) (fun i _=>D - (intOf i).toNat)
    case atStart=>exact ⟨0,Nat.zero_le _,rfl,a,m,o,p,q,by omega⟩
    case round=>
     clear a m o p q;obtain ⟨j,hj,rfl,a,m,o,p,q,az⟩:=hrel;have P:=p.out.c11z;have hI:=i01_q_q_0 w D0 (D0+1) wr
     by_cases au:j<D
     rotate_left
     ·
      go_wp2_with (fail)
      clear P
      go_roundw
      case rel=>exact ⟨k+1,by omega,by go_num,a,m,o,by omega⟩
      case measure=>simp [intOf];omega
     have R:=b6.out;obtain ⟨bu,ou,v,af,nt,ct,E,_,N,z,A,B,C,H,L,P0⟩:=ex_atT GG.out j (by omega);subst E;obtain ⟨bv,ov,v',an,b0,ao,E,_,O,r,t,u,y,I,M,Q0⟩:=ex_atT GG2.out j (by omega);subst E;obtain rfl:v=v':=Option.some.inj (N.out.symm.trans O.out);have GT:=zz P0;have GT2:=zz Q0;clear N O P0 Q0 R;replace z:=cell_below z (refBelow a.out);replace A:=cell_below A (refBelow a.out);replace B:=cell_below B (refBelow a.out);replace C:=cell_below C (refBelow a.out);replace H:=cell_below H (refBelow a.out);replace L:=cell_below L (refBelow a.out);replace r:=cell_below r (refBelow a.out);replace t:=cell_below t (refBelow a.out);replace u:=cell_below u (refBelow a.out);replace y:=cell_below y (refBelow a.out);replace I:=cell_below I (refBelow a.out);replace M:=cell_below M (refBelow a.out);go_upto_region 31 with (fail);have W:=p.out.cell (j:=2) rfl;have X:=q.out.cell (j:=2) rfl;refine wp_region_held_drew (S:=fun w'=>Far (fun _=>False) (wr) w') (by kernel_rfl) (Far.of (below_drew _)) (fun a9=>?_);refine takeA 0 (v:=?_) rfl ?_ ?_;rotate_left
     · (intro w b;go_simp;try rfl)
     (try simp only [pu]);refine takeA 1 (v:=?_) rfl ?_ ?_;rotate_left
     · (intro w b;replace W:=Far.cellZ W b (fun e=>e);go_simp;try rfl)
     (try simp only [pu]);refine takeA 2 (v:=?_) rfl ?_ ?_;rotate_left
     · (intro w b;go_simp;try rfl)
     (try simp only [pu]);refine takeA 3 (v:=?_) rfl ?_ ?_;rotate_left
     · (intro w b;go_simp;try rfl)
     (try simp only [pu]);refine takeA 4 (v:=?_) rfl ?_ ?_;rotate_left
     · (intro w b;replace z:=Far.cellZ z b (fun e=>e);replace A:=Far.cellZ A b (fun e=>e);replace B:=Far.cellZ B b (fun e=>e);replace C:=Far.cellZ C b (fun e=>e);replace H:=Far.cellZ H b (fun e=>e);replace L:=Far.cellZ L b (fun e=>e);go_simp;try rfl)
     (try simp only [pu]);refine takeA 5 (v:=?_) rfl ?_ ?_;rotate_left
     · (intro w b;go_simp;try rfl)
     (try simp only [pu]);refine takeA 6 (v:=?_) rfl ?_ ?_;rotate_left
     · (intro w b;replace X:=Far.cellZ X b (fun e=>e);go_simp;try rfl)
     (try simp only [pu]);refine takeA 7 (v:=?_) rfl ?_ ?_;rotate_left
     · (intro w b;go_simp;try rfl)
     (try simp only [pu]);refine takeA 8 (v:=?_) rfl ?_ ?_;rotate_left
     · (intro w b;go_simp;try rfl)
     (try simp only [pu]);refine takeA 9 (v:=?_) rfl ?_ ?_;rotate_left
     · (intro w b;replace r:=Far.cellZ r b (fun e=>e);replace t:=Far.cellZ t b (fun e=>e);replace u:=Far.cellZ u b (fun e=>e);replace y:=Far.cellZ y b (fun e=>e);replace I:=Far.cellZ I b (fun e=>e);replace M:=Far.cellZ M b (fun e=>e);go_simp;try rfl)
     (try simp only [pu]);clear W X z A B C H L r t u y I M;refine callA 10 rfl fun K U=>?_;go_simp;refine (sameE_any (SamE.refl true _ v (Nat.le_refl _)) _ _ _ _ _ _ _ (MemW.keep (w:=wr) (MemW.keep GT.out (refBelow a.out)) (below_drew _)) (MemW.keep (w:=wr) (MemW.keep GT2.out (refBelow a.out)) (below_drew _))).mono ?_;rintro e ab ⟨rfl,g⟩;clear P;clear hI;have aa:=g;replace g:=Below.one g;replace m:=kB m g;replace o:=kB o g;replace p:=kB p g;replace q:=kB q g;replace a:=kF a g;have ay:=g.size;clear g;go_simp;refine U.out _ _ ?_ (fun ap=>?_);· exact Far.trans a9 (Far.of aa)
     clear U K;refine takeA 11 (v:=?_) rfl ?_ ?_;rotate_left
     · (intro w b;go_simp;try rfl)
     (try simp only [pu]);refine wpAnyH_done (by kernel_rfl) ?_ _;have hI:=i01_q_q_0 w D0 (D0+1) ab
     go_wp2_with (fail)
     go_roundw
     case rel=>exact ⟨j+1,by omega,by go_num,a,m,o,p,q,by omega⟩
     case measure=>simp [intOf];omega
end
end Go.Proofs.YtcoiagfeoonpbaaGreat
