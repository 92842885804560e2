/-
 expr.Parse: the expression of a text, or where it is wrong. No condition but sizes.
-/
import Derived.Test.YtcoiagfeoonpbaaGreatSm23
import Derived.Test.YtcoiagfeoonpbaaGreatSm18
import Derived.Test.YtcoiagfeoonpbaaGreatSm19
import Derived.Deep.Cut
set_option maxHeartbeats 20000000
set_option maxRecDepth 100000
namespace Go.Proofs.YtcoiagfeoonpbaaGreat
section
open Go.RowKit
theorem DS.fresh {w0 w:World} {q:Nat} {d:Array Tok} (h:DS w0 q d w):DS w q d w:=⟨h.lt,grownBy_refl _ _,h.row⟩
def ParseAns (r:Pr1) (W:World) (e:Ending) (w':World):Prop:=
 match r with
 | .ok x=>∃ a m c,e=.returned (.tuple #[exV x a m c,.agg #[.int .i64 0,.int .i64 0,.int .i64 0]])∧Below W.heap.size W w'∧Mem (Nw 0 W.heap.size w'.heap.size) w' (.s 6 (Ex.rows x.args)) (.slice a m c)
 | .bad k l c=>e=.returned (.tuple #[.agg #[.int .i64 0,.string ⟨#[]⟩,.int .i64 0,.slice none 0 0,.int .i64 0,.int .i64 0],.agg #[.int .i64 k,.int .i64 l,.int .i64 c]])∧Below W.heap.size W w'
attribute [local go_sem] tk_pos
theorem belB {w w':World} (hf:FarB w.heap.size w.heap.size w w'):Below w.heap.size w w':=Far.toB (Far.mono hf fun b e=>by rcases e with e | e <;> omega) (Nat.le_refl _)
theorem parse_any (s:ByteArray) (w:World) (hs:s.size≤1000000):Calls Tryz.prog 43 #[.string s] w (ParseAns (parseE s) w):=by
 obtain ⟨rp,hrp⟩:∃ rp,parseE s=rp:=⟨_,rfl⟩;rw [hrp];have HF:Hid (FarB w.heap.size w.heap.size w w):=zz (FarB.refl _ _ _);have H:=zz True.intro;go_enter Tryz.func43,Tryz.ntmps43
 go_wp2_with (fail)
 generalize ee:(w.alloc (.cells #[.int .i64 0,.string ⟨#[]⟩,.int .i64 0,.slice none 0 0,.int .i64 0,.int .i64 0] 60))=w1_1 at *;have hq1:=sizeA ee;replace HF:=fA HF ee;have HBx:=nB ee (w.heap.size);clear ee;generalize ee:(w1_1.alloc (.cells #[.int .i64 0,.int .i64 0,.int .i64 0] 31))=w1 at *;have hq2:=sizeA ee;replace HF:=fA HF ee;replace HBx:=bA HBx ee;have HBf:=nB ee (w.heap.size+1);clear ee
 have hsa1:w1.heap.size=w.heap.size+2:=by omega
 clear hq1 hq2;have xc:=kc6 HBx;have fc:=kc3 HBf;have hI:=i01_0 w w1;have hZ:=i012 w;clear xc fc;refine (scan_own s _ hs).mono ?_;rintro _ w2 ⟨a1,n1,cap1,rfl,hb,hR,hO⟩;replace HBx:=kB HBx hb;replace HBf:=kB HBf hb;replace HF:=kF HF hb;have hs2:=hb.size;clear hb;have HO:=zz hO;clear hO hR;obtain ⟨ke,le,ce,toks,hlx⟩:∃ ke le ce toks,lexes s=(ke,le,ce,toks):=⟨_,_,_,_,rfl⟩;rw [hlx] at HO;rw [hlx];simp only at HO ⊢;have HLX:=zz hlx;clear hlx
 by_cases hke:ke=0
 rotate_left
 ·
  clear hI hZ;have xc:=kc6 HBx;have fc:=kc3 HBf;have hI:=i01_0 w w2;go_upto_region 2 with (fail);clear xc fc;generalize ee:(w2.alloc (.cells #[.int .i64 ke,.int .i64 le,.int .i64 ce] 31))=w3 at *;have hsa3:=sizeA ee;replace HF:=fA HF ee;replace HBx:=bA HBx ee;replace HBf:=bA HBf ee;have HBg:=nB ee (w2.heap.size);clear ee;clear hI;have xc:=kc6 HBx;have fc:=kc3 HBf;have gc:=kc3 HBg;have hI:=i01_0_0 w w2 w3;have hZ:=i01_01 w w2
  have e0:(ke != 0)=true:=by simp [hke]
  have hrb:rp=.bad ke le ce:=by rw [←hrp,parseE,HLX.out,if_neg hke]
  clear hke;subst hrb
  go_wp2_with (fail)
  refine wp_region_held_drew (S:=fun w'=>Far (fun b=>b=w.heap.size∨b=(w.heap.size+1)) (w3) w') (by kernel_rfl) (Far.of (below_drew _)) (fun hS40=>?_);refine takeA 0 (v:=?_) rfl ?_ ?_;rotate_left;· intro w hSw;replace gc:=Far.c3z gc hSw;go_simp;try rfl
  (try simp only [pu]);refine takeA 1 (v:=?_) rfl ?_ ?_;rotate_left;· intro w hSw;replace gc:=Far.c3z gc hSw;go_simp;try rfl
  (try simp only [pu]);refine callA 2 rfl fun K hK=>?_;go_simp;refine hK.out _ _ ?_ (fun hS41=>?_);· exact (by refine Far.trans ?_ (Far.of (below_drew _));(iterate 6 (refine Far.setCell (p:=⟨w.heap.size,_,none⟩) ?_ (.inl rfl) _));exact Far.refl _ _)
  clear hK K;clear xc fc gc;generalize ee:((((((w3.setCell ⟨w.heap.size,0,none⟩ (.int .i64 0)).setCell ⟨w.heap.size,1,none⟩ (.string ⟨#[]⟩)).setCell ⟨w.heap.size,2,none⟩ (.int .i64 0)).setCell ⟨w.heap.size,3,none⟩ (.slice none 0 0)).setCell ⟨w.heap.size,4,none⟩ (.int .i64 0)).setCell ⟨w.heap.size,5,none⟩ (.int .i64 0))=w4_1 at *;have hq1:=sizeS6 ee;replace HF:=fN6 HF ee;replace HBx:=bS6 HBx ee;replace HBf:=bF6 HBf ee;replace HBg:=bF6 HBg ee;clear ee;generalize ee:(w4_1.drew)=w4 at *;have hq2:=sizeD ee;replace HF:=fD HF ee;replace HBx:=bD HBx ee;replace HBf:=bD HBf ee;replace HBg:=bD HBg ee;clear ee
  have hsa4:w4.heap.size=w2.heap.size+1:=by omega
  clear hq1 hq2;clear hI hZ;have xc:=kc6 HBx;have fc:=kc3 HBf;have gc:=kc3 HBg;have hI:=i01_0_0 w w2 w4;have hZ:=i01_01 w w2;refine callA 3 rfl fun K hK=>?_;go_simp;refine hK.out _ _ ?_ (fun hS42=>?_);· exact (by (iterate 3 (refine Far.setCell (p:=⟨(w.heap.size+1),_,none⟩) ?_ (.inr rfl) _));exact hS41)
  clear hK K;refine wpAnyH_done (by kernel_rfl) ?_ _;clear xc fc gc;generalize ee:(((w4.setCell ⟨(w.heap.size+1),0,none⟩ (.int .i64 ke)).setCell ⟨(w.heap.size+1),1,none⟩ (.int .i64 le)).setCell ⟨(w.heap.size+1),2,none⟩ (.int .i64 ce))=w5 at *;have hsz5:=sizeS3 ee;replace HF:=fN3 HF ee;replace HBx:=bF3 HBx ee;replace HBf:=bS3 HBf ee;replace HBg:=bF3 HBg ee;clear ee;clear hI hZ
  go_wp2_with (fail)
  have y:=kc6 HBx;have z:=kc3 HBf;refine bodyPost_ret (v:=.tuple #[.agg #[.int .i64 0,.string ⟨#[]⟩,.int .i64 0,.slice none 0 0,.int .i64 0,.int .i64 0],.agg #[.int .i64 ke,.int .i64 le,.int .i64 ce]]) (by clear HF H HBx HBf HBg;simp [results,Tryz.results43,go_sem,y,z]) rfl ?_;exact ⟨rfl,belB HF.out⟩
 subst hke
 have hl0:(lexes s).1=0:=by rw [HLX.out]
 have HRP:=zz hrp;clear hrp;obtain ⟨us,ue,hue,hu0,hul⟩:=lex_parts hl0;rw [HLX.out] at hue;simp only at hue;obtain ⟨q,rfl,hqb,hn1,hcap,hmx,hds⟩:=OwnT.ds HO.out (by rw [hue];simp)
 have hne1:n1≤8193:=by rw [hn1,hue];exact hul
 have HDT:=zz hds;have HQL:=hds.hq;clear hds HO hue hu0 hul;clear hI hZ;have xc:=kc6 HBx;have fc:=kc3 HBf;have hI:=i01_0 w w2;go_upto_region 2 with (fail);replace HDT:=zz (DS.fresh (HDT.out.alloc (.cells #[.int .i64 0,.int .i64 le,.int .i64 ce] 31)));clear xc fc;generalize ee:(w2.alloc (.cells #[.int .i64 0,.int .i64 le,.int .i64 ce] 31))=w3 at *;have hsa3:=sizeA ee;replace HF:=fA HF ee;replace HBx:=bA HBx ee;replace HBf:=bA HBf ee;have HBg:=nB ee (w2.heap.size);clear ee;clear hI
 have hts:toks.toArray.size=n1:=by simp [hn1]
 have xc:=kc6 HBx;have fc:=kc3 HBf;have gc:=kc3 HBg;have hI:=i01_0_0 w w2 w3;have hZ:=i01_01 w w2
 go_wp2_with (fail)
 rw [←hts];clear xc fc gc;refine (deleteItem_any (w0:=w3) (q:=q) (d:=toks.toArray) HDT.out (by rw [hts];omega) (by rw [hts];exact hcap) hmx).mono ?_;rintro _ w4 ⟨k2,d2,rfl,hd2,hds2,hk2,htl⟩;have HGR:=zz hd2.gr;have hs4:=hd2.gr.size
 replace HF:=zz (FarB.grown HF.out HGR.out (fun k hk=>by have hk9:q=k:=Option.some.inj hk;omega))
 replace HBx:=zz (Bo.grown HBx.out HGR.out (fun k hk=>by have hk9:q=k:=Option.some.inj hk;omega))
 replace HBf:=zz (Bo.grown HBf.out HGR.out (fun k hk=>by have hk9:q=k:=Option.some.inj hk;omega))
 replace HBg:=zz (Bo.grown HBg.out HGR.out (fun k hk=>by have hk9:q=k:=Option.some.inj hk;omega))
 have htk:(TLk d2 k2).map tkOf=toksE s:=by rw [htl];unfold toksE;rw [HLX.out]
 have HYt:Hid (Mem (NwS (Bt q (q+1)) w4.heap.size) w4 _ _):=zz (trow_memS (cap:=cap1) hd2.row ⟨⟨Nat.le_refl _,Nat.lt_succ_self _⟩,hd2.lt⟩ (by rw [hds2];exact hk2) (by have h:=hk2;rw [hts] at h;omega) hmx)
 rw [htk] at HYt;clear hd2 htl htk;obtain ⟨r,hr,hrj⟩:=parse_parts hl0;obtain ⟨vs,ve,hve,hv0,hvl⟩:=toksE_end hl0
 have hr0:readE (toksE s) (fuelE s) .expr (Int.toNat 0) 0=some r:=by rw [show Int.toNat 0=0 from rfl];exact hr
 have HR0:=zz hr0;clear hr0;have HRJ:=zz hrj;clear hrj hve hv0
 have hk3:k2=(toksE s).length:=by have :=HYt.out.len.1;rw [tkRows_len] at this;exact this.symm
 have HK3:=zz hk3;clear hk3
 have hk4:k2≤8193:=by have h:=hk2;rw [hts] at h;omega
 clear hI hZ;have xc:=kc6 HBx;have fc:=kc3 HBf;have gc:=kc3 HBg;have hI:=i01_0_0 w w2 w4
 go_wp2_with (fail)
 cases r with
 | bad l_ c_=>
  clear xc fc gc;have h9:=of_any (F:=fuelE s) (i:=0) (r:=.bad l_ c_) w4 (HYt.out.mono (fun _ hb=>hb.2) fun _ _=>rfl) (Nat.le_trans hk4 (by decide)) HR0.out;refine h9.mono ?_;clear h9;rintro _ w5 ⟨rfl,hb⟩;replace HBx:=kB HBx hb;replace HBf:=kB HBf hb;replace HBg:=kB HBg hb;replace HYt:=kY HYt hb;replace HF:=kF HF hb;have hs5:=hb.size;clear hb
  have hrb:rp=.bad 1 l_ c_:=by rw [←HRP.out,parseE,if_pos hl0,hr]
  clear hr;subst hrb;clear HRP;clear hI;have xc:=kc6 HBx;have fc:=kc3 HBf;have gc:=kc3 HBg;have hI:=i01_0_0 w w2 w5;go_upto_region 6 with (fail);clear xc fc gc;generalize ee:(((w5.setCell ⟨w2.heap.size,0,none⟩ (.int .i64 1)).setCell ⟨w2.heap.size,1,none⟩ (.int .i64 l_)).setCell ⟨w2.heap.size,2,none⟩ (.int .i64 c_))=w6_1 at *;have hq1:=sizeS3 ee;replace HF:=fN3 HF ee;replace HBx:=bF3 HBx ee;replace HBf:=bF3 HBf ee;replace HBg:=bS3 HBg ee;replace HYt:=yS3 HYt ee;clear ee;generalize ee:(w6_1.alloc (.cells #[.int .i64 0,.string ⟨#[]⟩,.int .i64 0,.slice none 0 0,.int .i64 0,.int .i64 0] 60))=w6 at *;have hq2:=sizeA ee;replace HF:=fA HF ee;replace HBx:=bA HBx ee;replace HBf:=bA HBf ee;replace HBg:=bA HBg ee;replace HYt:=yA HYt ee;have HBe:=nB ee (w5.heap.size);clear ee
  have hsa6:w6.heap.size=w5.heap.size+1:=by omega
  clear hq1 hq2;clear hI;have xc:=kc6 HBx;have fc:=kc3 HBf;have gc:=kc3 HBg;have ec:=kc6 HBe;have hI:=i01_0_0_0 w w2 w5 w6;have hZ:=i01_0_01 w w2 w5
  go_wp2_with (fail)
  refine wp_region_held_drew (S:=fun w'=>Far (fun b=>b=w.heap.size∨b=(w.heap.size+1)) (w6) w') (by kernel_rfl) (Far.of (below_drew _)) (fun hS40=>?_);refine takeA 0 (v:=?_) rfl ?_ ?_;rotate_left;· intro w hSw;replace gc:=Far.c3z gc hSw;go_simp;try rfl
  (try simp only [pu]);refine takeA 1 (v:=?_) rfl ?_ ?_;rotate_left;· intro w hSw;replace gc:=Far.c3z gc hSw;go_simp;try rfl
  (try simp only [pu]);refine callA 2 rfl fun K hK=>?_;go_simp;refine hK.out _ _ ?_ (fun hS41=>?_);· exact (by refine Far.trans ?_ (Far.of (below_drew _));(iterate 6 (refine Far.setCell (p:=⟨w.heap.size,_,none⟩) ?_ (.inl rfl) _));exact Far.refl _ _)
  clear hK K;clear xc fc gc ec;generalize ee:((((((w6.setCell ⟨w.heap.size,0,none⟩ (.int .i64 0)).setCell ⟨w.heap.size,1,none⟩ (.string ⟨#[]⟩)).setCell ⟨w.heap.size,2,none⟩ (.int .i64 0)).setCell ⟨w.heap.size,3,none⟩ (.slice none 0 0)).setCell ⟨w.heap.size,4,none⟩ (.int .i64 0)).setCell ⟨w.heap.size,5,none⟩ (.int .i64 0))=w7_1 at *;have hq1:=sizeS6 ee;replace HF:=fN6 HF ee;replace HBx:=bS6 HBx ee;replace HBf:=bF6 HBf ee;replace HBg:=bF6 HBg ee;replace HBe:=bF6 HBe ee;replace HYt:=yS6 HYt ee;clear ee;generalize ee:(w7_1.drew)=w7 at *;have hq2:=sizeD ee;replace HF:=fD HF ee;replace HBx:=bD HBx ee;replace HBf:=bD HBf ee;replace HBg:=bD HBg ee;replace HBe:=bD HBe ee;replace HYt:=yD HYt ee;clear ee
  have hsa7:w7.heap.size=w5.heap.size+1:=by omega
  clear hq1 hq2;clear hI hZ;have xc:=kc6 HBx;have fc:=kc3 HBf;have gc:=kc3 HBg;have ec:=kc6 HBe;have hI:=i01_0_0_0 w w2 w5 w7;have hZ:=i01_0_01 w w2 w5;refine callA 3 rfl fun K hK=>?_;go_simp;refine hK.out _ _ ?_ (fun hS42=>?_);· exact (by (iterate 3 (refine Far.setCell (p:=⟨(w.heap.size+1),_,none⟩) ?_ (.inr rfl) _));exact hS41)
  clear hK K;refine wpAnyH_done (by kernel_rfl) ?_ _;clear xc fc gc ec;generalize ee:(((w7.setCell ⟨(w.heap.size+1),0,none⟩ (.int .i64 1)).setCell ⟨(w.heap.size+1),1,none⟩ (.int .i64 l_)).setCell ⟨(w.heap.size+1),2,none⟩ (.int .i64 c_))=w8 at *;have hsz8:=sizeS3 ee;replace HF:=fN3 HF ee;replace HBx:=bF3 HBx ee;replace HBf:=bS3 HBf ee;replace HBg:=bF3 HBg ee;replace HBe:=bF3 HBe ee;replace HYt:=yS3 HYt ee;clear ee;clear hI hZ
  go_wp2_with (fail)
  have y:=kc6 HBx;have z:=kc3 HBf;refine bodyPost_ret (v:=.tuple #[.agg #[.int .i64 0,.string ⟨#[]⟩,.int .i64 0,.slice none 0 0,.int .i64 0,.int .i64 0],.agg #[.int .i64 1,.int .i64 l_,.int .i64 c_]]) (by clear HF H HBx HBf HBg HBe HYt;simp [results,Tryz.results43,go_sem,y,z]) rfl ?_;exact ⟨rfl,belB HF.out⟩
 | ok x j=>
  clear xc fc gc;have h9:=of_any (F:=fuelE s) (i:=0) (r:=.ok x j) w4 (HYt.out.mono (fun _ hb=>hb.2) fun _ _=>rfl) (Nat.le_trans hk4 (by decide)) HR0.out;refine h9.mono ?_;clear h9;rintro _ w5 ⟨ax,mx,cx,rfl,hb,hm⟩;replace HBx:=kB HBx hb;replace HBf:=kB HBf hb;replace HBg:=kB HBg hb;replace HYt:=kY HYt hb;replace HF:=kF HF hb;have hs5:=hb.size;clear hb;have HMx:=zz hm;clear hm;simp only [exV];have hj:=HRJ.out x j rfl;clear HRJ;rw [←HK3.out] at hj;clear hI;have xc:=kc6 HBx;have fc:=kc3 HBf;have gc:=kc3 HBg;have hI:=i01_0_0 w w2 w5;go_upto_region 6 with (fail);clear xc fc gc;generalize ee:(((w5.setCell ⟨w2.heap.size,0,none⟩ (.int .i64 0)).setCell ⟨w2.heap.size,1,none⟩ (.int .i64 0)).setCell ⟨w2.heap.size,2,none⟩ (.int .i64 0))=w6_1 at *;have hq1:=sizeS3 ee;replace HF:=fN3 HF ee;replace HBx:=bF3 HBx ee;replace HBf:=bF3 HBf ee;replace HBg:=bS3 HBg ee;replace HMx:=mS3 HMx ee;replace HYt:=yS3 HYt ee;clear ee;generalize ee:(w6_1.alloc (.cells #[.int .i64 x.kind,.string x.name,.int .i64 x.n,.slice ax mx cx,.int .i64 x.line,.int .i64 x.col] 60))=w6 at *;have hq2:=sizeA ee;replace HF:=fA HF ee;replace HBx:=bA HBx ee;replace HBf:=bA HBf ee;replace HBg:=bA HBg ee;replace HMx:=mA HMx ee;replace HYt:=yA HYt ee;have HBe:=nB ee (w5.heap.size);clear ee
  have hsa6:w6.heap.size=w5.heap.size+1:=by omega
  clear hq1 hq2;clear hI;have xc:=kc6 HBx;have fc:=kc3 HBf;have gc:=kc3 HBg;have ec:=kc6 HBe;have hI:=i01_0_0_0 w w2 w5 w6;have hZ:=i01_0_01 w w2 w5;obtain ⟨b9,o9,t9,hab,_,Ht9,x0,x1,x2,x3,x4⟩:=tk_at HYt.out j hj;cases hab;rw [Nat.zero_add] at x0 x1 x2 x3 x4;have HNT:Hid (nowT (toksE s) j=t9):=zz (now_at Ht9.out);clear Ht9
  have hjz:(j:Int)<(k2:Int):=by omega
  have hjp:j<k2:=by omega
  by_cases hk0:t9.k=0
  ·
   have hrb:rp=.ok x:=by rw [←HRP.out,parseE,if_pos hl0,hr];simp only;rw [HNT.out,if_pos hk0]
   clear hr HRP;subst hrb
   have e9:(t9.k != 0)=false:=by simp [hk0]
   clear hk0
   go_wp2_with (fail)
   clear xc fc gc ec;generalize ee:((((((w6.setCell ⟨w.heap.size,0,none⟩ (.int .i64 x.kind)).setCell ⟨w.heap.size,1,none⟩ (.string x.name)).setCell ⟨w.heap.size,2,none⟩ (.int .i64 x.n)).setCell ⟨w.heap.size,3,none⟩ (.slice ax mx cx)).setCell ⟨w.heap.size,4,none⟩ (.int .i64 x.line)).setCell ⟨w.heap.size,5,none⟩ (.int .i64 x.col))=w7_1 at *;have hq1:=sizeS6 ee;replace HF:=fN6 HF ee;replace HBx:=bS6 HBx ee;replace HBf:=bF6 HBf ee;replace HBg:=bF6 HBg ee;replace HBe:=bF6 HBe ee;replace HMx:=mS6 HMx ee;replace HYt:=yS6 HYt ee;clear ee;generalize ee:(((w7_1.setCell ⟨(w.heap.size+1),0,none⟩ (.int .i64 0)).setCell ⟨(w.heap.size+1),1,none⟩ (.int .i64 0)).setCell ⟨(w.heap.size+1),2,none⟩ (.int .i64 0))=w7 at *;have hq2:=sizeS3 ee;replace HF:=fN3 HF ee;replace HBx:=bF3 HBx ee;replace HBf:=bS3 HBf ee;replace HBg:=bF3 HBg ee;replace HBe:=bF3 HBe ee;replace HMx:=mS3 HMx ee;replace HYt:=yS3 HYt ee;clear ee
   have hsz7:w7.heap.size=w6.heap.size:=by omega
   clear hq1 hq2;clear hI hZ
   go_wp2_with (fail)
   have y:=kc6 HBx;have z:=kc3 HBf;refine bodyPost_ret (v:=.tuple #[.agg #[.int .i64 x.kind,.string x.name,.int .i64 x.n,.slice ax mx cx,.int .i64 x.line,.int .i64 x.col],.agg #[.int .i64 0,.int .i64 0,.int .i64 0]]) (by clear HF H HBx HBf HBg HBe HMx HYt;simp [results,Tryz.results43,go_sem,y,z]) rfl ?_;exact ⟨_,_,_,rfl,belB HF.out,memNw HMx.out (by omega)⟩
  have hrb:rp=.bad 1 t9.l t9.c:=by rw [←HRP.out,parseE,if_pos hl0,hr];simp only;rw [HNT.out,if_neg hk0]
  clear hr HRP;subst hrb
  have e9:(t9.k != 0)=true:=by simp [hk0]
  clear hk0
  go_wp2_with (fail)
  refine wp_region_held_drew (S:=fun w'=>Far (fun b=>b=w.heap.size∨b=(w.heap.size+1)) (w6) w') (by kernel_rfl) (Far.of (below_drew _)) (fun hS40=>?_);refine takeA 0 (v:=?_) rfl ?_ ?_;rotate_left;· intro w hSw;replace x3:=Far.cellZ x3 hSw (by intro e;rcases e with e | e <;> omega);replace x4:=Far.cellZ x4 hSw (by intro e;rcases e with e | e <;> omega);go_simp;try rfl
  (try simp only [pu]);refine takeA 1 (v:=?_) rfl ?_ ?_;rotate_left;· intro w hSw;replace x3:=Far.cellZ x3 hSw (by intro e;rcases e with e | e <;> omega);replace x4:=Far.cellZ x4 hSw (by intro e;rcases e with e | e <;> omega);go_simp;try rfl
  (try simp only [pu]);refine takeA 2 (v:=?_) rfl ?_ ?_;rotate_left;· intro w hSw;replace x3:=Far.cellZ x3 hSw (by intro e;rcases e with e | e <;> omega);replace x4:=Far.cellZ x4 hSw (by intro e;rcases e with e | e <;> omega);go_simp;try rfl
  (try simp only [pu]);refine takeA 3 (v:=?_) rfl ?_ ?_;rotate_left;· intro w hSw;replace x3:=Far.cellZ x3 hSw (by intro e;rcases e with e | e <;> omega);replace x4:=Far.cellZ x4 hSw (by intro e;rcases e with e | e <;> omega);go_simp;try rfl
  (try simp only [pu]);refine takeA 4 (v:=?_) rfl ?_ ?_;rotate_left;· intro w hSw;replace x3:=Far.cellZ x3 hSw (by intro e;rcases e with e | e <;> omega);replace x4:=Far.cellZ x4 hSw (by intro e;rcases e with e | e <;> omega);go_simp;try rfl
  (try simp only [pu]);refine takeA 5 (v:=?_) rfl ?_ ?_;rotate_left;· intro w hSw;replace x3:=Far.cellZ x3 hSw (by intro e;rcases e with e | e <;> omega);replace x4:=Far.cellZ x4 hSw (by intro e;rcases e with e | e <;> omega);go_simp;try rfl
  (try simp only [pu]);refine takeA 6 (v:=?_) rfl ?_ ?_;rotate_left;· intro w hSw;replace x3:=Far.cellZ x3 hSw (by intro e;rcases e with e | e <;> omega);replace x4:=Far.cellZ x4 hSw (by intro e;rcases e with e | e <;> omega);go_simp;try rfl
  (try simp only [pu]);refine callA 7 rfl fun K hK=>?_;go_simp;refine hK.out _ _ ?_ (fun hS41=>?_);· exact (by refine Far.trans ?_ (Far.of (below_drew _));(iterate 6 (refine Far.setCell (p:=⟨w.heap.size,_,none⟩) ?_ (.inl rfl) _));exact Far.refl _ _)
  clear hK K;clear xc fc gc ec;generalize ee:((((((w6.setCell ⟨w.heap.size,0,none⟩ (.int .i64 0)).setCell ⟨w.heap.size,1,none⟩ (.string ⟨#[]⟩)).setCell ⟨w.heap.size,2,none⟩ (.int .i64 0)).setCell ⟨w.heap.size,3,none⟩ (.slice none 0 0)).setCell ⟨w.heap.size,4,none⟩ (.int .i64 0)).setCell ⟨w.heap.size,5,none⟩ (.int .i64 0))=w7_1 at *;have hq1:=sizeS6 ee;replace HF:=fN6 HF ee;replace HBx:=bS6 HBx ee;replace HBf:=bF6 HBf ee;replace HBg:=bF6 HBg ee;replace HBe:=bF6 HBe ee;replace HMx:=mS6 HMx ee;replace HYt:=yS6 HYt ee;clear ee;generalize ee:(w7_1.drew)=w7 at *;have hq2:=sizeD ee;replace HF:=fD HF ee;replace HBx:=bD HBx ee;replace HBf:=bD HBf ee;replace HBg:=bD HBg ee;replace HBe:=bD HBe ee;replace HMx:=mD HMx ee;replace HYt:=yD HYt ee;clear ee
  have hsa7:w7.heap.size=w5.heap.size+1:=by omega
  clear hq1 hq2;clear hI hZ;have xc:=kc6 HBx;have fc:=kc3 HBf;have gc:=kc3 HBg;have ec:=kc6 HBe;have hI:=i01_0_0_0 w w2 w5 w7;have hZ:=i01_0_01 w w2 w5;refine callA 8 rfl fun K hK=>?_;go_simp;refine hK.out _ _ ?_ (fun hS42=>?_);· exact (by (iterate 3 (refine Far.setCell (p:=⟨(w.heap.size+1),_,none⟩) ?_ (.inr rfl) _));exact hS41)
  clear hK K;refine wpAnyH_done (by kernel_rfl) ?_ _;clear xc fc gc ec;generalize ee:(((w7.setCell ⟨(w.heap.size+1),0,none⟩ (.int .i64 1)).setCell ⟨(w.heap.size+1),1,none⟩ (.int .i64 t9.l)).setCell ⟨(w.heap.size+1),2,none⟩ (.int .i64 t9.c))=w8 at *;have hsz8:=sizeS3 ee;replace HF:=fN3 HF ee;replace HBx:=bF3 HBx ee;replace HBf:=bS3 HBf ee;replace HBg:=bF3 HBg ee;replace HBe:=bF3 HBe ee;replace HMx:=mS3 HMx ee;replace HYt:=yS3 HYt ee;clear ee;clear hI hZ
  go_wp2_with (fail)
  have y:=kc6 HBx;have z:=kc3 HBf;refine bodyPost_ret (v:=.tuple #[.agg #[.int .i64 0,.string ⟨#[]⟩,.int .i64 0,.slice none 0 0,.int .i64 0,.int .i64 0],.agg #[.int .i64 1,.int .i64 t9.l,.int .i64 t9.c]]) (by clear HF H HBx HBf HBg HBe HMx HYt;simp [results,Tryz.results43,go_sem,y,z]) rfl ?_;exact ⟨rfl,belB HF.out⟩
end
end Go.Proofs.YtcoiagfeoonpbaaGreat
