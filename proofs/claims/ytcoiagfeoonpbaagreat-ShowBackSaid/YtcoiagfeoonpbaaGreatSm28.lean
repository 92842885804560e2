/-
 show.Expr, and what it is made of: expressions as texts. No condition but how they lie, and sizes.
-/
import Derived.Test.YtcoiagfeoonpbaaGreatSm27
import Derived.Test.YtcoiagfeoonpbaaGreatSm19
import Derived.Test.YtcoiagfeoonpbaaGreatSm20
import Derived.Deep.Cut
set_option maxHeartbeats 20000000
set_option maxRecDepth 100000
namespace Go.Proofs.YtcoiagfeoonpbaaGreat
section
open Go.RowKit
def ShowsAt (x:Ex):Prop:=∀ (a:Option Addr) (n c:Nat) (w:World),MemW w (.s 6 (Ex.rows x.args)) (.slice a n c)→NumX x→(showX x).size≤100000000→
 Calls Tryz.prog 44 #[.agg #[.int .i64 x.kind,.string x.name,.int .i64 x.n,.slice a n c,.int .i64 x.line,.int .i64 x.col]] w fun e w'=>e=.returned (.string (showX x))∧Below w.heap.size w w'
theorem one_at {l:List Ex} {S:Nat→Prop} {w:World} {a:Option Addr} {m c:Nat} (h:Mem S w (.s 6 (Ex.rows l)) (.slice a m c)) {i:Nat} {x:Ex} (hx:l[i]?=some x) {k:Nat} (hk:i * 6=k):
  ∃ b o a' m' c',a=some ⟨b,o,none⟩∧i<m∧m≤c∧c≤9223372036854775807∧w.cell? ⟨b,o+k,none⟩=some (.int .i64 x.kind)∧w.cell? ⟨b,o+k+1,none⟩=some (.string x.name)∧w.cell? ⟨b,o+k+2,none⟩=some (.int .i64 x.n)∧w.cell? ⟨b,o+k+3,none⟩=some (.slice a' m' c')∧w.cell? ⟨b,o+k+4,none⟩=some (.int .i64 x.line)∧w.cell? ⟨b,o+k+5,none⟩=some (.int .i64 x.col)∧Hid (Mem S w (.s 6 (Ex.rows x.args)) (.slice a' m' c')):=by
 subst hk;have hl:=h.len;rw [Ex.rows_len] at hl;have hi:=(List.getElem?_eq_some_iff.1 hx).1;obtain ⟨b,o,y,a',m',c',ha,hy,g0,g1,g2,g3,g4,g5,g6⟩:=ex_at h i hi
 obtain rfl:x=y:=by have :=hy.out;rw [hx] at this;exact Option.some.inj this
 exact ⟨b,o,a',m',c',ha,by omega,hl.2.1,hl.2.2,g0,g1,g2,g3,g4,g5,g6⟩
theorem atom_any {e:Ex} (hs:ShowsAt e) (hz:(showX e).size≤100000000) (a:Option Addr) (n c:Nat) (w:World) (hm:MemW w (.s 6 (Ex.rows e.args)) (.slice a n c)) (hnum:NumX e):
  Calls Tryz.prog 74 #[.agg #[.int .i64 e.kind,.string e.name,.int .i64 e.n,.slice a n c,.int .i64 e.line,.int .i64 e.col]] w fun e' w'=>e'=.returned (.string (atomX e (showX e)))∧Below w.heap.size w w':=by
 have HM:=zz hm;have HN:=zz hnum;clear hm hnum;have HS:=zz hs;have HZ:=zz hz;obtain ⟨sx,hsx⟩:∃ s,showX e=s:=⟨_,rfl⟩
 have hz2:sx.size≤100000000:=by rw [←hsx];exact hz
 clear hs hz;rw [hsx]
 by_cases h1:e.kind=1
 ·
  have e1:(e.kind==1)=true:=by simp [h1]
  have HK:Hid (smallX e.kind=true):=zz (by unfold smallX;exact decide_eq_true (by omega));clear h1;have HF:Hid (FarB w.heap.size w.heap.size w w):=zz (FarB.refl _ _ _);go_enter Tryz.func74,Tryz.ntmps74
  go_wp2_with (fail)
  generalize ee:World.alloc w _=w1;have hsa1:=sizeA ee;replace HF:=fA HF ee;have HBr:=nB ee (w.heap.size);clear ee;have rc:=kc6 HBr;have hI:=i0_0 w w1;have hZ:=i01 w;clear rc;refine (HS.out _ _ _ _ (HM.out.keep (refBelow HF.out)) HN.out HZ.out).mono ?_;rintro _ w2 ⟨rfl,hb⟩;replace HBr:=kB HBr hb;replace HF:=kF HF hb;have hs2:=hb.size;clear hb;rw [hsx];have HQ:Hid (atomX e sx=sx):=zz (by unfold atomX;rw [HK.out];rfl);clear hI hZ;have rc:=kc6 HBr;have hI:=i0_0 w w2
  go_wp2_with (fail)
  clear rc;go_ret;exact ⟨congrArg (fun s=>Ending.returned (Value.string s)) HQ.out.symm,refBelow HF.out⟩
 by_cases h2:e.kind=2
 ·
  have e1:(e.kind==1)=false:=by simp [h1]
  have e2:(e.kind==2)=true:=by simp [h2]
  have HK:Hid (smallX e.kind=true):=zz (by unfold smallX;exact decide_eq_true (by omega));clear h1 h2;have HF:Hid (FarB w.heap.size w.heap.size w w):=zz (FarB.refl _ _ _);go_enter Tryz.func74,Tryz.ntmps74
  go_wp2_with (fail)
  generalize ee:World.alloc w _=w1;have hsa1:=sizeA ee;replace HF:=fA HF ee;have HBr:=nB ee (w.heap.size);clear ee;have rc:=kc6 HBr;have hI:=i0_0 w w1;have hZ:=i01 w;clear rc;refine (HS.out _ _ _ _ (HM.out.keep (refBelow HF.out)) HN.out HZ.out).mono ?_;rintro _ w2 ⟨rfl,hb⟩;replace HBr:=kB HBr hb;replace HF:=kF HF hb;have hs2:=hb.size;clear hb;rw [hsx];have HQ:Hid (atomX e sx=sx):=zz (by unfold atomX;rw [HK.out];rfl);clear hI hZ;have rc:=kc6 HBr;have hI:=i0_0 w w2
  go_wp2_with (fail)
  clear rc;go_ret;exact ⟨congrArg (fun s=>Ending.returned (Value.string s)) HQ.out.symm,refBelow HF.out⟩
 by_cases h3:e.kind=3
 ·
  have e1:(e.kind==1)=false:=by simp [h1]
  have e2:(e.kind==2)=false:=by simp [h2]
  have e3:(e.kind==3)=true:=by simp [h3]
  have HK:Hid (smallX e.kind=true):=zz (by unfold smallX;exact decide_eq_true (by omega));clear h1 h2 h3;have HF:Hid (FarB w.heap.size w.heap.size w w):=zz (FarB.refl _ _ _);go_enter Tryz.func74,Tryz.ntmps74
  go_wp2_with (fail)
  generalize ee:World.alloc w _=w1;have hsa1:=sizeA ee;replace HF:=fA HF ee;have HBr:=nB ee (w.heap.size);clear ee;have rc:=kc6 HBr;have hI:=i0_0 w w1;have hZ:=i01 w;clear rc;refine (HS.out _ _ _ _ (HM.out.keep (refBelow HF.out)) HN.out HZ.out).mono ?_;rintro _ w2 ⟨rfl,hb⟩;replace HBr:=kB HBr hb;replace HF:=kF HF hb;have hs2:=hb.size;clear hb;rw [hsx];have HQ:Hid (atomX e sx=sx):=zz (by unfold atomX;rw [HK.out];rfl);clear hI hZ;have rc:=kc6 HBr;have hI:=i0_0 w w2
  go_wp2_with (fail)
  clear rc;go_ret;exact ⟨congrArg (fun s=>Ending.returned (Value.string s)) HQ.out.symm,refBelow HF.out⟩
 by_cases h9:e.kind=9
 ·
  have e1:(e.kind==1)=false:=by simp [h1]
  have e2:(e.kind==2)=false:=by simp [h2]
  have e3:(e.kind==3)=false:=by simp [h3]
  have e9:(e.kind==9)=true:=by simp [h9]
  have HK:Hid (smallX e.kind=true):=zz (by unfold smallX;exact decide_eq_true (by omega));clear h1 h2 h3 h9;have HF:Hid (FarB w.heap.size w.heap.size w w):=zz (FarB.refl _ _ _);go_enter Tryz.func74,Tryz.ntmps74
  go_wp2_with (fail)
  generalize ee:World.alloc w _=w1;have hsa1:=sizeA ee;replace HF:=fA HF ee;have HBr:=nB ee (w.heap.size);clear ee;have rc:=kc6 HBr;have hI:=i0_0 w w1;have hZ:=i01 w;clear rc;refine (HS.out _ _ _ _ (HM.out.keep (refBelow HF.out)) HN.out HZ.out).mono ?_;rintro _ w2 ⟨rfl,hb⟩;replace HBr:=kB HBr hb;replace HF:=kF HF hb;have hs2:=hb.size;clear hb;rw [hsx];have HQ:Hid (atomX e sx=sx):=zz (by unfold atomX;rw [HK.out];rfl);clear hI hZ;have rc:=kc6 HBr;have hI:=i0_0 w w2
  go_wp2_with (fail)
  clear rc;go_ret;exact ⟨congrArg (fun s=>Ending.returned (Value.string s)) HQ.out.symm,refBelow HF.out⟩
 have e1:(e.kind==1)=false:=by simp [h1]
 have e2:(e.kind==2)=false:=by simp [h2]
 have e3:(e.kind==3)=false:=by simp [h3]
 have e9:(e.kind==9)=false:=by simp [h9]
 have HK:Hid (smallX e.kind=false):=zz (by unfold smallX;exact decide_eq_false (by omega));clear h1 h2 h3 h9;have HF:Hid (FarB w.heap.size w.heap.size w w):=zz (FarB.refl _ _ _);go_enter Tryz.func74,Tryz.ntmps74
 go_wp2_with (fail)
 generalize ee:World.alloc w _=w1;have hsa1:=sizeA ee;replace HF:=fA HF ee;have HBr:=nB ee (w.heap.size);clear ee;have rc:=kc6 HBr;have hI:=i0_0 w w1;have hZ:=i01 w;clear rc;refine (HS.out _ _ _ _ (HM.out.keep (refBelow HF.out)) HN.out HZ.out).mono ?_;rintro _ w2 ⟨rfl,hb⟩;replace HBr:=kB HBr hb;replace HF:=kF HF hb;have hs2:=hb.size;clear hb;rw [hsx];have HQ:Hid (atomX e sx=(⟨#[40]⟩++sx)++⟨#[41]⟩):=zz (by unfold atomX;rw [HK.out];rfl)
 have i1: ¬(9223372036854775807<1+sx.size):=by omega
 have i2: ¬(9223372036854775807<1+sx.size+1):=by omega
 clear hI hZ;have rc:=kc6 HBr;have hI:=i0_0 w w2
 go_wp2_with (fail)
 clear rc;go_ret;exact ⟨congrArg (fun s=>Ending.returned (Value.string s)) HQ.out.symm,refBelow HF.out⟩
theorem operand_any {e:Ex} (hs:ShowsAt e) (hz:(showX e).size≤100000000) (rank:Nat) (strict:Bool) (hr:rank≤10) (a:Option Addr) (n c:Nat) (w:World) (hm:MemW w (.s 6 (Ex.rows e.args)) (.slice a n c)) (hnum:NumX e):
  Calls Tryz.prog 111 #[.agg #[.int .i64 e.kind,.string e.name,.int .i64 e.n,.slice a n c,.int .i64 e.line,.int .i64 e.col],.int .i64 (rank:Int),.bool strict] w fun e' w'=>e'=.returned (.string (opndX e (showX e) rank strict))∧Below w.heap.size w w':=by
 have HM:=zz hm;have HN:=zz hnum;clear hm hnum;have HS:=zz hs;have HZ:=zz hz;obtain ⟨sx,hsx⟩:∃ s,showX e=s:=⟨_,rfl⟩
 have hz2:sx.size≤100000000:=by rw [←hsx];exact hz
 clear hs hz;have HR:=zz hr;clear hr;rw [hsx]
 by_cases h5:e.kind=5
 case' neg=>
  have HF:Hid (FarB w.heap.size w.heap.size w w):=zz (FarB.refl _ _ _);go_enter Tryz.func111,Tryz.ntmps111;have HL:Hid (lessX e rank strict=false):=zz (by unfold lessX;rw [decide_eq_false h5];rfl)
  have e5:(e.kind==5)=false:=by simp [h5]
  clear h5;go_upto_region 5 with (fail);generalize ee:World.alloc w _=w1;have hsa1:=sizeA ee;replace HF:=fA HF ee;have HBr:=nB ee (w.heap.size);clear ee;have rc:=kc6 HBr;have hI:=i0_0 w w1;have hZ:=i01 w
 case' pos=>
  have HK5:Hid (decide (e.kind=5)=true):=zz (decide_eq_true h5)
  have e5:(e.kind==5)=true:=by simp [h5]
  clear h5;have HF:Hid (FarB w.heap.size w.heap.size w w):=zz (FarB.refl _ _ _);go_enter Tryz.func111,Tryz.ntmps111
  go_wp2_with (fail)
  generalize ee:World.alloc w _=w1;have hsa1:=sizeA ee;replace HF:=fA HF ee;have HBr:=nB ee (w.heap.size);clear ee;have rc:=kc6 HBr;have hI:=i0_0 w w1;have hZ:=i01 w;refine (binds_any _ _).mono ?_;rintro _ _ ⟨rfl,rfl⟩;obtain ⟨bk,hbk⟩:∃ bk,bindsE e.name=bk:=⟨_,rfl⟩;rw [hbk];have HL:Hid (lessX e rank strict=(decide (bk<rank) || (decide (bk=rank) && strict))):=zz (by unfold lessX;rw [HK5.out,hbk];rfl);clear hbk
  by_cases hlt:bk<rank
  case' pos=>
   have q1:bk<rank:=hlt
   have q2: ¬bk=rank:=by omega
   have q3:True:=trivial
   have t1:(bk:Int)<(rank:Int):=by omega
   replace HL:Hid (lessX e rank strict=true):=zz (by rw [HL.out];simp [q1,q2]);clear q1 q2 q3
  case' neg=>
   by_cases heq:bk=rank
   case' pos=>
    have q1: ¬bk<rank:=hlt;have q2:bk=rank:=heq;have q3:True:=trivial
    have t1: ¬((bk:Int)<(rank:Int)):=by omega
    have t2:((bk:Int)==(rank:Int))=true:=by simp;omega
    replace HL:Hid (lessX e rank strict=strict):=zz (by rw [HL.out];simp [q2]);clear q1 q2 q3
   case' neg=>
    have q1: ¬bk<rank:=hlt;have q2: ¬bk=rank:=heq;have q3:True:=trivial
    have t1: ¬((bk:Int)<(rank:Int)):=by omega
    have t2:((bk:Int)==(rank:Int))=false:=by simp;omega
    replace HL:Hid (lessX e rank strict=false):=zz (by rw [HL.out];simp [q1,q2]);clear q1 q2 q3
 all_goals (
  clear rc;clear hI hZ;have rc:=kc6 HBr;have hI:=i0_0 w w1;have hZ:=i01 w;go_upto_region 5 with (fail);refine wp_region_held_drew (S:=fun w'=>Far (fun _=>False) (w1) w') (by kernel_rfl) (Far.of (below_drew _)) (fun hS20=>?_);refine takeA 0 (v:=?_) rfl ?_ ?_;rotate_left;· intro w hSw;replace rc:=Far.c6z rc hSw (fun e=>e);go_simp;try rfl
  (try simp only [pu]);refine takeA 5 (v:=?_) rfl ?_ ?_;rotate_left;· intro w hSw;replace rc:=Far.c6z rc hSw (fun e=>e);go_simp;try rfl
  (try simp only [pu]);refine callA 1 rfl fun K hK=>?_;go_simp;refine (open_any e a n c _).mono ?_;rintro e wx21 ⟨rfl,hb⟩;clear rc;clear hI hZ;have hbk:=hb;replace hb:=Below.one hb;replace HBr:=kB HBr hb;replace HF:=kF HF hb;have hs21:=hb.size;clear hb;generalize hox:openX e.kind=ox;have HOX:=zz hox;clear hox;go_simp;refine hK.out _ _ (Far.trans hS20 (Far.of hbk)) (fun hS21=>?_);clear hK K
  cases ox with
  | true=>
   refine takeA 2 (v:=?_) rfl ?_ ?_;rotate_left;· intros;go_simp;try rfl
   (try simp only [pu]);refine skipA 3 rfl ?_;(try simp only [pu]);refine takeA 4 (v:=?_) rfl ?_ ?_;rotate_left;· intros;go_simp;try rfl
   (try simp only [pu]);refine callA 6 rfl fun K hK=>?_;go_simp;refine (HS.out _ _ _ _ (HM.out.keep (refBelow HF.out)) HN.out HZ.out).mono ?_;rintro e wx22 ⟨rfl,hb⟩;have hbk:=hb;replace HBr:=kB HBr hb;replace HF:=kF HF hb;have hs22:=hb.size;clear hb;rw [hsx];go_simp;refine hK.out _ _ (Far.trans hS21 (Far.of hbk)) (fun hS22=>?_);clear hK K;refine callA 7 rfl fun K hK=>?_;go_simp;refine (brackets_any _ sx _ (by omega)).mono ?_;rintro e wx23 ⟨rfl,rfl⟩;have hbk:=Below.refl wx22.heap.size wx22;go_simp;refine hK.out _ _ (Far.trans hS22 (Far.refl _ _)) (fun hS23=>?_);clear hK K;refine takeA 8 (v:=?_) rfl ?_ ?_;rotate_left;· intros;go_simp;try rfl
   (try simp only [pu]);refine wpAnyH_done (by kernel_rfl) ?_ _
   go_wp2_with (fail)
   go_ret;exact ⟨by unfold opndX;rw [HOX.out,HL.out];rfl,refBelow HF.out⟩
  | false=>
   refine takeA 2 (v:=?_) rfl ?_ ?_;rotate_left;· intros;go_simp;try rfl
   (try simp only [pu]);refine takeA 3 (v:=?_) rfl ?_ ?_;rotate_left;· intros;go_simp;try rfl
   (try simp only [pu]);refine takeA 4 (v:=?_) rfl ?_ ?_;rotate_left;· intros;go_simp;try rfl
   (try simp only [pu]);refine callA 6 rfl fun K hK=>?_;go_simp;refine (HS.out _ _ _ _ (HM.out.keep (refBelow HF.out)) HN.out HZ.out).mono ?_;rintro e wx22 ⟨rfl,hb⟩;have hbk:=hb;replace HBr:=kB HBr hb;replace HF:=kF HF hb;have hs22:=hb.size;clear hb;rw [hsx];go_simp;refine hK.out _ _ (Far.trans hS21 (Far.of hbk)) (fun hS22=>?_);clear hK K;refine callA 7 rfl fun K hK=>?_;go_simp;refine (brackets_any _ sx _ (by omega)).mono ?_;rintro e wx23 ⟨rfl,rfl⟩;have hbk:=Below.refl wx22.heap.size wx22;go_simp;refine hK.out _ _ (Far.trans hS22 (Far.refl _ _)) (fun hS23=>?_);clear hK K;refine takeA 8 (v:=?_) rfl ?_ ?_;rotate_left;· intros;go_simp;try rfl
   (try simp only [pu]);refine wpAnyH_done (by kernel_rfl) ?_ _
   go_wp2_with (fail)
   go_ret
   exact ⟨by unfold opndX;rw [HOX.out,HL.out];rfl,refBelow HF.out⟩)
end
section
open Go.RowKit
attribute [local go_sem] toList_beq
theorem info_strX:(Tryz.prog.info? 9).map (fun i=>(i.zero,i.size,i.bytes))=some (some (.string ⟨#[]⟩),1,16):=by kernel_rfl
theorem app_sz (a b:ByteArray):(a++b).size=a.size+b.size:=ByteArray.size_append
theorem binds_le (s:ByteArray):bindsE s≤10:=by unfold bindsE;repeat' split <;> try omega
theorem operator_any {e:Ex} {x y:Ex} (ha:e.args=[x,y]) (hsx:ShowsAt x) (hsy:ShowsAt y) (hnx:NumX x) (hny:NumX y) (hsz:(showX x).size≤100000000∧(showX y).size≤100000000) (hz:(opX e.name x y (showX x) (showX y)).size≤100000000) (a:Option Addr) (n c:Nat) (w:World) (hm:MemW w (.s 6 (Ex.rows e.args)) (.slice a n c)) (hnum:NumX e):
  Calls Tryz.prog 78 #[.agg #[.int .i64 e.kind,.string e.name,.int .i64 e.n,.slice a n c,.int .i64 e.line,.int .i64 e.col]] w fun e' w'=>e'=.returned (.string (opX e.name x y (showX x) (showX y)))∧Below w.heap.size w w':=by
 have HM:=zz hm;have HN:=zz hnum;clear hm hnum;have HSX:=zz hsx;have HSY:=zz hsy;have HA:=zz ha;have HNX:=zz (hnx:NumX x);have HNY:=zz (hny:NumX y);have HSZ:=zz hsz;have hb10:=binds_le e.name
 obtain rfl:n=2:=by have h:=HM.out.len.1;rw [Ex.rows_len,ha] at h;exact h.symm
 clear hsx hsy ha hnx hny
 by_cases q1:e.name=⟨#[63]⟩
 case' pos=>
  have l1:leftX e.name=true:=by unfold leftX;simp [q1]
  have l2:decide (e.name≠⟨#[63]⟩)=false:=by simp [q1]
  have t1:(e.name.toList==[63])=true:=by have h:=congrArg ByteArray.toList q1;simpa using h
  clear q1;obtain ⟨X,hX⟩:∃ X,opndX x (showX x) (bindsE e.name) true=X:=⟨_,rfl⟩;obtain ⟨Y,hY⟩:∃ Y,opndX y (showX y) (bindsE e.name) false=Y:=⟨_,rfl⟩;have HQ:Hid (opX e.name x y (showX x) (showX y)=(((X++⟨#[32]⟩)++e.name)++⟨#[32]⟩)++Y):=zz (by unfold opX;rw [l1,l2,hX,hY])
  have HZ:X.size+1+e.name.size+1+Y.size≤100000000:=by
   rw [HQ.out,app_sz,app_sz,app_sz,app_sz] at hz;have q1:(⟨#[32]⟩:ByteArray).size=1:=rfl
   omega
  clear hz;clear l1 l2
 case' neg=>
  by_cases q2:e.name=⟨#[61,61]⟩
  case' pos=>
   have l1:leftX e.name=true:=by unfold leftX;simp [q2]
   have l2:decide (e.name≠⟨#[63]⟩)=true:=by simp [q1]
   have t1:(e.name.toList==[63])=false:=by have h:=str_ne q1;simpa using h
   have t2:(e.name.toList==[61,61])=true:=by have h:=congrArg ByteArray.toList q2;simpa using h
   clear q1 q2;obtain ⟨X,hX⟩:∃ X,opndX x (showX x) (bindsE e.name) true=X:=⟨_,rfl⟩;obtain ⟨Y,hY⟩:∃ Y,opndX y (showX y) (bindsE e.name) true=Y:=⟨_,rfl⟩;have HQ:Hid (opX e.name x y (showX x) (showX y)=(((X++⟨#[32]⟩)++e.name)++⟨#[32]⟩)++Y):=zz (by unfold opX;rw [l1,l2,hX,hY])
   have HZ:X.size+1+e.name.size+1+Y.size≤100000000:=by
    rw [HQ.out,app_sz,app_sz,app_sz,app_sz] at hz;have q1:(⟨#[32]⟩:ByteArray).size=1:=rfl
    omega
   clear hz;clear l1 l2
  case' neg=>
   by_cases q3:e.name=⟨#[60]⟩
   case' pos=>
    have l1:leftX e.name=true:=by unfold leftX;simp [q3]
    have l2:decide (e.name≠⟨#[63]⟩)=true:=by simp [q1]
    have t1:(e.name.toList==[63])=false:=by have h:=str_ne q1;simpa using h
    have t2:(e.name.toList==[61,61])=false:=by have h:=str_ne q2;simpa using h
    have t3:(e.name.toList==[60])=true:=by have h:=congrArg ByteArray.toList q3;simpa using h
    clear q1 q2 q3;obtain ⟨X,hX⟩:∃ X,opndX x (showX x) (bindsE e.name) true=X:=⟨_,rfl⟩;obtain ⟨Y,hY⟩:∃ Y,opndX y (showX y) (bindsE e.name) true=Y:=⟨_,rfl⟩;have HQ:Hid (opX e.name x y (showX x) (showX y)=(((X++⟨#[32]⟩)++e.name)++⟨#[32]⟩)++Y):=zz (by unfold opX;rw [l1,l2,hX,hY])
    have HZ:X.size+1+e.name.size+1+Y.size≤100000000:=by
     rw [HQ.out,app_sz,app_sz,app_sz,app_sz] at hz;have q1:(⟨#[32]⟩:ByteArray).size=1:=rfl
     omega
    clear hz;clear l1 l2
   case' neg=>
    have l1:leftX e.name=false:=by unfold leftX;simp [q1,q2,q3]
    have l2:decide (e.name≠⟨#[63]⟩)=true:=by simp [q1]
    have t1:(e.name.toList==[63])=false:=by have h:=str_ne q1;simpa using h
    have t2:(e.name.toList==[61,61])=false:=by have h:=str_ne q2;simpa using h
    have t3:(e.name.toList==[60])=false:=by have h:=str_ne q3;simpa using h
    clear q1 q2 q3;obtain ⟨X,hX⟩:∃ X,opndX x (showX x) (bindsE e.name) false=X:=⟨_,rfl⟩;obtain ⟨Y,hY⟩:∃ Y,opndX y (showX y) (bindsE e.name) true=Y:=⟨_,rfl⟩;have HQ:Hid (opX e.name x y (showX x) (showX y)=(((X++⟨#[32]⟩)++e.name)++⟨#[32]⟩)++Y):=zz (by unfold opX;rw [l1,l2,hX,hY])
    have HZ:X.size+1+e.name.size+1+Y.size≤100000000:=by
     rw [HQ.out,app_sz,app_sz,app_sz,app_sz] at hz;have q1:(⟨#[32]⟩:ByteArray).size=1:=rfl
     omega
    clear hz;clear l1 l2
 all_goals (
  have HF:Hid (FarB w.heap.size w.heap.size w w):=zz (FarB.refl _ _ _);go_enter Tryz.func78,Tryz.ntmps78
  go_wp2_with (fail)
  generalize ee:World.alloc w _=w1;have hsa1:=sizeA ee;replace HF:=fA HF ee;have HBr:=nB ee (w.heap.size);clear ee;have rc:=kc6 HBr;have hI:=i0_0 w w1;have hZ:=i01 w;refine (binds_any _ _).mono ?_;rintro _ _ ⟨rfl,rfl⟩;generalize hbk:bindsE e.name=bk at HQ HZ hX hY hb10;go_upto_region 3 with (fail);obtain ⟨bxe,oxe,axe,nxe,cxe,hexe,hixe,hcxe,hdxe,xe0,xe1,xe2,xe3,xe4,xe5,GXxe⟩:=one_at (HM.out.keep (refBelow HF.out)) (i:=0) (x:=x) (by rw [HA.out];rfl) (k:=0) rfl;subst hexe;simp only [Nat.add_zero] at xe0 xe1 xe2 xe3 xe4 xe5;obtain ⟨bye,oye,aye,nye,cye,heye,hiye,hcye,hdye,ye0,ye1,ye2,ye3,ye4,ye5,GXye⟩:=one_at (HM.out.keep (refBelow HF.out)) (i:=1) (x:=y) (by rw [HA.out];rfl) (k:=6) rfl;cases heye;clear rc;clear hI hZ;have rc:=kc6 HBr;have hI:=i0_0 w w1;have hZ:=i01 w;refine wp_region_held_drew (S:=fun w'=>Far (fun _=>False) (w1) w') (by kernel_rfl) (Far.of (below_drew _)) (fun hS20=>?_);refine takeA 0 (v:=?_) rfl ?_ ?_;rotate_left;· intros;go_simp;try rfl
  (try simp only [pu]);refine takeA 1 (v:=?_) rfl ?_ ?_;rotate_left;· intro w hSw;replace rc:=Far.c6z rc hSw (fun e=>e);go_simp;try rfl
  (try simp only [pu]);refine takeA 2 (v:=?_) rfl ?_ ?_;rotate_left;· intros;go_simp;try rfl
  (try simp only [pu]);refine takeA 3 (v:=?_) rfl ?_ ?_;rotate_left;· intro w hSw;replace xe0:=Far.cellZ xe0 hSw (fun e=>e);replace xe1:=Far.cellZ xe1 hSw (fun e=>e);replace xe2:=Far.cellZ xe2 hSw (fun e=>e);replace xe3:=Far.cellZ xe3 hSw (fun e=>e);replace xe4:=Far.cellZ xe4 hSw (fun e=>e);replace xe5:=Far.cellZ xe5 hSw (fun e=>e);go_simp;try rfl
  (try simp only [pu]);refine takeA 4 (v:=?_) rfl ?_ ?_;rotate_left;· intros;go_simp;try rfl
  (try simp only [pu]);refine takeA 5 (v:=?_) rfl ?_ ?_;rotate_left;· intros;go_simp;try rfl
  (try simp only [pu]);refine takeA 8 (v:=?_) rfl ?_ ?_;rotate_left;· intros;go_simp;try rfl
  (try simp only [pu]);refine takeA 9 (v:=?_) rfl ?_ ?_;rotate_left;· intro w hSw;replace rc:=Far.c6z rc hSw (fun e=>e);go_simp;try rfl
  (try simp only [pu]);refine takeA 12 (v:=?_) rfl ?_ ?_;rotate_left;· intros;go_simp;try rfl
  (try simp only [pu]);refine takeA 13 (v:=?_) rfl ?_ ?_;rotate_left;· intro w hSw;replace rc:=Far.c6z rc hSw (fun e=>e);go_simp;try rfl
  (try simp only [pu]);refine takeA 14 (v:=?_) rfl ?_ ?_;rotate_left;· intros;go_simp;try rfl
  (try simp only [pu]);refine takeA 15 (v:=?_) rfl ?_ ?_;rotate_left;· intro w hSw;replace ye0:=Far.cellZ ye0 hSw (fun e=>e);replace ye1:=Far.cellZ ye1 hSw (fun e=>e);replace ye2:=Far.cellZ ye2 hSw (fun e=>e);replace ye3:=Far.cellZ ye3 hSw (fun e=>e);replace ye4:=Far.cellZ ye4 hSw (fun e=>e);replace ye5:=Far.cellZ ye5 hSw (fun e=>e);go_simp;try rfl
  (try simp only [pu]);refine takeA 16 (v:=?_) rfl ?_ ?_;rotate_left;· intros;go_simp;try rfl
  (try simp only [pu]);refine takeA 17 (v:=?_) rfl ?_ ?_;rotate_left;· intros;go_simp;try rfl
  (try simp only [pu]);refine takeA 18 (v:=?_) rfl ?_ ?_;rotate_left;· intro w hSw;replace rc:=Far.c6z rc hSw (fun e=>e);go_simp;try rfl
  (try simp only [pu]);refine takeA 19 (v:=?_) rfl ?_ ?_;rotate_left;· intros;go_simp;try rfl
  (try simp only [pu]);clear xe0 xe1 xe2 xe3 xe4 xe5 ye0 ye1 ye2 ye3 ye4 ye5
  have iz1: ¬(9223372036854775807<X.size+1):=by omega
  have iz2: ¬(9223372036854775807<X.size+1+e.name.size):=by omega
  have iz3: ¬(9223372036854775807<X.size+1+e.name.size+1):=by omega
  have iz4: ¬(9223372036854775807<X.size+1+e.name.size+1+Y.size):=by omega
  refine callA 6 rfl fun K hK=>?_;go_simp;refine (operand_any (HSX.out) (HSZ.out.1) bk _ hb10 _ _ _ _ (MemW.keep (w:=w1) GXxe.out (below_drew _)) HNX.out).mono ?_;rintro e wx21 ⟨rfl,hb⟩;clear rc;clear hI hZ;have hbk:=hb;replace hb:=Below.one hb;replace HBr:=kB HBr hb;replace HF:=kF HF hb;have hs21:=hb.size;clear hb;rw [hX];go_simp;refine hK.out _ _ (Far.trans hS20 (Far.of hbk)) (fun hS21=>?_);clear hK K;refine takeA 7 (v:=?_) rfl ?_ ?_;rotate_left;· intros;go_simp;try rfl
  (try simp only [pu]);refine takeA 10 (v:=?_) rfl ?_ ?_;rotate_left;· intros;go_simp;try rfl
  (try simp only [pu]);refine takeA 11 (v:=?_) rfl ?_ ?_;rotate_left;· intros;go_simp;try rfl
  (try simp only [pu]);refine callA 20 rfl fun K hK=>?_;go_simp;refine (operand_any (HSY.out) (HSZ.out.2) bk _ hb10 _ _ _ _ (MemW.keep (w:=w1) GXye.out (Far.toB (Far.mono hS21 fun _ h=>h.elim) (Nat.le_refl _))) HNY.out).mono ?_;rintro e wx22 ⟨rfl,hb⟩;have hbk:=hb;replace HBr:=kB HBr hb;replace HF:=kF HF hb;have hs22:=hb.size;clear hb;rw [hY];go_simp;refine hK.out _ _ (Far.trans hS21 (Far.of hbk)) (fun hS22=>?_);clear hK K;refine takeA 21 (v:=?_) rfl ?_ ?_;rotate_left;· intros;go_simp;try rfl
  (try simp only [pu]);refine takeA 22 (v:=?_) rfl ?_ ?_;rotate_left;· intros;go_simp;try rfl
  (try simp only [pu]);refine wpAnyH_done (by kernel_rfl) ?_ _
  go_wp2_with (fail)
  go_ret
  exact ⟨congrArg (fun s=>Ending.returned (Value.string s)) HQ.out.symm,refBelow HF.out⟩)
theorem add_any {e:Ex} {L:List ByteArray} {lb base:Nat} {al:Option Addr} {ml cl:Nat} (hs:ShowsAt e) (hz:(showX e).size≤100000000) (a:Option Addr) (n c:Nat) (w:World) (hm:MemW w (.s 6 (Ex.rows e.args)) (.slice a n c)) (hnum:NumX e)
  (hBl:Bo w lb 37 #[.slice al ml cl]) (hOl:OwnD 0 base 9 1 w (.slice al ml cl) (L.map strRow)) (hlb:lb<base) (hbw:base≤w.heap.size) (hL:L.length≤100000000):
  Calls Tryz.prog 73 #[.agg #[.int .i64 e.kind,.string e.name,.int .i64 e.n,.slice a n c,.int .i64 e.line,.int .i64 e.col],.pointer (some ⟨lb,0,none⟩)] w fun e' w'=>e'=.returned (.tuple #[])∧∃ a' m' c',Far (fun b=>b=lb∨(Value.slice al ml cl).ownBlock=some b) w w'∧Bo w' lb 37 #[.slice a' m' c']∧OwnD 0 base 9 1 w' (.slice a' m' c') ((L++[atomX e (showX e)]).map strRow):=by
 have HM:=zz hm;have HN:=zz hnum;have HS:=zz hs;have HZ:=zz hz;have hBl:=zz hBl;have hOl:=zz hOl;clear hm hnum hs hz;obtain ⟨sx,hsx⟩:∃ s,atomX e (showX e)=s:=⟨_,rfl⟩;rw [hsx];have HF:Hid (FarB w.heap.size w.heap.size w w):=zz (FarB.refl _ _ _);go_enter Tryz.func73,Tryz.ntmps73
 go_wp2_with (fail)
 have HBl:Hid (Bo w lb 37 #[.slice al ml cl]):=hBl;have HOl:Hid (OwnD 0 base 9 1 w (.slice al ml cl) (L.map strRow)):=hOl;clear hBl hOl;have hlw:=HBl.out.lt;have hown:∀ k,(Value.slice al ml cl).ownBlock=some k→base≤k∧k<w.heap.size:=HOl.out.lt;generalize ee:World.alloc w _=w1;have hsa1:=sizeA ee;replace HF:=fA HF ee;replace HBl:=bA HBl ee;replace HOl:=oA HOl ee;have HBr:=nB ee (w.heap.size);clear ee;have lc:=kc1 HBl;have rc:=kc6 HBr;have hI:=iq_0_0 lb w w1;have hZ:=iq_01 lb w;have HB0:=zz (Far.of (S:=fun b=>b=lb∨(Value.slice al ml cl).ownBlock=some b) (refBelow HF.out));refine wp_region_held_drew (S:=fun w'=>Far (fun b=>b=lb∨(Value.slice al ml cl).ownBlock=some b) (w1) w') (by kernel_rfl) (Far.of (below_drew _)) (fun hS20=>?_);refine takeA 1 (v:=?_) rfl ?_ ?_;rotate_left;· intro w hSw;replace rc:=Far.c6z rc hSw (by intro e;rcases e with e | e;(· omega);(· have :=(hown _ e).2;omega));go_simp;try rfl
 (try simp only [pu]);clear lc rc;clear hI hZ;have HSf:Hid (Far (fun b=>b=lb∨(Value.slice al ml cl).ownBlock=some b) w1 (World.drew w1)):=zz (Far.of (below_drew _));have HMv:Hid (MemW (World.drew w1) (.s 6 (Ex.rows e.args)) (.slice a n c)):=zz (((HM.out.keep (refBelow HF.out))).keep (below_drew _));replace HBl:=zz (HBl.out.keep (below_drew w1));replace HOl:=zz (HOl.out.keep (below_drew w1));have hv0:w1.heap.size≤(World.drew w1).heap.size:=Nat.le_refl _;generalize World.drew w1=v0 at HSf HMv HBl HOl hv0 ⊢;clear HBr;refine twoL 0 2 rfl rfl (by kernel_rfl) (by rfl) (by rfl) (fun K hK=>?_) (fun K hK=>?_)
 focus
  have lc:=kc1 HBl;go_simp;refine hK.out _ _ HSf.out (fun _=>?_);clear hK K lc;refine callA 2 rfl fun K hK=>?_;go_simp;refine (atom_any HS.out HZ.out _ _ _ _ HMv.out HN.out).mono ?_;rintro e' v1 ⟨rfl,hb⟩;rw [hsx];replace HBl:=kB HBl hb;replace HOl:=kO HOl hb;replace HSf:=zz (Far.trans HSf.out (Far.of hb));have hv1:=hb.size;clear hb HMv;go_simp;refine hK.out _ _ HSf.out (fun _=>?_);clear hK K;refine callA 3 rfl fun K hK=>?_;go_simp;refine hK.out _ _ (Far.trans HSf.out (Far.of (below_new _ _))) (fun _=>?_);clear hK K;have HNEW:=zz (row_app (t:=9) (sz:=1) (r:=strRow sx) (cs:=#[.string sx]) HOl.out (by omega) (Nat.le_refl _) (.cons (.v _ rfl) .nil) rfl);replace HSf:=zz (Far.trans HSf.out (Far.of (below_new v1 (.cells #[.string sx] 9))));replace HBl:=zz (HBl.out.alloc (.cells #[.string sx] 9));replace HOl:=zz (HOl.out.alloc (.cells #[.string sx] 9));have hv2:(World.alloc v1 (.cells #[.string sx] 9)).heap.size=v1.heap.size+1:=World.size_alloc _ _;generalize World.alloc v1 (.cells #[.string sx] 9)=v2 at HNEW HSf HBl HOl hv2 ⊢
 rotate_left 1
 focus
  go_simp;refine (atom_any HS.out HZ.out _ _ _ _ HMv.out HN.out).mono ?_;rintro e' v1 ⟨rfl,hb⟩;rw [hsx];replace HBl:=kB HBl hb;replace HOl:=kO HOl hb;replace HSf:=zz (Far.trans HSf.out (Far.of hb));have hv1:=hb.size;clear hb HMv;go_simp;refine hK.out _ _ HSf.out (fun _=>?_);clear hK K;refine twoL 0 3 rfl rfl (by kernel_rfl) (by rfl) (by rfl) (fun K hK=>?_) (fun K hK=>?_)
  focus
   have lc:=kc1 HBl;go_simp;refine hK.out _ _ HSf.out (fun _=>?_);clear hK K lc;refine callA 3 rfl fun K hK=>?_;go_simp;refine hK.out _ _ (Far.trans HSf.out (Far.of (below_new _ _))) (fun _=>?_);clear hK K;have HNEW:=zz (row_app (t:=9) (sz:=1) (r:=strRow sx) (cs:=#[.string sx]) HOl.out (by omega) (Nat.le_refl _) (.cons (.v _ rfl) .nil) rfl);replace HSf:=zz (Far.trans HSf.out (Far.of (below_new v1 (.cells #[.string sx] 9))));replace HBl:=zz (HBl.out.alloc (.cells #[.string sx] 9));replace HOl:=zz (HOl.out.alloc (.cells #[.string sx] 9));have hv2:(World.alloc v1 (.cells #[.string sx] 9)).heap.size=v1.heap.size+1:=World.size_alloc _ _;generalize World.alloc v1 (.cells #[.string sx] 9)=v2 at HNEW HSf HBl HOl hv2 ⊢
  rotate_left 1
  focus
   go_simp;refine hK.out _ _ (Far.trans HSf.out (Far.of (below_new _ _))) (fun _=>?_);clear hK K;have HNEW:=zz (row_app (t:=9) (sz:=1) (r:=strRow sx) (cs:=#[.string sx]) HOl.out (by omega) (Nat.le_refl _) (.cons (.v _ rfl) .nil) rfl);replace HSf:=zz (Far.trans HSf.out (Far.of (below_new v1 (.cells #[.string sx] 9))));replace HBl:=zz (HBl.out.alloc (.cells #[.string sx] 9));replace HOl:=zz (HOl.out.alloc (.cells #[.string sx] 9));have hv2:(World.alloc v1 (.cells #[.string sx] 9)).heap.size=v1.heap.size+1:=World.size_alloc _ _;generalize World.alloc v1 (.cells #[.string sx] 9)=v2 at HNEW HSf HBl HOl hv2 ⊢;refine callA 0 rfl fun K hK=>?_;have lc:=kc1 HBl;go_simp;refine hK.out _ _ HSf.out (fun _=>?_);clear hK K lc
 all_goals (
  have hw2:w.heap.size≤v2.heap.size:=by omega
  refine callA 4 rfl fun K hK=>?_;refine wp_append_D2 _ _ (by rfl) Tryz.underlying37 info_strX rfl (by decide) (by rfl) (by rfl) HOl.out HNEW.out (by simp only [List.length_map,List.length_cons,List.length_nil];omega) (by simp only [List.length_map,List.length_cons,List.length_nil];omega) (by omega) (fun v9 w9 ho hg=>?_);obtain ⟨a9,m9,c9,rfl⟩:=mem_slice ho.mem
  have hown2:∀ k,(Value.slice al ml cl).ownBlock=some k→base≤k:=fun k hk=>(HOl.out.lt k hk).1
  replace HSf:=zz (Far.trans HSf.out ((grownFar hg).mono (fun b e=>.inr e)));refine hK.out _ _ HSf.out (fun _=>?_);clear hK K
  replace HBl:=zz (HBl.out.grown hg fun k hk=>by have :=hown2 k hk;omega)
  have HO9:Hid (OwnD 0 base 9 1 w9 (.slice a9 m9 c9) ((L++[sx]).map strRow)):=zz (by rw [List.map_append];exact ho);clear ho hg HOl HNEW;have lc:=kc1 HBl;refine callA 5 rfl fun K hK=>?_;go_simp;replace HSf:=zz (Far.setCell HSf.out (p:=⟨lb,0,none⟩) (.inl rfl) (.slice a9 m9 c9));refine hK.out _ _ HSf.out (fun _=>?_);clear hK K;refine wpAnyH_done (by kernel_rfl) ?_ _
  go_wp2_with (fail)
  go_end0
  refine ⟨rfl,a9,m9,c9,Far.trans HB0.out HSf.out,HBl.out.set 0 _,HO9.out.setB (by omega) 0 _⟩)
end
section
open Go.RowKit
attribute [local go_sem] toList_beq
theorem Bo.farZ {w w':World} {q:Nat} {t:TypeId} {cs:Array Value} {Z:Nat→Prop} (h:Bo w q t cs) (hf:Far Z w w') (hz: ¬Z q):Bo w' q t cs:=(hf.block q h.lt hz).trans h
theorem join_size (xs:List ByteArray) (sep:ByteArray):(∀ x∈xs,x.size≤(joinB xs sep).size)∧(sep.size=1→xs.length≤(joinB xs sep).size+1)∧(Lib.join (xs.map (·.data.toList)) sep.data.toList).length=(joinB xs sep).size:=by
  have e:(Lib.join (xs.map (·.data.toList)) sep.data.toList).length=(joinB xs sep).size:=by rw [←length_data];rfl
  refine ⟨?_,?_,e⟩
  · intro x hx
    rw [←e]
    cases xs with
    | nil=>cases hx
    | cons y r =>
      rw [List.map_cons,Lib.join_cons,List.length_append,Lib.joinTail_length]
      rcases List.mem_cons.1 hx with rfl | hx
      · rw [length_data];omega
      · have :x.size≤Lib.lens (r.map (·.data.toList)):=by
          clear e
          induction r with
          | nil=>cases hx
          | cons z r ih =>
            simp only [Lib.lens,List.map_cons,List.sum_cons] at ih ⊢
            rcases List.mem_cons.1 hx with rfl | hx
            · rw [length_data];omega
            · have :=ih (by simp [hx]) hx;omega
        omega
  · intro hs
    have hsl:sep.data.toList.length=1:=by rw [length_data,hs]
    rw [←e]
    cases xs with
    | nil=>simp
    | cons y r =>
      rw [List.map_cons,Lib.join_cons,List.length_append,Lib.joinTail_length,hsl,length_data,List.length_map,List.length_cons]
      omega
theorem own_strsX {base:Nat} {w:World} {a:Option Addr} {m c:Nat} {L:List ByteArray} (h:OwnD 0 base 9 1 w (.slice a m c) (L.map strRow)) (hn:L≠[]):
    ∃ bk,a=some ⟨bk,0,none⟩∧m=L.length∧L.length≤c∧bk<w.heap.size∧∀ (j:Nat) x,L[j]?=some x→w.cell? ⟨bk,0+j,none⟩=some (.string x):=by
  obtain ⟨a',cap,e1,e2,e3⟩:=h.form;cases e1;rw [List.length_map] at e2;have hl:0<L.length:=List.length_pos_iff.2 hn;obtain ⟨bk,o,ha,_,_,cs,_,_⟩:=Mem.at h.mem 0 (by simpa using hl)
  obtain ⟨g,hg,_,hlt⟩:∃ g,a=some ⟨g,0,none⟩∧base≤g∧g<w.heap.size:=by
    obtain ⟨css,h1,_⟩:=h
    rcases h1.2 with ⟨hn0,hn1⟩ | ⟨g,cap,cur,he,hb,hgg,_⟩
    · rw [List.length_map] at hn1;omega
    · cases he;exact ⟨g,rfl,hb,(Array.getElem?_eq_some_iff.1 hgg).1⟩
  subst hg;refine ⟨g,rfl,by rw [List.length_map],e2,hlt,fun j x hx=>?_⟩;have hj:=(List.getElem?_eq_some_iff.1 hx);obtain ⟨b2,o2,ha2,_,_,cs2,hm2,hc2⟩:=Mem.at h.mem j (by rw [List.length_map];exact hj.1);cases ha2;rw [List.getElem_map,hj.2] at hm2
  cases hm2 with
  | cons hv ht =>
    cases ht;have :=hc2 0 (by simp);cases hv
    simpa using this
theorem zip_map (l:List Ex):List.zipWith atomX l (l.map showX)=l.map fun x=>atomX x (showX x):=by
  induction l with
  | nil=>rfl
  | cons x l ih=>rw [List.map_cons,List.zipWith_cons_cons,ih];rfl
theorem expr_of {e:Ex} (hs:∀ x∈e.args,ShowsAt x):ShowsAt e:=by
 intro a n c w hm hnum hz;have HM:=zz hm;have HN:=zz hnum;have HZ:=zz hz;have HSS:=zz hs
 have hln:e.args.length=n:=by have h:=hm.len.1;rw [Ex.rows_len] at h;exact h
 have hcap:n≤c∧c≤9223372036854775807:=hm.len.2;clear hm hnum hz hs
 by_cases h4:e.kind=4∧e.args≠[]
 ·
  have HF:Hid (FarB w.heap.size w.heap.size w w):=zz (FarB.refl _ _ _);obtain ⟨ats,hats⟩:∃ l,(e.args.map fun x=>atomX x (showX x))=l:=⟨_,rfl⟩;have HQ:Hid (showX e=joinB ats ⟨#[32]⟩):=zz (by rw [showX_eq];unfold formX;rw [if_pos h4,zip_map,hats])
  have hal:ats.length=n:=by rw [←hats,List.length_map];exact hln
  have hsz:(joinB ats ⟨#[32]⟩).size≤100000000:=by rw [←HQ.out];exact HZ.out
  have hj:=join_size ats ⟨#[32]⟩;have HJ:=zz hj
  have hnb:n≤100000001:=by have :=hj.2.1 rfl;omega
  have e4:(e.kind==4)=true:=by simp [h4.1]
  have hn0:0<n:=by have :=List.length_pos_iff.2 h4.2;omega
  have hn1:(0:Int)<(n:Int):=by omega
  have HATS:=zz hats;have HAL:=zz hal;have HLN:=zz hln;clear hj hats hal hln h4;go_enter Tryz.func44,Tryz.ntmps44
  go_wp2_with (fail)
  generalize ee:World.alloc w _=w1_1;have hq1:=sizeA ee;replace HF:=fA HF ee;have HBr:=nB ee (w.heap.size);clear ee;generalize ee:World.alloc w1_1 _=w1;have hq2:=sizeA ee;replace HF:=fA HF ee;replace HBr:=bA HBr ee;have HBl:=nB ee (w.heap.size+1);clear ee
  have hsa1:w1.heap.size=w.heap.size+2:=by omega
  clear hq1 hq2;have rc:=kc6 HBr;have lc:=kc1 HBl;have hI:=i01_0 w w1;have hZ:=i012 w
  go_loopw [20] (fun i wr=>∃ (k:Nat) (al:Option Addr) (ml cl:Nat),k≤n∧i=.int .i64 k∧Hid (FarB w.heap.size w.heap.size w wr)∧Hid (Bo wr w.heap.size 60 #[.int .i64 e.kind,.string e.name,.int .i64 e.n,.slice a n c,.int .i64 e.line,.int .i64 e.col])∧Hid (Bo wr (w.heap.size+1) 37 #[.slice al ml cl])∧Hid (OwnD 0 (w.heap.size+2) 9 1 wr (.slice al ml cl) ((ats.take k).map strRow))∧w.heap.size+2≤wr.heap.size) (fun i _=>n - (intOf i).toNat)
  case atStart=>exact ⟨0,none,0,0,Nat.zero_le _,rfl,HF,HBr,HBl,zz (by rw [List.take_zero];exact OwnD.nil _ _ _ _ _),by omega⟩
  case round=>
   clear HF HBr HBl;obtain ⟨k,al,ml,cl,hk,rfl,HF,HBr,HBl,HOl,hws⟩:=hrel;have rc:=kc6 HBr;have lc:=kc1 HBl;have hI:=i01_0 w wr
   by_cases hlt:k<n
   rotate_left
   ·
    have hkn:k=n:=by omega
    subst hkn
    have hna:ats≠[]:=by intro e1;have :=HAL.out;rw [e1] at this;simp at this;omega
    replace HOl:Hid (OwnD 0 (w.heap.size+2) 9 1 wr (.slice al ml cl) (ats.map strRow)):=zz (by have h:=HOl.out;rw [List.take_of_length_le (by rw [HAL.out];exact Nat.le_refl _)] at h;exact h)
    obtain ⟨bk,rfl,hml,hcl,hbk,hcells⟩:=own_strsX HOl.out hna;subst hml;have HC:=zz hcells;have hcl2:=hcl;clear hcells hna
    go_wp2_with (fail)
    clear rc lc;refine (join_any bk 0 cl ats ⟨#[32]⟩ _ HC.out hbk (by rw [HAL.out];omega) hcl2 (by rw [HJ.out.2.2];omega)).mono ?_;rintro _ w2 ⟨rfl,hb⟩;replace HBr:=kB HBr hb;replace HBl:=kB HBl hb;replace HOl:=kO HOl hb;replace HF:=kF HF hb;have hs2:=hb.size;clear hb
    go_wp2_with (fail)
    go_ret;exact ⟨congrArg (fun s=>Ending.returned (Value.string s)) HQ.out.symm,refBelow HF.out⟩
   obtain ⟨x,hx⟩:∃ x,e.args[k]?=some x:=⟨_,List.getElem?_eq_getElem (by rw [HLN.out];exact hlt)⟩;have hxm:x∈e.args:=List.mem_of_getElem? hx
   have hax:ats[k]?=some (atomX x (showX x)):=by rw [←HATS.out,List.getElem?_map,hx];rfl
   have hsx:(showX x).size≤100000000:=Nat.le_trans (atom_size x _) (Nat.le_trans (HJ.out.1 _ (List.mem_of_getElem? hax)) hsz);have HSX:=zz hsx;have HAX:=zz hax;have HXM:=zz hxm;obtain ⟨b,o,ax,nx,cx,hb0,hi0,_,_,x0,x1,x2,x3,x4,x5,GX⟩:=one_at (HM.out.keep (refBelow HF.out)) (i:=k) hx (k:=k * 6) rfl;subst hb0;clear hx hxm hax hsx
   go_wp2_with (fail)
   have GXM:=zz (MemW.keep (w:=wr) GX.out (below_new wr (.cells #[.int .i64 x.kind,.string x.name,.int .i64 x.n,.slice ax nx cx,.int .i64 x.line,.int .i64 x.col] 60)));clear rc lc;generalize ee:(wr.alloc (.cells #[.int .i64 x.kind,.string x.name,.int .i64 x.n,.slice ax nx cx,.int .i64 x.line,.int .i64 x.col] 60))=w2 at *;have hsa2:=sizeA ee;replace HF:=fA HF ee;replace HBr:=bA HBr ee;replace HBl:=bA HBl ee;replace HOl:=oA HOl ee;have HBt:=nB ee (wr.heap.size);clear ee;clear hI;have rc:=kc6 HBr;have lc:=kc1 HBl;have tc:=kc6 HBt;have hI:=i01_0_0 w wr w2;have hZ:=i01_01 w wr;clear x0 x1 x2 x3 x4 x5;clear rc lc tc;refine (add_any (L:=ats.take k) (lb:=w.heap.size+1) (base:=w.heap.size+2) (HSS.out x HXM.out) HSX.out _ _ _ _ (GXM.out) (HN.out.parts.2 x HXM.out) HBl.out HOl.out (by omega) (by omega) (by rw [List.length_take];omega)).mono ?_;rintro _ w3 ⟨rfl,a2,m2,c2,hf,hb2,ho2⟩
   have hown:∀ k,(Value.slice al ml cl).ownBlock=some k→w.heap.size+2≤k:=fun k hk=>(HOl.out.lt k hk).1
   have hsw3:=hf.size
   replace HBr:Hid (Bo w3 w.heap.size 60 #[.int .i64 e.kind,.string e.name,.int .i64 e.n,.slice (some ⟨b,o,none⟩) n c,.int .i64 e.line,.int .i64 e.col]):=zz (HBr.out.farZ hf (by intro e;rcases e with e | e;(· omega);(· have :=hown _ e;omega)))
   replace HF:=zz (Far.trans HF.out (Far.mono hf fun b e=>.inr (by rcases e with e | e;(· omega);(· have :=hown _ e;omega))))
   replace HBl:=zz hb2;have hax:=HAX.out
   have hkl:k<ats.length:=by rw [HAL.out];exact hlt
   replace HOl:Hid (OwnD 0 (w.heap.size+2) 9 1 w3 (.slice a2 m2 c2) ((ats.take (k+1)).map strRow)):=zz (by rw [take_at hax];exact ho2);clear hf hb2 ho2 hown hax HBt;have rc:=kc6 HBr;have lc:=kc1 HBl;have hI:=i01_0 w w3
   go_wp2_with (fail)
   clear rc lc
   go_roundw
   case rel=>exact ⟨k+1,a2,m2,c2,by omega,by go_num,HF,HBr,HBl,HOl,by omega⟩
   case measure=>simp [intOf];omega
 by_cases hp:partsX e.kind≠(e.args.length:Int)
 ·
  by_cases h44:e.kind=4
  ·
   have HF:Hid (FarB w.heap.size w.heap.size w w):=zz (FarB.refl _ _ _)
   have e4:(e.kind==4)=true:=by simp [h44]
   have hn0:n=0:=by by_cases h:e.args=[];(· rw [h] at hln;exact hln.symm);(· exact absurd ⟨h44,h⟩ h4)
   have hn1: ¬((0:Int)<(n:Int)):=by omega
   clear h44
   have hpk:(partsX e.kind != (n:Int))=true:=by rw [bne_iff_ne];intro h;exact hp (by rw [h,hln])
   have HQ:Hid (showX e=⟨#[63]⟩):=zz (by rw [showX_eq];unfold formX;rw [if_neg h4,if_pos hp]);clear hp hln h4;go_enter Tryz.func44,Tryz.ntmps44;go_upto_region 10 with (fail);generalize ee:World.alloc w _=w1;have hsa1:=sizeA ee;replace HF:=fA HF ee;have HBr:=nB ee (w.heap.size);clear ee;have rc:=kc6 HBr;have hI:=i0_0 w w1;have hZ:=i01 w;refine wp_region_held_drew (S:=fun w'=>Far (fun _=>False) (w1) w') (by kernel_rfl) (Far.of (below_drew _)) (fun hS20=>?_);refine takeA 0 (v:=?_) rfl ?_ ?_;rotate_left;· intro w hSw;replace rc:=Far.c6z rc hSw (fun e=>e);go_simp;try rfl
   (try simp only [pu]);refine takeA 1 (v:=?_) rfl ?_ ?_;rotate_left;· intro w hSw;replace rc:=Far.c6z rc hSw (fun e=>e);go_simp;try rfl
   (try simp only [pu]);refine takeA 3 (v:=?_) rfl ?_ ?_;rotate_left;· intro w hSw;replace rc:=Far.c6z rc hSw (fun e=>e);go_simp;try rfl
   (try simp only [pu]);refine takeA 4 (v:=?_) rfl ?_ ?_;rotate_left;· intro w hSw;replace rc:=Far.c6z rc hSw (fun e=>e);go_simp;try rfl
   (try simp only [pu]);refine takeA 5 (v:=?_) rfl ?_ ?_;rotate_left;· intro w hSw;replace rc:=Far.c6z rc hSw (fun e=>e);go_simp;try rfl
   (try simp only [pu]);refine callA 2 rfl fun K hK=>?_;go_simp;refine (parts_any _ _).mono ?_;rintro e wx21 ⟨rfl,rfl⟩;go_simp;refine hK.out _ _ (Far.trans hS20 (Far.refl _ _)) (fun hS21=>?_);clear hK K;refine takeA 6 (v:=?_) rfl ?_ ?_;rotate_left;· intros;go_simp;try rfl
   (try simp only [pu]);refine wpAnyH_done (by kernel_rfl) ?_ _;clear rc;clear hI hZ;replace HBr:=zz (HBr.out.keep (below_drew w1));replace HF:=zz (HF.out.below (below_drew w1));have hsdw2:(World.drew w1).heap.size=w1.heap.size:=rfl;generalize World.drew w1=w2 at HBr HF hsdw2 ⊢;have rc:=kc6 HBr;have hI:=i0_0 w w2
   go_wp2_with (fail)
   clear rc;go_ret;exact ⟨congrArg (fun s=>Ending.returned (Value.string s)) HQ.out.symm,refBelow HF.out⟩
  have HF:Hid (FarB w.heap.size w.heap.size w w):=zz (FarB.refl _ _ _)
  have e4:(e.kind==4)=false:=by simp [h44]
  clear h44
  have hpk:(partsX e.kind != (n:Int))=true:=by rw [bne_iff_ne];intro h;exact hp (by rw [h,hln])
  have HQ:Hid (showX e=⟨#[63]⟩):=zz (by rw [showX_eq];unfold formX;rw [if_neg h4,if_pos hp]);clear hp hln h4;go_enter Tryz.func44,Tryz.ntmps44;go_upto_region 10 with (fail);generalize ee:World.alloc w _=w1;have hsa1:=sizeA ee;replace HF:=fA HF ee;have HBr:=nB ee (w.heap.size);clear ee;have rc:=kc6 HBr;have hI:=i0_0 w w1;have hZ:=i01 w;refine wp_region_held_drew (S:=fun w'=>Far (fun _=>False) (w1) w') (by kernel_rfl) (Far.of (below_drew _)) (fun hS20=>?_);refine takeA 0 (v:=?_) rfl ?_ ?_;rotate_left;· intro w hSw;replace rc:=Far.c6z rc hSw (fun e=>e);go_simp;try rfl
  (try simp only [pu]);refine takeA 1 (v:=?_) rfl ?_ ?_;rotate_left;· intro w hSw;replace rc:=Far.c6z rc hSw (fun e=>e);go_simp;try rfl
  (try simp only [pu]);refine takeA 3 (v:=?_) rfl ?_ ?_;rotate_left;· intro w hSw;replace rc:=Far.c6z rc hSw (fun e=>e);go_simp;try rfl
  (try simp only [pu]);refine takeA 4 (v:=?_) rfl ?_ ?_;rotate_left;· intro w hSw;replace rc:=Far.c6z rc hSw (fun e=>e);go_simp;try rfl
  (try simp only [pu]);refine takeA 5 (v:=?_) rfl ?_ ?_;rotate_left;· intro w hSw;replace rc:=Far.c6z rc hSw (fun e=>e);go_simp;try rfl
  (try simp only [pu]);refine callA 2 rfl fun K hK=>?_;go_simp;refine (parts_any _ _).mono ?_;rintro e wx21 ⟨rfl,rfl⟩;go_simp;refine hK.out _ _ (Far.trans hS20 (Far.refl _ _)) (fun hS21=>?_);clear hK K;refine takeA 6 (v:=?_) rfl ?_ ?_;rotate_left;· intros;go_simp;try rfl
  (try simp only [pu]);refine wpAnyH_done (by kernel_rfl) ?_ _;clear rc;clear hI hZ;replace HBr:=zz (HBr.out.keep (below_drew w1));replace HF:=zz (HF.out.below (below_drew w1));have hsdw2:(World.drew w1).heap.size=w1.heap.size:=rfl;generalize World.drew w1=w2 at HBr HF hsdw2 ⊢;have rc:=kc6 HBr;have hI:=i0_0 w w2
  go_wp2_with (fail)
  clear rc;go_ret;exact ⟨congrArg (fun s=>Ending.returned (Value.string s)) HQ.out.symm,refBelow HF.out⟩
 replace hp:partsX e.kind=(e.args.length:Int):=by omega
 have hkk:(e.kind=1∨e.kind=2∨e.kind=3∨e.kind=9)∨e.kind=8∨(e.kind=5∨e.kind=7)∨e.kind=6:=by
  unfold partsX at hp
  repeat' split at hp
  all_goals omega
 have hpp:=hp;unfold partsX at hpp
 rcases hkk with (hk | hk | hk | hk) | hk | (hk | hk) | hk
 ·
  have hpp2:(e.args.length:Int)=partsX 1:=by rw [←hk];exact hp.symm
  have hpv:partsX 1=0:=rfl;clear hpp;have HF:Hid (FarB w.heap.size w.heap.size w w):=zz (FarB.refl _ _ _)
  have hpk:(partsX e.kind != (n:Int))=false:=by rw [hp,hln];simp
  have e4:(e.kind==4)=false:=by simp [hk]
  have e1:(e.kind==1)=true:=by simp [hk]
  have HQ:Hid (showX e=e.name):=zz (by rw [showX_eq];unfold formX;rw [if_neg h4,if_neg (by rw [hp];simp),if_pos (by omega)]);clear hp hln h4 hk;go_enter Tryz.func44,Tryz.ntmps44;go_upto_region 10 with (fail);generalize ee:World.alloc w _=w1;have hsa1:=sizeA ee;replace HF:=fA HF ee;have HBr:=nB ee (w.heap.size);clear ee;have rc:=kc6 HBr;have hI:=i0_0 w w1;have hZ:=i01 w;refine wp_region_held_drew (S:=fun w'=>Far (fun _=>False) (w1) w') (by kernel_rfl) (Far.of (below_drew _)) (fun hS20=>?_);refine takeA 0 (v:=?_) rfl ?_ ?_;rotate_left;· intro w hSw;replace rc:=Far.c6z rc hSw (fun e=>e);go_simp;try rfl
  (try simp only [pu]);refine takeA 1 (v:=?_) rfl ?_ ?_;rotate_left;· intro w hSw;replace rc:=Far.c6z rc hSw (fun e=>e);go_simp;try rfl
  (try simp only [pu]);refine takeA 3 (v:=?_) rfl ?_ ?_;rotate_left;· intro w hSw;replace rc:=Far.c6z rc hSw (fun e=>e);go_simp;try rfl
  (try simp only [pu]);refine takeA 4 (v:=?_) rfl ?_ ?_;rotate_left;· intro w hSw;replace rc:=Far.c6z rc hSw (fun e=>e);go_simp;try rfl
  (try simp only [pu]);refine takeA 5 (v:=?_) rfl ?_ ?_;rotate_left;· intro w hSw;replace rc:=Far.c6z rc hSw (fun e=>e);go_simp;try rfl
  (try simp only [pu]);refine callA 2 rfl fun K hK=>?_;go_simp;refine (parts_any _ _).mono ?_;rintro e wx21 ⟨rfl,rfl⟩;go_simp;refine hK.out _ _ (Far.trans hS20 (Far.refl _ _)) (fun hS21=>?_);clear hK K;refine takeA 6 (v:=?_) rfl ?_ ?_;rotate_left;· intros;go_simp;try rfl
  (try simp only [pu]);refine wpAnyH_done (by kernel_rfl) ?_ _;clear rc;clear hI hZ;replace HBr:=zz (HBr.out.keep (below_drew w1));replace HF:=zz (HF.out.below (below_drew w1));have hsdw2:(World.drew w1).heap.size=w1.heap.size:=rfl;generalize World.drew w1=w2 at HBr HF hsdw2 ⊢;have rc:=kc6 HBr;have hI:=i0_0 w w2
  go_wp2_with (fail)
  clear rc;go_ret;exact ⟨congrArg (fun s=>Ending.returned (Value.string s)) HQ.out.symm,refBelow HF.out⟩
 ·
  have hpp2:(e.args.length:Int)=partsX 2:=by rw [←hk];exact hp.symm
  have hpv:partsX 2=0:=rfl;clear hpp;have HF:Hid (FarB w.heap.size w.heap.size w w):=zz (FarB.refl _ _ _)
  have hpk:(partsX e.kind != (n:Int))=false:=by rw [hp,hln];simp
  have e4:(e.kind==4)=false:=by simp [hk]
  have e1:(e.kind==1)=false:=by simp [hk]
  have e2:(e.kind==2)=true:=by simp [hk]
  have HQ:Hid (showX e=e.name):=zz (by rw [showX_eq];unfold formX;rw [if_neg h4,if_neg (by rw [hp];simp),if_pos (by omega)]);clear hp hln h4 hk;go_enter Tryz.func44,Tryz.ntmps44;go_upto_region 10 with (fail);generalize ee:World.alloc w _=w1;have hsa1:=sizeA ee;replace HF:=fA HF ee;have HBr:=nB ee (w.heap.size);clear ee;have rc:=kc6 HBr;have hI:=i0_0 w w1;have hZ:=i01 w;refine wp_region_held_drew (S:=fun w'=>Far (fun _=>False) (w1) w') (by kernel_rfl) (Far.of (below_drew _)) (fun hS20=>?_);refine takeA 0 (v:=?_) rfl ?_ ?_;rotate_left;· intro w hSw;replace rc:=Far.c6z rc hSw (fun e=>e);go_simp;try rfl
  (try simp only [pu]);refine takeA 1 (v:=?_) rfl ?_ ?_;rotate_left;· intro w hSw;replace rc:=Far.c6z rc hSw (fun e=>e);go_simp;try rfl
  (try simp only [pu]);refine takeA 3 (v:=?_) rfl ?_ ?_;rotate_left;· intro w hSw;replace rc:=Far.c6z rc hSw (fun e=>e);go_simp;try rfl
  (try simp only [pu]);refine takeA 4 (v:=?_) rfl ?_ ?_;rotate_left;· intro w hSw;replace rc:=Far.c6z rc hSw (fun e=>e);go_simp;try rfl
  (try simp only [pu]);refine takeA 5 (v:=?_) rfl ?_ ?_;rotate_left;· intro w hSw;replace rc:=Far.c6z rc hSw (fun e=>e);go_simp;try rfl
  (try simp only [pu]);refine callA 2 rfl fun K hK=>?_;go_simp;refine (parts_any _ _).mono ?_;rintro e wx21 ⟨rfl,rfl⟩;go_simp;refine hK.out _ _ (Far.trans hS20 (Far.refl _ _)) (fun hS21=>?_);clear hK K;refine takeA 6 (v:=?_) rfl ?_ ?_;rotate_left;· intros;go_simp;try rfl
  (try simp only [pu]);refine wpAnyH_done (by kernel_rfl) ?_ _;clear rc;clear hI hZ;replace HBr:=zz (HBr.out.keep (below_drew w1));replace HF:=zz (HF.out.below (below_drew w1));have hsdw2:(World.drew w1).heap.size=w1.heap.size:=rfl;generalize World.drew w1=w2 at HBr HF hsdw2 ⊢;have rc:=kc6 HBr;have hI:=i0_0 w w2
  go_wp2_with (fail)
  clear rc;go_ret;exact ⟨congrArg (fun s=>Ending.returned (Value.string s)) HQ.out.symm,refBelow HF.out⟩
 ·
  have hpp2:(e.args.length:Int)=partsX 3:=by rw [←hk];exact hp.symm
  have hpv:partsX 3=0:=rfl;clear hpp;have HF:Hid (FarB w.heap.size w.heap.size w w):=zz (FarB.refl _ _ _)
  have hpk:(partsX e.kind != (n:Int))=false:=by rw [hp,hln];simp
  have e4:(e.kind==4)=false:=by simp [hk]
  have e1:(e.kind==1)=false:=by simp [hk]
  have e2:(e.kind==2)=false:=by simp [hk]
  have e3:(e.kind==3)=true:=by simp [hk]
  have HNN:=zz HN.out.parts.1;have HQ:Hid (showX e=⟨(digs e.n).toArray⟩):=zz (by rw [showX_eq];unfold formX;rw [if_neg h4,if_neg (by rw [hp];simp),if_neg (by omega),if_pos hk]);clear hp hln h4 hk;go_enter Tryz.func44,Tryz.ntmps44;go_upto_region 10 with (fail);generalize ee:World.alloc w _=w1;have hsa1:=sizeA ee;replace HF:=fA HF ee;have HBr:=nB ee (w.heap.size);clear ee;have rc:=kc6 HBr;have hI:=i0_0 w w1;have hZ:=i01 w;refine wp_region_held_drew (S:=fun w'=>Far (fun _=>False) (w1) w') (by kernel_rfl) (Far.of (below_drew _)) (fun hS20=>?_);refine takeA 0 (v:=?_) rfl ?_ ?_;rotate_left;· intro w hSw;replace rc:=Far.c6z rc hSw (fun e=>e);go_simp;try rfl
  (try simp only [pu]);refine takeA 1 (v:=?_) rfl ?_ ?_;rotate_left;· intro w hSw;replace rc:=Far.c6z rc hSw (fun e=>e);go_simp;try rfl
  (try simp only [pu]);refine takeA 3 (v:=?_) rfl ?_ ?_;rotate_left;· intro w hSw;replace rc:=Far.c6z rc hSw (fun e=>e);go_simp;try rfl
  (try simp only [pu]);refine takeA 4 (v:=?_) rfl ?_ ?_;rotate_left;· intro w hSw;replace rc:=Far.c6z rc hSw (fun e=>e);go_simp;try rfl
  (try simp only [pu]);refine takeA 5 (v:=?_) rfl ?_ ?_;rotate_left;· intro w hSw;replace rc:=Far.c6z rc hSw (fun e=>e);go_simp;try rfl
  (try simp only [pu]);refine callA 2 rfl fun K hK=>?_;go_simp;refine (parts_any _ _).mono ?_;rintro e wx21 ⟨rfl,rfl⟩;go_simp;refine hK.out _ _ (Far.trans hS20 (Far.refl _ _)) (fun hS21=>?_);clear hK K;refine takeA 6 (v:=?_) rfl ?_ ?_;rotate_left;· intros;go_simp;try rfl
  (try simp only [pu]);refine wpAnyH_done (by kernel_rfl) ?_ _;clear rc;clear hI hZ;replace HBr:=zz (HBr.out.keep (below_drew w1));replace HF:=zz (HF.out.below (below_drew w1));have hsdw2:(World.drew w1).heap.size=w1.heap.size:=rfl;generalize World.drew w1=w2 at HBr HF hsdw2 ⊢;have rc:=kc6 HBr;have hI:=i0_0 w w2
  go_wp2_with (fail)
  clear rc;refine (Digits_any _ _ HNN.out.1 HNN.out.2).mono ?_;rintro _ w3 ⟨rfl,hb⟩;replace HBr:=kB HBr hb;replace HF:=kF HF hb;have hs3:=hb.size;clear hb;clear hI;have rc:=kc6 HBr;have hI:=i0_0 w w3
  go_wp2_with (fail)
  clear rc;go_ret;exact ⟨congrArg (fun s=>Ending.returned (Value.string s)) HQ.out.symm,refBelow HF.out⟩
 ·
  have hpp2:(e.args.length:Int)=partsX 9:=by rw [←hk];exact hp.symm
  have hpv:partsX 9=0:=rfl;clear hpp;have HF:Hid (FarB w.heap.size w.heap.size w w):=zz (FarB.refl _ _ _)
  have hpk:(partsX e.kind != (n:Int))=false:=by rw [hp,hln];simp
  have e4:(e.kind==4)=false:=by simp [hk]
  have e1:(e.kind==1)=false:=by simp [hk]
  have e2:(e.kind==2)=false:=by simp [hk]
  have e3:(e.kind==3)=false:=by simp [hk]
  have e5:(e.kind==5)=false:=by simp [hk]
  have e6:(e.kind==6)=false:=by simp [hk]
  have e7:(e.kind==7)=false:=by simp [hk]
  have e8:(e.kind==8)=false:=by simp [hk]
  have HQ:Hid (showX e=⟨#[95]⟩):=zz (by rw [showX_eq];unfold formX;rw [if_neg h4,if_neg (by rw [hp];simp),if_neg (by omega),if_neg (by omega),if_neg (by omega),if_neg (by omega),if_neg (by omega),if_neg (by omega)]);clear hp hln h4 hk;go_enter Tryz.func44,Tryz.ntmps44;go_upto_region 10 with (fail);generalize ee:World.alloc w _=w1;have hsa1:=sizeA ee;replace HF:=fA HF ee;have HBr:=nB ee (w.heap.size);clear ee;have rc:=kc6 HBr;have hI:=i0_0 w w1;have hZ:=i01 w;refine wp_region_held_drew (S:=fun w'=>Far (fun _=>False) (w1) w') (by kernel_rfl) (Far.of (below_drew _)) (fun hS20=>?_);refine takeA 0 (v:=?_) rfl ?_ ?_;rotate_left;· intro w hSw;replace rc:=Far.c6z rc hSw (fun e=>e);go_simp;try rfl
  (try simp only [pu]);refine takeA 1 (v:=?_) rfl ?_ ?_;rotate_left;· intro w hSw;replace rc:=Far.c6z rc hSw (fun e=>e);go_simp;try rfl
  (try simp only [pu]);refine takeA 3 (v:=?_) rfl ?_ ?_;rotate_left;· intro w hSw;replace rc:=Far.c6z rc hSw (fun e=>e);go_simp;try rfl
  (try simp only [pu]);refine takeA 4 (v:=?_) rfl ?_ ?_;rotate_left;· intro w hSw;replace rc:=Far.c6z rc hSw (fun e=>e);go_simp;try rfl
  (try simp only [pu]);refine takeA 5 (v:=?_) rfl ?_ ?_;rotate_left;· intro w hSw;replace rc:=Far.c6z rc hSw (fun e=>e);go_simp;try rfl
  (try simp only [pu]);refine callA 2 rfl fun K hK=>?_;go_simp;refine (parts_any _ _).mono ?_;rintro e wx21 ⟨rfl,rfl⟩;go_simp;refine hK.out _ _ (Far.trans hS20 (Far.refl _ _)) (fun hS21=>?_);clear hK K;refine takeA 6 (v:=?_) rfl ?_ ?_;rotate_left;· intros;go_simp;try rfl
  (try simp only [pu]);refine wpAnyH_done (by kernel_rfl) ?_ _;clear rc;clear hI hZ;replace HBr:=zz (HBr.out.keep (below_drew w1));replace HF:=zz (HF.out.below (below_drew w1));have hsdw2:(World.drew w1).heap.size=w1.heap.size:=rfl;generalize World.drew w1=w2 at HBr HF hsdw2 ⊢;have rc:=kc6 HBr;have hI:=i0_0 w w2
  go_wp2_with (fail)
  clear rc;go_ret;exact ⟨congrArg (fun s=>Ending.returned (Value.string s)) HQ.out.symm,refBelow HF.out⟩
 ·
  have hpp2:(e.args.length:Int)=partsX 8:=by rw [←hk];exact hp.symm
  have hpv:partsX 8=1:=rfl;clear hpp;have HF:Hid (FarB w.heap.size w.heap.size w w):=zz (FarB.refl _ _ _)
  have hpk:(partsX e.kind != (n:Int))=false:=by rw [hp,hln];simp
  have e4:(e.kind==4)=false:=by simp [hk]
  have e1:(e.kind==1)=false:=by simp [hk]
  have e2:(e.kind==2)=false:=by simp [hk]
  have e3:(e.kind==3)=false:=by simp [hk]
  have e5:(e.kind==5)=false:=by simp [hk]
  have e6:(e.kind==6)=false:=by simp [hk]
  have e7:(e.kind==7)=false:=by simp [hk]
  have e8:(e.kind==8)=true:=by simp [hk]
  have hl1:e.args.length=1:=by omega
  obtain ⟨x,ha⟩:∃ x,e.args=[x]:=by
   match h:e.args,hl1 with
   | [u0],_=>exact ⟨u0,rfl⟩
  have HQ:Hid (showX e=freeX e.name (showX x)):=zz (by rw [showX_eq];unfold formX;rw [if_neg h4,if_neg (by rw [hp];simp),if_neg (by omega),if_neg (by omega),if_neg (by omega),if_neg (by omega),if_neg (by omega),if_pos hk,ha];rfl);have HA:=zz ha;have HSx:=zz (HSS.out x (by rw [ha];simp));have HNx:=zz (HN.out.parts.2 x (by rw [ha];simp));have hz2:=HZ.out;rw [HQ.out] at hz2;obtain ⟨vx,hvx⟩:∃ v,showX x=v:=⟨_,rfl⟩;rw [hvx] at hz2;replace HQ:Hid (showX e=freeX e.name vx):=zz (by rw [HQ.out,hvx])
  have hz3:4+e.name.size+9+vx.size≤100000000:=by
   unfold freeX at hz2;rw [app_sz,app_sz,app_sz] at hz2;have q0:(⟨#[108,101,116,32]⟩:ByteArray).size=4:=rfl;have q1:(⟨#[32,102,114,101,101,32,105,110,32]⟩:ByteArray).size=9:=rfl
   omega
  have HZx:Hid ((showX x).size≤100000000):=zz (by rw [hvx];omega);clear ha hz2
  obtain rfl:n=1:=by omega
  clear hp hln h4 hk;go_enter Tryz.func44,Tryz.ntmps44;go_upto_region 10 with (fail);generalize ee:World.alloc w _=w1;have hsa1:=sizeA ee;replace HF:=fA HF ee;have HBr:=nB ee (w.heap.size);clear ee;have rc:=kc6 HBr;have hI:=i0_0 w w1;have hZ:=i01 w;refine wp_region_held_drew (S:=fun w'=>Far (fun _=>False) (w1) w') (by kernel_rfl) (Far.of (below_drew _)) (fun hS20=>?_);refine takeA 0 (v:=?_) rfl ?_ ?_;rotate_left;· intro w hSw;replace rc:=Far.c6z rc hSw (fun e=>e);go_simp;try rfl
  (try simp only [pu]);refine takeA 1 (v:=?_) rfl ?_ ?_;rotate_left;· intro w hSw;replace rc:=Far.c6z rc hSw (fun e=>e);go_simp;try rfl
  (try simp only [pu]);refine takeA 3 (v:=?_) rfl ?_ ?_;rotate_left;· intro w hSw;replace rc:=Far.c6z rc hSw (fun e=>e);go_simp;try rfl
  (try simp only [pu]);refine takeA 4 (v:=?_) rfl ?_ ?_;rotate_left;· intro w hSw;replace rc:=Far.c6z rc hSw (fun e=>e);go_simp;try rfl
  (try simp only [pu]);refine takeA 5 (v:=?_) rfl ?_ ?_;rotate_left;· intro w hSw;replace rc:=Far.c6z rc hSw (fun e=>e);go_simp;try rfl
  (try simp only [pu]);refine callA 2 rfl fun K hK=>?_;go_simp;refine (parts_any _ _).mono ?_;rintro e wx21 ⟨rfl,rfl⟩;go_simp;refine hK.out _ _ (Far.trans hS20 (Far.refl _ _)) (fun hS21=>?_);clear hK K;refine takeA 6 (v:=?_) rfl ?_ ?_;rotate_left;· intros;go_simp;try rfl
  (try simp only [pu]);refine wpAnyH_done (by kernel_rfl) ?_ _;clear rc;clear hI hZ;replace HBr:=zz (HBr.out.keep (below_drew w1));replace HF:=zz (HF.out.below (below_drew w1));have hsdw2:(World.drew w1).heap.size=w1.heap.size:=rfl;generalize World.drew w1=w2 at HBr HF hsdw2 ⊢;have rc:=kc6 HBr;have hI:=i0_0 w w2;go_upto_region 25 with (fail);obtain ⟨bxe,oxe,axe,nxe,cxe,hexe,hixe,hcxe,hdxe,xe0,xe1,xe2,xe3,xe4,xe5,GXxe⟩:=one_at (HM.out.keep (refBelow HF.out)) (i:=0) (x:=x) (by rw [HA.out];rfl) (k:=0) rfl;subst hexe;simp only [Nat.add_zero] at xe0 xe1 xe2 xe3 xe4 xe5;clear rc;clear hI;have rc:=kc6 HBr;have hI:=i0_0 w w2
  have iz1: ¬(9223372036854775807<4+e.name.size):=by omega
  have iz2: ¬(9223372036854775807<4+e.name.size+9):=by omega
  have iz3: ¬(9223372036854775807<4+e.name.size+9+vx.size):=by omega
  refine wp_region_held_drew (S:=fun w'=>Far (fun _=>False) (w2) w') (by kernel_rfl) (Far.of (below_drew _)) (fun hS20=>?_);refine takeA 0 (v:=?_) rfl ?_ ?_;rotate_left;· intros;go_simp;try rfl
  (try simp only [pu]);refine takeA 1 (v:=?_) rfl ?_ ?_;rotate_left;· intro w hSw;replace rc:=Far.c6z rc hSw (fun e=>e);go_simp;try rfl
  (try simp only [pu]);refine takeA 2 (v:=?_) rfl ?_ ?_;rotate_left;· intros;go_simp;try rfl
  (try simp only [pu]);refine takeA 3 (v:=?_) rfl ?_ ?_;rotate_left;· intros;go_simp;try rfl
  (try simp only [pu]);refine takeA 4 (v:=?_) rfl ?_ ?_;rotate_left;· intros;go_simp;try rfl
  (try simp only [pu]);refine takeA 5 (v:=?_) rfl ?_ ?_;rotate_left;· intro w hSw;replace rc:=Far.c6z rc hSw (fun e=>e);go_simp;try rfl
  (try simp only [pu]);refine takeA 6 (v:=?_) rfl ?_ ?_;rotate_left;· intros;go_simp;try rfl
  (try simp only [pu]);refine takeA 7 (v:=?_) rfl ?_ ?_;rotate_left;· intro w hSw;replace xe0:=Far.cellZ xe0 hSw (fun e=>e);replace xe1:=Far.cellZ xe1 hSw (fun e=>e);replace xe2:=Far.cellZ xe2 hSw (fun e=>e);replace xe3:=Far.cellZ xe3 hSw (fun e=>e);replace xe4:=Far.cellZ xe4 hSw (fun e=>e);replace xe5:=Far.cellZ xe5 hSw (fun e=>e);go_simp;try rfl
  (try simp only [pu]);clear xe0 xe1 xe2 xe3 xe4 xe5;refine callA 8 rfl fun K hK=>?_;go_simp;refine (HSx.out _ _ _ _ (MemW.keep (w:=w2) GXxe.out (below_drew _)) HNx.out HZx.out).mono ?_;rintro e wx21 ⟨rfl,hb⟩;clear rc;clear hI;have hbk:=hb;replace hb:=Below.one hb;replace HBr:=kB HBr hb;replace HF:=kF HF hb;have hs21:=hb.size;clear hb;rw [hvx];go_simp;refine hK.out _ _ (Far.trans hS20 (Far.of hbk)) (fun hS21=>?_);clear hK K;refine takeA 9 (v:=?_) rfl ?_ ?_;rotate_left;· intros;go_simp;try rfl
  (try simp only [pu]);refine takeA 10 (v:=?_) rfl ?_ ?_;rotate_left;· intros;go_simp;try rfl
  (try simp only [pu]);refine wpAnyH_done (by kernel_rfl) ?_ _
  go_wp2_with (fail)
  go_ret;exact ⟨congrArg (fun s=>Ending.returned (Value.string s)) HQ.out.symm,refBelow HF.out⟩
 ·
  have hpp2:(e.args.length:Int)=partsX 5:=by rw [←hk];exact hp.symm
  have hpv:partsX 5=2:=rfl;clear hpp;have HF:Hid (FarB w.heap.size w.heap.size w w):=zz (FarB.refl _ _ _)
  have hpk:(partsX e.kind != (n:Int))=false:=by rw [hp,hln];simp
  have e4:(e.kind==4)=false:=by simp [hk]
  have e1:(e.kind==1)=false:=by simp [hk]
  have e2:(e.kind==2)=false:=by simp [hk]
  have e3:(e.kind==3)=false:=by simp [hk]
  have e5:(e.kind==5)=true:=by simp [hk]
  have hl2:e.args.length=2:=by omega
  obtain ⟨x,y,ha⟩:∃ x y,e.args=[x,y]:=by
   match h:e.args,hl2 with
   | [u0,u1],_=>exact ⟨u0,u1,rfl⟩
  have HQ:Hid (showX e=opX e.name x y (showX x) (showX y)):=zz (by rw [showX_eq];unfold formX;rw [if_neg h4,if_neg (by rw [hp];simp),if_neg (by omega),if_neg (by omega),if_pos hk,ha];rfl);have HA:=zz ha;have HSx:=zz (HSS.out x (by rw [ha];simp));have HNx:=zz (HN.out.parts.2 x (by rw [ha];simp));have HSy:=zz (HSS.out y (by rw [ha];simp));have HNy:=zz (HN.out.parts.2 y (by rw [ha];simp));have HZ2:Hid ((opX e.name x y (showX x) (showX y)).size≤100000000):=zz (by rw [←HQ.out];exact HZ.out)
  have HSZ:Hid ((showX x).size≤100000000∧(showX y).size≤100000000):=zz (by have h:=HZ2.out;unfold opX opndX at h;rw [app_sz,app_sz,app_sz,app_sz] at h;have q1:=(brk_size (openX x.kind || lessX x (bindsE e.name) (leftX e.name)) (showX x)).1;have q2:=(brk_size (openX y.kind || lessX y (bindsE e.name) (decide (e.name≠⟨#[63]⟩))) (showX y)).1;omega)
  clear ha;clear hp hln h4 hk;go_enter Tryz.func44,Tryz.ntmps44;go_upto_region 10 with (fail);generalize ee:World.alloc w _=w1;have hsa1:=sizeA ee;replace HF:=fA HF ee;have HBr:=nB ee (w.heap.size);clear ee;have rc:=kc6 HBr;have hI:=i0_0 w w1;have hZ:=i01 w;refine wp_region_held_drew (S:=fun w'=>Far (fun _=>False) (w1) w') (by kernel_rfl) (Far.of (below_drew _)) (fun hS20=>?_);refine takeA 0 (v:=?_) rfl ?_ ?_;rotate_left;· intro w hSw;replace rc:=Far.c6z rc hSw (fun e=>e);go_simp;try rfl
  (try simp only [pu]);refine takeA 1 (v:=?_) rfl ?_ ?_;rotate_left;· intro w hSw;replace rc:=Far.c6z rc hSw (fun e=>e);go_simp;try rfl
  (try simp only [pu]);refine takeA 3 (v:=?_) rfl ?_ ?_;rotate_left;· intro w hSw;replace rc:=Far.c6z rc hSw (fun e=>e);go_simp;try rfl
  (try simp only [pu]);refine takeA 4 (v:=?_) rfl ?_ ?_;rotate_left;· intro w hSw;replace rc:=Far.c6z rc hSw (fun e=>e);go_simp;try rfl
  (try simp only [pu]);refine takeA 5 (v:=?_) rfl ?_ ?_;rotate_left;· intro w hSw;replace rc:=Far.c6z rc hSw (fun e=>e);go_simp;try rfl
  (try simp only [pu]);refine callA 2 rfl fun K hK=>?_;go_simp;refine (parts_any _ _).mono ?_;rintro e wx21 ⟨rfl,rfl⟩;go_simp;refine hK.out _ _ (Far.trans hS20 (Far.refl _ _)) (fun hS21=>?_);clear hK K;refine takeA 6 (v:=?_) rfl ?_ ?_;rotate_left;· intros;go_simp;try rfl
  (try simp only [pu]);refine wpAnyH_done (by kernel_rfl) ?_ _;clear rc;clear hI hZ;replace HBr:=zz (HBr.out.keep (below_drew w1));replace HF:=zz (HF.out.below (below_drew w1));have hsdw2:(World.drew w1).heap.size=w1.heap.size:=rfl;generalize World.drew w1=w2 at HBr HF hsdw2 ⊢;have rc:=kc6 HBr;have hI:=i0_0 w w2
  go_wp2_with (fail)
  clear rc;refine (operator_any HA.out HSx.out HSy.out HNx.out HNy.out HSZ.out HZ2.out _ _ _ _ (HM.out.keep (refBelow HF.out)) HN.out).mono ?_;rintro _ w3 ⟨rfl,hb⟩;replace HBr:=kB HBr hb;replace HF:=kF HF hb;have hs3:=hb.size;clear hb;clear hI;have rc:=kc6 HBr;have hI:=i0_0 w w3
  go_wp2_with (fail)
  clear rc;go_ret;exact ⟨congrArg (fun s=>Ending.returned (Value.string s)) HQ.out.symm,refBelow HF.out⟩
 ·
  have hpp2:(e.args.length:Int)=partsX 7:=by rw [←hk];exact hp.symm
  have hpv:partsX 7=2:=rfl;clear hpp;have HF:Hid (FarB w.heap.size w.heap.size w w):=zz (FarB.refl _ _ _)
  have hpk:(partsX e.kind != (n:Int))=false:=by rw [hp,hln];simp
  have e4:(e.kind==4)=false:=by simp [hk]
  have e1:(e.kind==1)=false:=by simp [hk]
  have e2:(e.kind==2)=false:=by simp [hk]
  have e3:(e.kind==3)=false:=by simp [hk]
  have e5:(e.kind==5)=false:=by simp [hk]
  have e6:(e.kind==6)=false:=by simp [hk]
  have e7:(e.kind==7)=true:=by simp [hk]
  have hl2:e.args.length=2:=by omega
  obtain ⟨x,y,ha⟩:∃ x y,e.args=[x,y]:=by
   match h:e.args,hl2 with
   | [u0,u1],_=>exact ⟨u0,u1,rfl⟩
  have HQ:Hid (showX e=letX e.name (showX x) (showX y)):=zz (by rw [showX_eq];unfold formX;rw [if_neg h4,if_neg (by rw [hp];simp),if_neg (by omega),if_neg (by omega),if_neg (by omega),if_neg (by omega),if_pos hk,ha];rfl);have HA:=zz ha;have HSx:=zz (HSS.out x (by rw [ha];simp));have HNx:=zz (HN.out.parts.2 x (by rw [ha];simp));have HSy:=zz (HSS.out y (by rw [ha];simp));have HNy:=zz (HN.out.parts.2 y (by rw [ha];simp));have hz2:=HZ.out;rw [HQ.out] at hz2;obtain ⟨vx,hvx⟩:∃ v,showX x=v:=⟨_,rfl⟩;obtain ⟨vy,hvy⟩:∃ v,showX y=v:=⟨_,rfl⟩;rw [hvx,hvy] at hz2;replace HQ:Hid (showX e=letX e.name vx vy):=zz (by rw [HQ.out,hvx,hvy])
  have hz3:4+e.name.size+3+vx.size+4+vy.size≤100000000:=by
   unfold letX at hz2;rw [app_sz,app_sz,app_sz,app_sz,app_sz] at hz2;have q0:(⟨#[108,101,116,32]⟩:ByteArray).size=4:=rfl;have q1:(⟨#[32,61,32]⟩:ByteArray).size=3:=rfl;have q2:(⟨#[32,105,110,32]⟩:ByteArray).size=4:=rfl
   omega
  have HZx:Hid ((showX x).size≤100000000):=zz (by rw [hvx];omega);have HZy:Hid ((showX y).size≤100000000):=zz (by rw [hvy];omega);clear ha hz2
  obtain rfl:n=2:=by omega
  clear hp hln h4 hk;go_enter Tryz.func44,Tryz.ntmps44;go_upto_region 10 with (fail);generalize ee:World.alloc w _=w1;have hsa1:=sizeA ee;replace HF:=fA HF ee;have HBr:=nB ee (w.heap.size);clear ee;have rc:=kc6 HBr;have hI:=i0_0 w w1;have hZ:=i01 w;refine wp_region_held_drew (S:=fun w'=>Far (fun _=>False) (w1) w') (by kernel_rfl) (Far.of (below_drew _)) (fun hS20=>?_);refine takeA 0 (v:=?_) rfl ?_ ?_;rotate_left;· intro w hSw;replace rc:=Far.c6z rc hSw (fun e=>e);go_simp;try rfl
  (try simp only [pu]);refine takeA 1 (v:=?_) rfl ?_ ?_;rotate_left;· intro w hSw;replace rc:=Far.c6z rc hSw (fun e=>e);go_simp;try rfl
  (try simp only [pu]);refine takeA 3 (v:=?_) rfl ?_ ?_;rotate_left;· intro w hSw;replace rc:=Far.c6z rc hSw (fun e=>e);go_simp;try rfl
  (try simp only [pu]);refine takeA 4 (v:=?_) rfl ?_ ?_;rotate_left;· intro w hSw;replace rc:=Far.c6z rc hSw (fun e=>e);go_simp;try rfl
  (try simp only [pu]);refine takeA 5 (v:=?_) rfl ?_ ?_;rotate_left;· intro w hSw;replace rc:=Far.c6z rc hSw (fun e=>e);go_simp;try rfl
  (try simp only [pu]);refine callA 2 rfl fun K hK=>?_;go_simp;refine (parts_any _ _).mono ?_;rintro e wx21 ⟨rfl,rfl⟩;go_simp;refine hK.out _ _ (Far.trans hS20 (Far.refl _ _)) (fun hS21=>?_);clear hK K;refine takeA 6 (v:=?_) rfl ?_ ?_;rotate_left;· intros;go_simp;try rfl
  (try simp only [pu]);refine wpAnyH_done (by kernel_rfl) ?_ _;clear rc;clear hI hZ;replace HBr:=zz (HBr.out.keep (below_drew w1));replace HF:=zz (HF.out.below (below_drew w1));have hsdw2:(World.drew w1).heap.size=w1.heap.size:=rfl;generalize World.drew w1=w2 at HBr HF hsdw2 ⊢;have rc:=kc6 HBr;have hI:=i0_0 w w2;go_upto_region 23 with (fail);obtain ⟨bxe,oxe,axe,nxe,cxe,hexe,hixe,hcxe,hdxe,xe0,xe1,xe2,xe3,xe4,xe5,GXxe⟩:=one_at (HM.out.keep (refBelow HF.out)) (i:=0) (x:=x) (by rw [HA.out];rfl) (k:=0) rfl;subst hexe;simp only [Nat.add_zero] at xe0 xe1 xe2 xe3 xe4 xe5;obtain ⟨bye,oye,aye,nye,cye,heye,hiye,hcye,hdye,ye0,ye1,ye2,ye3,ye4,ye5,GXye⟩:=one_at (HM.out.keep (refBelow HF.out)) (i:=1) (x:=y) (by rw [HA.out];rfl) (k:=6) rfl;cases heye;clear rc;clear hI;have rc:=kc6 HBr;have hI:=i0_0 w w2
  have iz1: ¬(9223372036854775807<4+e.name.size):=by omega
  have iz2: ¬(9223372036854775807<4+e.name.size+3):=by omega
  have iz3: ¬(9223372036854775807<4+e.name.size+3+vx.size):=by omega
  have iz4: ¬(9223372036854775807<4+e.name.size+3+vx.size+4):=by omega
  have iz5: ¬(9223372036854775807<4+e.name.size+3+vx.size+4+vy.size):=by omega
  refine wp_region_held_drew (S:=fun w'=>Far (fun _=>False) (w2) w') (by kernel_rfl) (Far.of (below_drew _)) (fun hS20=>?_);refine takeA 0 (v:=?_) rfl ?_ ?_;rotate_left;· intros;go_simp;try rfl
  (try simp only [pu]);refine takeA 1 (v:=?_) rfl ?_ ?_;rotate_left;· intro w hSw;replace rc:=Far.c6z rc hSw (fun e=>e);go_simp;try rfl
  (try simp only [pu]);refine takeA 2 (v:=?_) rfl ?_ ?_;rotate_left;· intros;go_simp;try rfl
  (try simp only [pu]);refine takeA 3 (v:=?_) rfl ?_ ?_;rotate_left;· intros;go_simp;try rfl
  (try simp only [pu]);refine takeA 4 (v:=?_) rfl ?_ ?_;rotate_left;· intros;go_simp;try rfl
  (try simp only [pu]);refine takeA 5 (v:=?_) rfl ?_ ?_;rotate_left;· intro w hSw;replace rc:=Far.c6z rc hSw (fun e=>e);go_simp;try rfl
  (try simp only [pu]);refine takeA 6 (v:=?_) rfl ?_ ?_;rotate_left;· intros;go_simp;try rfl
  (try simp only [pu]);refine takeA 7 (v:=?_) rfl ?_ ?_;rotate_left;· intro w hSw;replace xe0:=Far.cellZ xe0 hSw (fun e=>e);replace xe1:=Far.cellZ xe1 hSw (fun e=>e);replace xe2:=Far.cellZ xe2 hSw (fun e=>e);replace xe3:=Far.cellZ xe3 hSw (fun e=>e);replace xe4:=Far.cellZ xe4 hSw (fun e=>e);replace xe5:=Far.cellZ xe5 hSw (fun e=>e);go_simp;try rfl
  (try simp only [pu]);refine takeA 11 (v:=?_) rfl ?_ ?_;rotate_left;· intros;go_simp;try rfl
  (try simp only [pu]);refine takeA 12 (v:=?_) rfl ?_ ?_;rotate_left;· intro w hSw;replace rc:=Far.c6z rc hSw (fun e=>e);go_simp;try rfl
  (try simp only [pu]);refine takeA 13 (v:=?_) rfl ?_ ?_;rotate_left;· intros;go_simp;try rfl
  (try simp only [pu]);refine takeA 14 (v:=?_) rfl ?_ ?_;rotate_left;· intro w hSw;replace ye0:=Far.cellZ ye0 hSw (fun e=>e);replace ye1:=Far.cellZ ye1 hSw (fun e=>e);replace ye2:=Far.cellZ ye2 hSw (fun e=>e);replace ye3:=Far.cellZ ye3 hSw (fun e=>e);replace ye4:=Far.cellZ ye4 hSw (fun e=>e);replace ye5:=Far.cellZ ye5 hSw (fun e=>e);go_simp;try rfl
  (try simp only [pu]);clear xe0 xe1 xe2 xe3 xe4 xe5 ye0 ye1 ye2 ye3 ye4 ye5;refine callA 8 rfl fun K hK=>?_;go_simp;refine (HSx.out _ _ _ _ (MemW.keep (w:=w2) GXxe.out (below_drew _)) HNx.out HZx.out).mono ?_;rintro e wx21 ⟨rfl,hb⟩;clear rc;clear hI;have hbk:=hb;replace hb:=Below.one hb;replace HBr:=kB HBr hb;replace HF:=kF HF hb;have hs21:=hb.size;clear hb;rw [hvx];go_simp;refine hK.out _ _ (Far.trans hS20 (Far.of hbk)) (fun hS21=>?_);clear hK K;refine takeA 9 (v:=?_) rfl ?_ ?_;rotate_left;· intros;go_simp;try rfl
  (try simp only [pu]);refine takeA 10 (v:=?_) rfl ?_ ?_;rotate_left;· intros;go_simp;try rfl
  (try simp only [pu]);refine callA 15 rfl fun K hK=>?_;go_simp;refine (HSy.out _ _ _ _ (MemW.keep (w:=w2) GXye.out (Far.toB (Far.mono hS21 fun _ h=>h.elim) (Nat.le_refl _))) HNy.out HZy.out).mono ?_;rintro e wx22 ⟨rfl,hb⟩;have hbk:=hb;replace HBr:=kB HBr hb;replace HF:=kF HF hb;have hs22:=hb.size;clear hb;rw [hvy];go_simp;refine hK.out _ _ (Far.trans hS21 (Far.of hbk)) (fun hS22=>?_);clear hK K;refine takeA 16 (v:=?_) rfl ?_ ?_;rotate_left;· intros;go_simp;try rfl
  (try simp only [pu]);refine takeA 17 (v:=?_) rfl ?_ ?_;rotate_left;· intros;go_simp;try rfl
  (try simp only [pu]);refine wpAnyH_done (by kernel_rfl) ?_ _
  go_wp2_with (fail)
  go_ret;exact ⟨congrArg (fun s=>Ending.returned (Value.string s)) HQ.out.symm,refBelow HF.out⟩
 ·
  have hpp2:(e.args.length:Int)=partsX 6:=by rw [←hk];exact hp.symm
  have hpv:partsX 6=3:=rfl;clear hpp;have HF:Hid (FarB w.heap.size w.heap.size w w):=zz (FarB.refl _ _ _)
  have hpk:(partsX e.kind != (n:Int))=false:=by rw [hp,hln];simp
  have e4:(e.kind==4)=false:=by simp [hk]
  have e1:(e.kind==1)=false:=by simp [hk]
  have e2:(e.kind==2)=false:=by simp [hk]
  have e3:(e.kind==3)=false:=by simp [hk]
  have e5:(e.kind==5)=false:=by simp [hk]
  have e6:(e.kind==6)=true:=by simp [hk]
  have hl3:e.args.length=3:=by omega
  obtain ⟨x,y,z,ha⟩:∃ x y z,e.args=[x,y,z]:=by
   match h:e.args,hl3 with
   | [u0,u1,u2],_=>exact ⟨u0,u1,u2,rfl⟩
  have HQ:Hid (showX e=ifX (showX x) (showX y) (showX z)):=zz (by rw [showX_eq];unfold formX;rw [if_neg h4,if_neg (by rw [hp];simp),if_neg (by omega),if_neg (by omega),if_neg (by omega),if_pos hk,ha];rfl);have HA:=zz ha;have HSx:=zz (HSS.out x (by rw [ha];simp));have HNx:=zz (HN.out.parts.2 x (by rw [ha];simp));have HSy:=zz (HSS.out y (by rw [ha];simp));have HNy:=zz (HN.out.parts.2 y (by rw [ha];simp));have HSz:=zz (HSS.out z (by rw [ha];simp));have HNz:=zz (HN.out.parts.2 z (by rw [ha];simp));have hz2:=HZ.out;rw [HQ.out] at hz2;obtain ⟨vx,hvx⟩:∃ v,showX x=v:=⟨_,rfl⟩;obtain ⟨vy,hvy⟩:∃ v,showX y=v:=⟨_,rfl⟩;obtain ⟨vz,hvz⟩:∃ v,showX z=v:=⟨_,rfl⟩;rw [hvx,hvy,hvz] at hz2;replace HQ:Hid (showX e=ifX vx vy vz):=zz (by rw [HQ.out,hvx,hvy,hvz])
  have hz3:3+vx.size+6+vy.size+6+vz.size≤100000000:=by
   unfold ifX at hz2;rw [app_sz,app_sz,app_sz,app_sz,app_sz] at hz2;have q0:(⟨#[105,102,32]⟩:ByteArray).size=3:=rfl;have q1:(⟨#[32,116,104,101,110,32]⟩:ByteArray).size=6:=rfl;have q2:(⟨#[32,101,108,115,101,32]⟩:ByteArray).size=6:=rfl
   omega
  have HZx:Hid ((showX x).size≤100000000):=zz (by rw [hvx];omega);have HZy:Hid ((showX y).size≤100000000):=zz (by rw [hvy];omega);have HZz:Hid ((showX z).size≤100000000):=zz (by rw [hvz];omega);clear ha hz2
  obtain rfl:n=3:=by omega
  clear hp hln h4 hk;go_enter Tryz.func44,Tryz.ntmps44;go_upto_region 10 with (fail);generalize ee:World.alloc w _=w1;have hsa1:=sizeA ee;replace HF:=fA HF ee;have HBr:=nB ee (w.heap.size);clear ee;have rc:=kc6 HBr;have hI:=i0_0 w w1;have hZ:=i01 w;refine wp_region_held_drew (S:=fun w'=>Far (fun _=>False) (w1) w') (by kernel_rfl) (Far.of (below_drew _)) (fun hS20=>?_);refine takeA 0 (v:=?_) rfl ?_ ?_;rotate_left;· intro w hSw;replace rc:=Far.c6z rc hSw (fun e=>e);go_simp;try rfl
  (try simp only [pu]);refine takeA 1 (v:=?_) rfl ?_ ?_;rotate_left;· intro w hSw;replace rc:=Far.c6z rc hSw (fun e=>e);go_simp;try rfl
  (try simp only [pu]);refine takeA 3 (v:=?_) rfl ?_ ?_;rotate_left;· intro w hSw;replace rc:=Far.c6z rc hSw (fun e=>e);go_simp;try rfl
  (try simp only [pu]);refine takeA 4 (v:=?_) rfl ?_ ?_;rotate_left;· intro w hSw;replace rc:=Far.c6z rc hSw (fun e=>e);go_simp;try rfl
  (try simp only [pu]);refine takeA 5 (v:=?_) rfl ?_ ?_;rotate_left;· intro w hSw;replace rc:=Far.c6z rc hSw (fun e=>e);go_simp;try rfl
  (try simp only [pu]);refine callA 2 rfl fun K hK=>?_;go_simp;refine (parts_any _ _).mono ?_;rintro e wx21 ⟨rfl,rfl⟩;go_simp;refine hK.out _ _ (Far.trans hS20 (Far.refl _ _)) (fun hS21=>?_);clear hK K;refine takeA 6 (v:=?_) rfl ?_ ?_;rotate_left;· intros;go_simp;try rfl
  (try simp only [pu]);refine wpAnyH_done (by kernel_rfl) ?_ _;clear rc;clear hI hZ;replace HBr:=zz (HBr.out.keep (below_drew w1));replace HF:=zz (HF.out.below (below_drew w1));have hsdw2:(World.drew w1).heap.size=w1.heap.size:=rfl;generalize World.drew w1=w2 at HBr HF hsdw2 ⊢;have rc:=kc6 HBr;have hI:=i0_0 w w2;go_upto_region 21 with (fail);obtain ⟨bxe,oxe,axe,nxe,cxe,hexe,hixe,hcxe,hdxe,xe0,xe1,xe2,xe3,xe4,xe5,GXxe⟩:=one_at (HM.out.keep (refBelow HF.out)) (i:=0) (x:=x) (by rw [HA.out];rfl) (k:=0) rfl;subst hexe;simp only [Nat.add_zero] at xe0 xe1 xe2 xe3 xe4 xe5;obtain ⟨bye,oye,aye,nye,cye,heye,hiye,hcye,hdye,ye0,ye1,ye2,ye3,ye4,ye5,GXye⟩:=one_at (HM.out.keep (refBelow HF.out)) (i:=1) (x:=y) (by rw [HA.out];rfl) (k:=6) rfl;cases heye;obtain ⟨bze,oze,aze,nze,cze,heze,hize,hcze,hdze,ze0,ze1,ze2,ze3,ze4,ze5,GXze⟩:=one_at (HM.out.keep (refBelow HF.out)) (i:=2) (x:=z) (by rw [HA.out];rfl) (k:=12) rfl;cases heze;clear rc;clear hI;have rc:=kc6 HBr;have hI:=i0_0 w w2
  have iz1: ¬(9223372036854775807<3+vx.size):=by omega
  have iz2: ¬(9223372036854775807<3+vx.size+6):=by omega
  have iz3: ¬(9223372036854775807<3+vx.size+6+vy.size):=by omega
  have iz4: ¬(9223372036854775807<3+vx.size+6+vy.size+6):=by omega
  have iz5: ¬(9223372036854775807<3+vx.size+6+vy.size+6+vz.size):=by omega
  refine wp_region_held_drew (S:=fun w'=>Far (fun _=>False) (w2) w') (by kernel_rfl) (Far.of (below_drew _)) (fun hS20=>?_);refine takeA 0 (v:=?_) rfl ?_ ?_;rotate_left;· intros;go_simp;try rfl
  (try simp only [pu]);refine takeA 1 (v:=?_) rfl ?_ ?_;rotate_left;· intro w hSw;replace rc:=Far.c6z rc hSw (fun e=>e);go_simp;try rfl
  (try simp only [pu]);refine takeA 2 (v:=?_) rfl ?_ ?_;rotate_left;· intros;go_simp;try rfl
  (try simp only [pu]);refine takeA 3 (v:=?_) rfl ?_ ?_;rotate_left;· intro w hSw;replace xe0:=Far.cellZ xe0 hSw (fun e=>e);replace xe1:=Far.cellZ xe1 hSw (fun e=>e);replace xe2:=Far.cellZ xe2 hSw (fun e=>e);replace xe3:=Far.cellZ xe3 hSw (fun e=>e);replace xe4:=Far.cellZ xe4 hSw (fun e=>e);replace xe5:=Far.cellZ xe5 hSw (fun e=>e);go_simp;try rfl
  (try simp only [pu]);refine takeA 7 (v:=?_) rfl ?_ ?_;rotate_left;· intros;go_simp;try rfl
  (try simp only [pu]);refine takeA 8 (v:=?_) rfl ?_ ?_;rotate_left;· intro w hSw;replace rc:=Far.c6z rc hSw (fun e=>e);go_simp;try rfl
  (try simp only [pu]);refine takeA 9 (v:=?_) rfl ?_ ?_;rotate_left;· intros;go_simp;try rfl
  (try simp only [pu]);refine takeA 10 (v:=?_) rfl ?_ ?_;rotate_left;· intro w hSw;replace ye0:=Far.cellZ ye0 hSw (fun e=>e);replace ye1:=Far.cellZ ye1 hSw (fun e=>e);replace ye2:=Far.cellZ ye2 hSw (fun e=>e);replace ye3:=Far.cellZ ye3 hSw (fun e=>e);replace ye4:=Far.cellZ ye4 hSw (fun e=>e);replace ye5:=Far.cellZ ye5 hSw (fun e=>e);go_simp;try rfl
  (try simp only [pu]);refine takeA 14 (v:=?_) rfl ?_ ?_;rotate_left;· intros;go_simp;try rfl
  (try simp only [pu]);refine takeA 15 (v:=?_) rfl ?_ ?_;rotate_left;· intro w hSw;replace rc:=Far.c6z rc hSw (fun e=>e);go_simp;try rfl
  (try simp only [pu]);refine takeA 16 (v:=?_) rfl ?_ ?_;rotate_left;· intros;go_simp;try rfl
  (try simp only [pu]);refine takeA 17 (v:=?_) rfl ?_ ?_;rotate_left;· intro w hSw;replace ze0:=Far.cellZ ze0 hSw (fun e=>e);replace ze1:=Far.cellZ ze1 hSw (fun e=>e);replace ze2:=Far.cellZ ze2 hSw (fun e=>e);replace ze3:=Far.cellZ ze3 hSw (fun e=>e);replace ze4:=Far.cellZ ze4 hSw (fun e=>e);replace ze5:=Far.cellZ ze5 hSw (fun e=>e);go_simp;try rfl
  (try simp only [pu]);clear xe0 xe1 xe2 xe3 xe4 xe5 ye0 ye1 ye2 ye3 ye4 ye5 ze0 ze1 ze2 ze3 ze4 ze5;refine callA 4 rfl fun K hK=>?_;go_simp;refine (HSx.out _ _ _ _ (MemW.keep (w:=w2) GXxe.out (below_drew _)) HNx.out HZx.out).mono ?_;rintro e wx21 ⟨rfl,hb⟩;clear rc;clear hI;have hbk:=hb;replace hb:=Below.one hb;replace HBr:=kB HBr hb;replace HF:=kF HF hb;have hs21:=hb.size;clear hb;rw [hvx];go_simp;refine hK.out _ _ (Far.trans hS20 (Far.of hbk)) (fun hS21=>?_);clear hK K;refine takeA 5 (v:=?_) rfl ?_ ?_;rotate_left;· intros;go_simp;try rfl
  (try simp only [pu]);refine takeA 6 (v:=?_) rfl ?_ ?_;rotate_left;· intros;go_simp;try rfl
  (try simp only [pu]);refine callA 11 rfl fun K hK=>?_;go_simp;refine (HSy.out _ _ _ _ (MemW.keep (w:=w2) GXye.out (Far.toB (Far.mono hS21 fun _ h=>h.elim) (Nat.le_refl _))) HNy.out HZy.out).mono ?_;rintro e wx22 ⟨rfl,hb⟩;have hbk:=hb;replace HBr:=kB HBr hb;replace HF:=kF HF hb;have hs22:=hb.size;clear hb;rw [hvy];go_simp;refine hK.out _ _ (Far.trans hS21 (Far.of hbk)) (fun hS22=>?_);clear hK K;refine takeA 12 (v:=?_) rfl ?_ ?_;rotate_left;· intros;go_simp;try rfl
  (try simp only [pu]);refine takeA 13 (v:=?_) rfl ?_ ?_;rotate_left;· intros;go_simp;try rfl
  (try simp only [pu]);refine callA 18 rfl fun K hK=>?_;go_simp;refine (HSz.out _ _ _ _ (MemW.keep (w:=w2) GXze.out (Far.toB (Far.mono hS22 fun _ h=>h.elim) (Nat.le_refl _))) HNz.out HZz.out).mono ?_;rintro e wx23 ⟨rfl,hb⟩;have hbk:=hb;replace HBr:=kB HBr hb;replace HF:=kF HF hb;have hs23:=hb.size;clear hb;rw [hvz];go_simp;refine hK.out _ _ (Far.trans hS22 (Far.of hbk)) (fun hS23=>?_);clear hK K;refine takeA 19 (v:=?_) rfl ?_ ?_;rotate_left;· intros;go_simp;try rfl
  (try simp only [pu]);refine takeA 20 (v:=?_) rfl ?_ ?_;rotate_left;· intros;go_simp;try rfl
  (try simp only [pu]);refine wpAnyH_done (by kernel_rfl) ?_ _
  go_wp2_with (fail)
  go_ret;exact ⟨congrArg (fun s=>Ending.returned (Value.string s)) HQ.out.symm,refBelow HF.out⟩
theorem showX_sz:∀ (m:Nat) (x:Ex),SizeOf.sizeOf x≤m→ShowsAt x
  | 0,x,h=>by cases x;simp at h
  | m + 1, x, h => expr_of fun z hz => showX_sz m z (by
    cases x with
    | mk k s n xs l c =>
      have h3:=List.sizeOf_lt_of_mem (show z∈xs from hz)
      simp at h
      omega)
theorem showX_any (x:Ex):ShowsAt x:=showX_sz _ x (Nat.le_refl _)
end
section
open Go.RowKit
def RefsAt (x:Ex):Prop:=∀ (a:Option Addr) (n c:Nat) (w:World),MemW w (.s 6 (Ex.rows x.args)) (.slice a n c)→NumX x→(showX x).size≤100000000→
  Calls Tryz.prog 84 #[.agg #[.int .i64 x.kind,.string x.name,.int .i64 x.n,.slice a n c,.int .i64 x.line,.int .i64 x.col]] w fun e w'=>e=.returned (.string (showX x))∧Below w.heap.size w w'
theorem bracketR_any (b:Bool) (s:ByteArray) (w:World) (hs:s.size≤1000000000):Calls Tryz.prog 115 #[.bool b,.string s] w fun e w'=>e=.returned (.string (brkX b s))∧w=w':=by
  have i1: ¬(9223372036854775807<1+s.size):=by omega
  have i2: ¬(9223372036854775807<1+s.size+1):=by omega
  clear hs
  cases b with
  | true =>
    go_enter Tryz.func115,Tryz.ntmps115
    go_wp2
    go_ret;exact ⟨rfl,rfl⟩
  | false =>
    go_enter Tryz.func115,Tryz.ntmps115
    go_wp2
    go_ret;exact ⟨rfl,rfl⟩
theorem side_any {e:Ex} (hs:RefsAt e) (hz:(showX e).size≤100000000) (rank:Nat) (strict:Bool) (hr:rank≤10) (a:Option Addr) (n c:Nat) (w:World) (hm:MemW w (.s 6 (Ex.rows e.args)) (.slice a n c)) (hnum:NumX e):
  Calls Tryz.prog 119 #[.agg #[.int .i64 e.kind,.string e.name,.int .i64 e.n,.slice a n c,.int .i64 e.line,.int .i64 e.col],.int .i64 (rank:Int),.bool strict] w fun e' w'=>e'=.returned (.string (opndX e (showX e) rank strict))∧Below w.heap.size w w':=by
 have HM:=zz hm;have HN:=zz hnum;clear hm hnum;have HS:=zz hs;have HZ:=zz hz;obtain ⟨sx,hsx⟩:∃ s,showX e=s:=⟨_,rfl⟩
 have hz2:sx.size≤100000000:=by rw [←hsx];exact hz
 clear hs hz;have HR:=zz hr;clear hr;rw [hsx]
 by_cases h7:e.kind=7
 ·
  have HF:Hid (FarB w.heap.size w.heap.size w w):=zz (FarB.refl _ _ _)
  have e7:(e.kind==7)=true:=by simp [h7]
  have e8:(e.kind==8)=false:=by simp [h7]
  have e6:(e.kind==6)=false:=by simp [h7]
  have e5:(e.kind==5)=false:=by simp [h7]
  have HOX:Hid (openX e.kind=true):=zz (by unfold openX;simp [h7]);have HL:Hid (lessX e rank strict=false):=zz (by unfold lessX;simp [h7]);clear h7;go_enter Tryz.func119,Tryz.ntmps119
  go_wp2_with (fail)
  generalize ee:World.alloc w _=w1;have hsa1:=sizeA ee;replace HF:=fA HF ee;have HBr:=nB ee (w.heap.size);clear ee;have rc:=kc6 HBr;have hI:=i0_0 w w1;have hZ:=i01 w;clear rc;refine (HS.out _ _ _ _ (HM.out.keep (refBelow HF.out)) HN.out HZ.out).mono ?_;rintro _ w2 ⟨rfl,hb⟩;replace HBr:=kB HBr hb;replace HF:=kF HF hb;have hs2:=hb.size;clear hb;rw [hsx];clear hI hZ;have rc:=kc6 HBr;have hI:=i0_0 w w2
  go_wp2_with (fail)
  refine (bracketR_any true sx _ (by omega)).mono ?_;rintro _ _ ⟨rfl,rfl⟩
  go_wp2_with (fail)
  clear rc;have HQ:Hid (opndX e sx rank strict=brkX true sx):=zz (by unfold opndX;rw [HOX.out,HL.out];rfl);go_ret;exact ⟨congrArg (fun s=>Ending.returned (Value.string s)) HQ.out.symm,refBelow HF.out⟩
 by_cases h8:e.kind=8
 ·
  clear h7;have HF:Hid (FarB w.heap.size w.heap.size w w):=zz (FarB.refl _ _ _)
  have e7:(e.kind==7)=false:=by simp [h8]
  have e8:(e.kind==8)=true:=by simp [h8]
  have e6:(e.kind==6)=false:=by simp [h8]
  have e5:(e.kind==5)=false:=by simp [h8]
  have HOX:Hid (openX e.kind=true):=zz (by unfold openX;simp [h8]);have HL:Hid (lessX e rank strict=false):=zz (by unfold lessX;simp [h8]);clear h8;go_enter Tryz.func119,Tryz.ntmps119
  go_wp2_with (fail)
  generalize ee:World.alloc w _=w1;have hsa1:=sizeA ee;replace HF:=fA HF ee;have HBr:=nB ee (w.heap.size);clear ee;have rc:=kc6 HBr;have hI:=i0_0 w w1;have hZ:=i01 w;clear rc;refine (HS.out _ _ _ _ (HM.out.keep (refBelow HF.out)) HN.out HZ.out).mono ?_;rintro _ w2 ⟨rfl,hb⟩;replace HBr:=kB HBr hb;replace HF:=kF HF hb;have hs2:=hb.size;clear hb;rw [hsx];clear hI hZ;have rc:=kc6 HBr;have hI:=i0_0 w w2
  go_wp2_with (fail)
  refine (bracketR_any true sx _ (by omega)).mono ?_;rintro _ _ ⟨rfl,rfl⟩
  go_wp2_with (fail)
  clear rc;have HQ:Hid (opndX e sx rank strict=brkX true sx):=zz (by unfold opndX;rw [HOX.out,HL.out];rfl);go_ret;exact ⟨congrArg (fun s=>Ending.returned (Value.string s)) HQ.out.symm,refBelow HF.out⟩
 by_cases h6:e.kind=6
 ·
  clear h7 h8;have HF:Hid (FarB w.heap.size w.heap.size w w):=zz (FarB.refl _ _ _)
  have e7:(e.kind==7)=false:=by simp [h6]
  have e8:(e.kind==8)=false:=by simp [h6]
  have e6:(e.kind==6)=true:=by simp [h6]
  have e5:(e.kind==5)=false:=by simp [h6]
  have HOX:Hid (openX e.kind=true):=zz (by unfold openX;simp [h6]);have HL:Hid (lessX e rank strict=false):=zz (by unfold lessX;simp [h6]);clear h6;go_enter Tryz.func119,Tryz.ntmps119
  go_wp2_with (fail)
  generalize ee:World.alloc w _=w1;have hsa1:=sizeA ee;replace HF:=fA HF ee;have HBr:=nB ee (w.heap.size);clear ee;have rc:=kc6 HBr;have hI:=i0_0 w w1;have hZ:=i01 w;clear rc;refine (HS.out _ _ _ _ (HM.out.keep (refBelow HF.out)) HN.out HZ.out).mono ?_;rintro _ w2 ⟨rfl,hb⟩;replace HBr:=kB HBr hb;replace HF:=kF HF hb;have hs2:=hb.size;clear hb;rw [hsx];clear hI hZ;have rc:=kc6 HBr;have hI:=i0_0 w w2
  go_wp2_with (fail)
  refine (bracketR_any true sx _ (by omega)).mono ?_;rintro _ _ ⟨rfl,rfl⟩
  go_wp2_with (fail)
  clear rc;have HQ:Hid (opndX e sx rank strict=brkX true sx):=zz (by unfold opndX;rw [HOX.out,HL.out];rfl);go_ret;exact ⟨congrArg (fun s=>Ending.returned (Value.string s)) HQ.out.symm,refBelow HF.out⟩
 by_cases h5:e.kind=5
 ·
  clear h7 h8 h6;have HF:Hid (FarB w.heap.size w.heap.size w w):=zz (FarB.refl _ _ _)
  have e7:(e.kind==7)=false:=by simp [h5]
  have e8:(e.kind==8)=false:=by simp [h5]
  have e6:(e.kind==6)=false:=by simp [h5]
  have e5:(e.kind==5)=true:=by simp [h5]
  have HOX:Hid (openX e.kind=false):=zz (by unfold openX;simp [h5]);have HK5:Hid (decide (e.kind=5)=true):=zz (decide_eq_true h5);clear h5;go_enter Tryz.func119,Tryz.ntmps119
  go_wp2_with (fail)
  generalize ee:World.alloc w _=w1;have hsa1:=sizeA ee;replace HF:=fA HF ee;have HBr:=nB ee (w.heap.size);clear ee;have rc:=kc6 HBr;have hI:=i0_0 w w1;have hZ:=i01 w;refine (rbinds_any _ _).mono ?_;rintro _ _ ⟨rfl,rfl⟩;obtain ⟨bk,hbk⟩:∃ bk,bindsE e.name=bk:=⟨_,rfl⟩;rw [hbk];have HL:Hid (lessX e rank strict=(decide (bk<rank) || (decide (bk=rank) && strict))):=zz (by unfold lessX;rw [HK5.out,hbk];rfl);clear hbk
  by_cases hlt:bk<rank
  ·
   have q1:bk<rank:=hlt
   have q2: ¬bk=rank:=by omega
   have q3:True:=trivial
   have t1:(bk:Int)<(rank:Int):=by omega
   replace HL:Hid (lessX e rank strict=true):=zz (by rw [HL.out];simp [q1,q2]);clear q1 q2 q3;clear rc;clear hI hZ;have rc:=kc6 HBr;have hI:=i0_0 w w1;have hZ:=i01 w
   go_wp2_with (fail)
   clear rc;refine (HS.out _ _ _ _ (HM.out.keep (refBelow HF.out)) HN.out HZ.out).mono ?_;rintro _ w2 ⟨rfl,hb⟩;replace HBr:=kB HBr hb;replace HF:=kF HF hb;have hs2:=hb.size;clear hb;rw [hsx];clear hI hZ;have rc:=kc6 HBr;have hI:=i0_0 w w2
   go_wp2_with (fail)
   refine (bracketR_any true sx _ (by omega)).mono ?_;rintro _ _ ⟨rfl,rfl⟩
   go_wp2_with (fail)
   clear rc;have HQ:Hid (opndX e sx rank strict=brkX true sx):=zz (by unfold opndX;rw [HOX.out,HL.out];simp);go_ret;exact ⟨congrArg (fun s=>Ending.returned (Value.string s)) HQ.out.symm,refBelow HF.out⟩
  by_cases heq:bk=rank
  ·
   have q1: ¬bk<rank:=hlt;have q2:bk=rank:=heq;have q3:True:=trivial
   have t1: ¬((bk:Int)<(rank:Int)):=by omega
   have t2:((bk:Int)==(rank:Int))=true:=by simp;omega
   replace HL:Hid (lessX e rank strict=strict):=zz (by rw [HL.out];simp [q2]);clear q1 q2 q3;clear rc;clear hI hZ;have rc:=kc6 HBr;have hI:=i0_0 w w1;have hZ:=i01 w
   go_wp2_with (fail)
   clear rc;refine (HS.out _ _ _ _ (HM.out.keep (refBelow HF.out)) HN.out HZ.out).mono ?_;rintro _ w2 ⟨rfl,hb⟩;replace HBr:=kB HBr hb;replace HF:=kF HF hb;have hs2:=hb.size;clear hb;rw [hsx];clear hI hZ;have rc:=kc6 HBr;have hI:=i0_0 w w2
   go_wp2_with (fail)
   refine (bracketR_any strict sx _ (by omega)).mono ?_;rintro _ _ ⟨rfl,rfl⟩
   go_wp2_with (fail)
   clear rc;have HQ:Hid (opndX e sx rank strict=brkX strict sx):=zz (by unfold opndX;rw [HOX.out,HL.out];simp);go_ret;exact ⟨congrArg (fun s=>Ending.returned (Value.string s)) HQ.out.symm,refBelow HF.out⟩
  have q1: ¬bk<rank:=hlt;have q2: ¬bk=rank:=heq;have q3:True:=trivial
  have t1: ¬((bk:Int)<(rank:Int)):=by omega
  have t2:((bk:Int)==(rank:Int))=false:=by simp;omega
  replace HL:Hid (lessX e rank strict=false):=zz (by rw [HL.out];simp [q1,q2]);clear q1 q2 q3;clear rc;clear hI hZ;have rc:=kc6 HBr;have hI:=i0_0 w w1;have hZ:=i01 w
  go_wp2_with (fail)
  clear rc;refine (HS.out _ _ _ _ (HM.out.keep (refBelow HF.out)) HN.out HZ.out).mono ?_;rintro _ w2 ⟨rfl,hb⟩;replace HBr:=kB HBr hb;replace HF:=kF HF hb;have hs2:=hb.size;clear hb;rw [hsx];clear hI hZ;have rc:=kc6 HBr;have hI:=i0_0 w w2
  go_wp2_with (fail)
  refine (bracketR_any false sx _ (by omega)).mono ?_;rintro _ _ ⟨rfl,rfl⟩
  go_wp2_with (fail)
  clear rc;have HQ:Hid (opndX e sx rank strict=brkX false sx):=zz (by unfold opndX;rw [HOX.out,HL.out];simp);go_ret;exact ⟨congrArg (fun s=>Ending.returned (Value.string s)) HQ.out.symm,refBelow HF.out⟩
 have HF:Hid (FarB w.heap.size w.heap.size w w):=zz (FarB.refl _ _ _)
 have e7:(e.kind==7)=false:=by simp [h7]
 have e8:(e.kind==8)=false:=by simp [h8]
 have e6:(e.kind==6)=false:=by simp [h6]
 have e5:(e.kind==5)=false:=by simp [h5]
 have HOX:Hid (openX e.kind=false):=zz (by unfold openX;simp [h7,h8,h6]);have HL:Hid (lessX e rank strict=false):=zz (by unfold lessX;simp [h5]);clear h7 h8 h6 h5;go_enter Tryz.func119,Tryz.ntmps119
 go_wp2_with (fail)
 generalize ee:World.alloc w _=w1;have hsa1:=sizeA ee;replace HF:=fA HF ee;have HBr:=nB ee (w.heap.size);clear ee;have rc:=kc6 HBr;have hI:=i0_0 w w1;have hZ:=i01 w;clear rc;refine (HS.out _ _ _ _ (HM.out.keep (refBelow HF.out)) HN.out HZ.out).mono ?_;rintro _ w2 ⟨rfl,hb⟩;replace HBr:=kB HBr hb;replace HF:=kF HF hb;have hs2:=hb.size;clear hb;rw [hsx];clear hI hZ;have rc:=kc6 HBr;have hI:=i0_0 w w2
 go_wp2_with (fail)
 refine (bracketR_any false sx _ (by omega)).mono ?_;rintro _ _ ⟨rfl,rfl⟩
 go_wp2_with (fail)
 clear rc;have HQ:Hid (opndX e sx rank strict=brkX false sx):=zz (by unfold opndX;rw [HOX.out,HL.out];rfl);go_ret;exact ⟨congrArg (fun s=>Ending.returned (Value.string s)) HQ.out.symm,refBelow HF.out⟩
end
end Go.Proofs.YtcoiagfeoonpbaaGreat
