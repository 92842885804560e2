/-
  ShowBack: it answers true. No condition but sizes.
-/
import Derived.Test.YtcoiagfeoonpbaaGreatSm30
import Derived.Test.YtcoiagfeoonpbaaGreatSm38
import Derived.Test.YtcoiagfeoonpbaaGreatSm37
import Derived.Test.YtcoiagfeoonpbaaGreatSm46
import Derived.Test.YtcoiagfeoonpbaaGreatSm44
set_option maxHeartbeats 20000000
set_option maxRecDepth 100000
namespace Go.Proofs.YtcoiagfeoonpbaaGreat
section
open Go.RowKit
attribute [local go_sem] toList_beq
theorem memW_b0 {base:Nat} {x:At} {y:Value} {w:World} (h:Mem (Nw 0 base w.heap.size) w x y):MemW w x y:=h.mono (fun _ hb=>hb.2) fun _ _=>rfl
theorem bad_mod {s:ByteArray} {k l c:Int} (h:modE s=.bad k l c):k≠0:=fun hk=>by
  have h2:=mod_zero (s:=s) (by rw [h];exact hk);rw [h] at h2;cases h2
theorem ok_mod {s:ByteArray} {ds:List Da} {rs:List Ru} (h:modE s=.ok ds rs):(∀ r∈rs,NumR r)∧(∀ d∈ds,d.cons≠[])∧(textB ds rs).length≤204825:=by
  obtain ⟨h1,h2,h3⟩:=mod_fit h;refine ⟨fun r hr=>?_,fun d hd=>(h1 d hd).some,?_⟩
  · have hw:=h2 r hr
    exact ⟨fun x hx=>num_pat (hw.pats x hx).1,fun x hx=>num_ex (hw.guard x hx).1,num_ex hw.body.1⟩
  · have :=text_size h1 h2
    omega
theorem showBack_any (s:ByteArray) (w:World) (_hs:s.size≤maxLen):Calls Tryz.prog 4 #[.string s] w fun e w'=>e=.returned (.bool true)∧Below w.heap.size w w':=by
 have HF:Hid (FarB w.heap.size w.heap.size w w):=zz (FarB.refl _ _ _);go_enter Tryz.func4,Tryz.ntmps4
 go_wp2_with (fail)
 refine (awake08_any _).mono ?_;rintro _ w1 ⟨rfl,hb⟩;replace HF:=kF HF hb;have hs1:=hb.size;clear hb
 by_cases hbig:2000<s.size
 ·
  have hb3:((2000:Int)<(s.size:Int))=True:=by simp;omega
  go_wp2_with (fail)
  go_ret;exact ⟨rfl,refBelow HF.out⟩
 have hb3:((2000:Int)<(s.size:Int))=False:=by simp;omega
 obtain ⟨rp,hrp⟩:∃ rp,modE s=rp:=⟨_,rfl⟩;have HRP:=zz hrp;clear hrp
 go_wp2_with (fail)
 cases rp with
 | ok ds rs=>
  have hpp:=mparse_one s w1 (by omega);rw [HRP.out] at hpp;refine hpp.mono ?_;clear hpp;rintro _ w2 ⟨px,nx,kx,qx,mx,lx,rfl,hb,hm,hm2⟩;dsimp only [Md1.ds,Md1.rs,Md1.k,Md1.l,Md1.c] at hm hm2 ⊢;replace HF:=kF HF hb;have hs2:=hb.size;clear hb;have HMdx:=zz hm;have HMrx:=zz hm2;clear hm hm2;go_upto_region 6 with (fail);generalize ee:World.alloc w2 _=w3_1;have hq1:=sizeA ee;replace HF:=fA HF ee;replace HMdx:=mA HMdx ee;replace HMrx:=mA HMrx ee;have HBm:=nB ee (w2.heap.size);clear ee;generalize ee:World.alloc w3_1 _=w3;have hq2:=sizeA ee;replace HF:=fA HF ee;replace HBm:=bA HBm ee;replace HMdx:=mA HMdx ee;replace HMrx:=mA HMrx ee;have HBf:=nB ee (w2.heap.size+1);clear ee
  have hsa3:w3.heap.size=w2.heap.size+2:=by omega
  clear hq1 hq2;have mc:=kc2 HBm;have fc:=kc3 HBf;have hI:=i01_0 w2 w3;have hZ:=i012 w2;obtain ⟨hnum,hne,hsz⟩:=ok_mod HRP.out;obtain ⟨t,ht⟩:∃ t,str (textB ds rs)=t:=⟨_,rfl⟩
  have htz:t.size≤204825:=by rw [←ht,str_size];exact hsz
  have HNUM:=zz hnum;have HNE:=zz hne;have HSZ:Hid ((textB ds rs).length≤100000000):=zz (by omega)
  have hbk:t.size≤4096→∃ ds' rs',modE t=.ok ds' rs'∧All2 DaS ds ds'∧All2 RuS rs rs':=fun h=>by
   obtain ⟨h1,h2,_⟩:=mod_fit HRP.out;exact mod_back h1 h2 (by rw [←ht,str_data0]) h
  have HBK:=zz hbk;have HT:=zz ht;clear hbk hsz hnum hne
  go_wp2_with (fail)
  clear mc fc;refine (showMod_any ds rs HSZ.out HNE.out HNUM.out _ _ _ _ _ _ _ (memW_b0 HMdx.out) (memW_b0 HMrx.out)).mono ?_;rintro _ w4 ⟨rfl,hb⟩;replace HBm:=kB HBm hb;replace HBf:=kB HBf hb;replace HMdx:=kM HMdx hb;replace HMrx:=kM HMrx hb;replace HF:=kF HF hb;have hs4:=hb.size;clear hb;rw [HT.out];clear hI hZ;have mc:=kc2 HBm;have fc:=kc3 HBf;have hI:=i01_0 w2 w4;clear ht
  go_wp2_with (fail)
  by_cases hlg:4096<t.size
  rotate_left
  ·
   have hb4:((4096:Int)<(t.size:Int))=False:=by simp;omega
   obtain ⟨es,ss,hy,hsd,hsr⟩:=HBK.out (by omega);have HRQ:=zz hy;have HSD:=zz hsd;have HSR:=zz hsr
   have hty:str (textB es ss)=t:=by rw [←text_alike hsd hsr];exact HT.out
   have HTY:=zz hty;obtain ⟨hnum,hne,hsz⟩:=ok_mod hy;have HNUM2:=zz hnum;have HNE2:=zz hne;have HSZ2:Hid ((textB es ss).length≤100000000):=zz (by omega);clear hy hsd hsr hty HBK hnum hne hsz;have hpp:=mparse_one t w4 (by omega);rw [HRQ.out] at hpp;clear mc fc;refine hpp.mono ?_;clear hpp;rintro _ w5 ⟨py,ny,ky,qy,my,ly,rfl,hb,hm,hm2⟩;dsimp only [Md1.ds,Md1.rs,Md1.k,Md1.l,Md1.c] at hm hm2 ⊢;replace HBm:=kB HBm hb;replace HBf:=kB HBf hb;replace HMdx:=kM HMdx hb;replace HMrx:=kM HMrx hb;replace HF:=kF HF hb;have hs5:=hb.size;clear hb;have HMdy:=zz hm;have HMry:=zz hm2;clear hm hm2;clear hI;have mc:=kc2 HBm;have fc:=kc3 HBf;have hI:=i01_0 w2 w5;go_upto_region 10 with (fail);clear mc fc;generalize ee:World.alloc w5 _=w6_1;have hq1:=sizeA ee;replace HF:=fA HF ee;replace HBm:=bA HBm ee;replace HBf:=bA HBf ee;replace HMdx:=mA HMdx ee;replace HMrx:=mA HMrx ee;replace HMdy:=mA HMdy ee;replace HMry:=mA HMry ee;have HBk:=nB ee (w5.heap.size);clear ee;generalize ee:World.alloc w6_1 _=w6;have hq2:=sizeA ee;replace HF:=fA HF ee;replace HBm:=bA HBm ee;replace HBf:=bA HBf ee;replace HBk:=bA HBk ee;replace HMdx:=mA HMdx ee;replace HMrx:=mA HMrx ee;replace HMdy:=mA HMdy ee;replace HMry:=mA HMry ee;have HBg:=nB ee (w5.heap.size+1);clear ee
   have hsa6:w6.heap.size=w5.heap.size+2:=by omega
   clear hq1 hq2;clear hI;have mc:=kc2 HBm;have fc:=kc3 HBf;have kc:=kc2 HBk;have gc:=kc3 HBg;have hI:=i01_01_0 w2 w5 w6;have hZ:=i01_012 w2 w5
   go_wp2_with (fail)
   clear mc fc kc gc;refine (refText_any ds rs HSZ.out HNUM.out _ _ _ _ _ _ _ (memW_b0 HMdx.out) (memW_b0 HMrx.out)).mono ?_;rintro _ w7 ⟨rfl,hb⟩;replace HBm:=kB HBm hb;replace HBf:=kB HBf hb;replace HBk:=kB HBk hb;replace HBg:=kB HBg hb;replace HMdx:=kM HMdx hb;replace HMrx:=kM HMrx hb;replace HMdy:=kM HMdy hb;replace HMry:=kM HMry hb;replace HF:=kF HF hb;have hs7:=hb.size;clear hb;rw [HT.out];clear hI hZ;have mc:=kc2 HBm;have fc:=kc3 HBf;have kc:=kc2 HBk;have gc:=kc3 HBg;have hI:=i01_01_0 w2 w5 w7
   go_wp2_with (fail)
   clear mc fc kc gc;refine (same_mod HSD.out HSR.out _ _ _ _ _ _ _ _ _ _ _ _ _ (memW_b0 HMdx.out) (memW_b0 HMrx.out) (memW_b0 HMdy.out) (memW_b0 HMry.out)).mono ?_;rintro _ w8 ⟨rfl,hb⟩;replace HBm:=kB HBm hb;replace HBf:=kB HBf hb;replace HBk:=kB HBk hb;replace HBg:=kB HBg hb;replace HMdx:=kM HMdx hb;replace HMrx:=kM HMrx hb;replace HMdy:=kM HMdy hb;replace HMry:=kM HMry hb;replace HF:=kF HF hb;have hs8:=hb.size;clear hb;clear hI;have mc:=kc2 HBm;have fc:=kc3 HBf;have kc:=kc2 HBk;have gc:=kc3 HBg;have hI:=i01_01_0 w2 w5 w8
   go_wp2_with (fail)
   clear mc fc kc gc;refine (showMod_any es ss HSZ2.out HNE2.out HNUM2.out _ _ _ _ _ _ _ (memW_b0 HMdy.out) (memW_b0 HMry.out)).mono ?_;rintro _ w9 ⟨rfl,hb⟩;replace HBm:=kB HBm hb;replace HBf:=kB HBf hb;replace HBk:=kB HBk hb;replace HBg:=kB HBg hb;replace HMdx:=kM HMdx hb;replace HMrx:=kM HMrx hb;replace HMdy:=kM HMdy hb;replace HMry:=kM HMry hb;replace HF:=kF HF hb;have hs9:=hb.size;clear hb;rw [HTY.out];clear hI;have mc:=kc2 HBm;have fc:=kc3 HBf;have kc:=kc2 HBk;have gc:=kc3 HBg;have hI:=i01_01_0 w2 w5 w9
   go_wp2_with (fail)
   clear mc fc kc gc;go_ret;exact ⟨rfl,refBelow HF.out⟩
  have hb4:((4096:Int)<(t.size:Int))=True:=by simp;omega
  obtain ⟨rq,hrq⟩:∃ rq,modE t=rq:=⟨_,rfl⟩;have HRQ:=zz hrq;clear hrq
  cases rq with
  | ok es ss=>
   have hpp:=mparse_one t w4 (by omega);rw [HRQ.out] at hpp;clear mc fc;refine hpp.mono ?_;clear hpp;rintro _ w5 ⟨py,ny,ky,qy,my,ly,rfl,hb,hm,hm2⟩;dsimp only [Md1.ds,Md1.rs,Md1.k,Md1.l,Md1.c] at hm hm2 ⊢;replace HBm:=kB HBm hb;replace HBf:=kB HBf hb;replace HMdx:=kM HMdx hb;replace HMrx:=kM HMrx hb;replace HF:=kF HF hb;have hs5:=hb.size;clear hb;have HMdy:=zz hm;have HMry:=zz hm2;clear hm hm2;clear hI;have mc:=kc2 HBm;have fc:=kc3 HBf;have hI:=i01_0 w2 w5;go_upto_region 10 with (fail);clear mc fc;generalize ee:World.alloc w5 _=w6_1;have hq1:=sizeA ee;replace HF:=fA HF ee;replace HBm:=bA HBm ee;replace HBf:=bA HBf ee;replace HMdx:=mA HMdx ee;replace HMrx:=mA HMrx ee;replace HMdy:=mA HMdy ee;replace HMry:=mA HMry ee;have HBk:=nB ee (w5.heap.size);clear ee;generalize ee:World.alloc w6_1 _=w6;have hq2:=sizeA ee;replace HF:=fA HF ee;replace HBm:=bA HBm ee;replace HBf:=bA HBf ee;replace HBk:=bA HBk ee;replace HMdx:=mA HMdx ee;replace HMrx:=mA HMrx ee;replace HMdy:=mA HMdy ee;replace HMry:=mA HMry ee;have HBg:=nB ee (w5.heap.size+1);clear ee
   have hsa6:w6.heap.size=w5.heap.size+2:=by omega
   clear hq1 hq2;clear hI;have mc:=kc2 HBm;have fc:=kc3 HBf;have kc:=kc2 HBk;have gc:=kc3 HBg;have hI:=i01_01_0 w2 w5 w6;have hZ:=i01_012 w2 w5
   go_wp2_with (fail)
   clear mc fc kc gc;refine (refText_any ds rs HSZ.out HNUM.out _ _ _ _ _ _ _ (memW_b0 HMdx.out) (memW_b0 HMrx.out)).mono ?_;rintro _ w7 ⟨rfl,hb⟩;replace HBm:=kB HBm hb;replace HBf:=kB HBf hb;replace HBk:=kB HBk hb;replace HBg:=kB HBg hb;replace HMdx:=kM HMdx hb;replace HMrx:=kM HMrx hb;replace HMdy:=kM HMdy hb;replace HMry:=kM HMry hb;replace HF:=kF HF hb;have hs7:=hb.size;clear hb;rw [HT.out];clear hI hZ;have mc:=kc2 HBm;have fc:=kc3 HBf;have kc:=kc2 HBk;have gc:=kc3 HBg;have hI:=i01_01_0 w2 w5 w7
   go_wp2_with (fail)
   clear mc fc kc gc;go_ret;exact ⟨rfl,refBelow HF.out⟩
  | bad kq lq cq=>
   have hpp:=mparse_one t w4 (by omega);rw [HRQ.out] at hpp;clear mc fc;refine hpp.mono ?_;clear hpp;rintro _ w5 ⟨py,ny,ky,qy,my,ly,rfl,hb,hm,hm2⟩;dsimp only [Md1.ds,Md1.rs,Md1.k,Md1.l,Md1.c] at hm hm2 ⊢;replace HBm:=kB HBm hb;replace HBf:=kB HBf hb;replace HMdx:=kM HMdx hb;replace HMrx:=kM HMrx hb;replace HF:=kF HF hb;have hs5:=hb.size;clear hb;clear hm hm2;clear hI;have mc:=kc2 HBm;have fc:=kc3 HBf;have hI:=i01_0 w2 w5;go_upto_region 10 with (fail);clear mc fc;generalize ee:World.alloc w5 _=w6_1;have hq1:=sizeA ee;replace HF:=fA HF ee;replace HBm:=bA HBm ee;replace HBf:=bA HBf ee;replace HMdx:=mA HMdx ee;replace HMrx:=mA HMrx ee;have HBk:=nB ee (w5.heap.size);clear ee;generalize ee:World.alloc w6_1 _=w6;have hq2:=sizeA ee;replace HF:=fA HF ee;replace HBm:=bA HBm ee;replace HBf:=bA HBf ee;replace HBk:=bA HBk ee;replace HMdx:=mA HMdx ee;replace HMrx:=mA HMrx ee;have HBg:=nB ee (w5.heap.size+1);clear ee
   have hsa6:w6.heap.size=w5.heap.size+2:=by omega
   clear hq1 hq2;clear hI;have mc:=kc2 HBm;have fc:=kc3 HBf;have kc:=kc2 HBk;have gc:=kc3 HBg;have hI:=i01_01_0 w2 w5 w6;have hZ:=i01_012 w2 w5
   go_wp2_with (fail)
   clear mc fc kc gc;refine (refText_any ds rs HSZ.out HNUM.out _ _ _ _ _ _ _ (memW_b0 HMdx.out) (memW_b0 HMrx.out)).mono ?_;rintro _ w7 ⟨rfl,hb⟩;replace HBm:=kB HBm hb;replace HBf:=kB HBf hb;replace HBk:=kB HBk hb;replace HBg:=kB HBg hb;replace HMdx:=kM HMdx hb;replace HMrx:=kM HMrx hb;replace HF:=kF HF hb;have hs7:=hb.size;clear hb;rw [HT.out];clear hI hZ;have mc:=kc2 HBm;have fc:=kc3 HBf;have kc:=kc2 HBk;have gc:=kc3 HBg;have hI:=i01_01_0 w2 w5 w7
   go_wp2_with (fail)
   clear mc fc kc gc;go_ret;exact ⟨rfl,refBelow HF.out⟩
 | bad kk l_ c_=>
  have hpp:=mparse_one s w1 (by omega);rw [HRP.out] at hpp;refine hpp.mono ?_;clear hpp;rintro _ w2 ⟨px,nx,kx,qx,mx,lx,rfl,hb,hm,hm2⟩;dsimp only [Md1.ds,Md1.rs,Md1.k,Md1.l,Md1.c] at hm hm2 ⊢;replace HF:=kF HF hb;have hs2:=hb.size;clear hb;clear hm hm2;go_upto_region 6 with (fail);generalize ee:World.alloc w2 _=w3_1;have hq1:=sizeA ee;replace HF:=fA HF ee;have HBm:=nB ee (w2.heap.size);clear ee;generalize ee:World.alloc w3_1 _=w3;have hq2:=sizeA ee;replace HF:=fA HF ee;replace HBm:=bA HBm ee;have HBf:=nB ee (w2.heap.size+1);clear ee
  have hsa3:w3.heap.size=w2.heap.size+2:=by omega
  clear hq1 hq2;have mc:=kc2 HBm;have fc:=kc3 HBf;have hI:=i01_0 w2 w3;have hZ:=i012 w2
  have hkk:(kk==0)=false:=by have h:=bad_mod HRP.out;simpa using h
  go_wp2_with (fail)
  clear mc fc;go_ret;exact ⟨rfl,refBelow HF.out⟩
end
end Go.Proofs.YtcoiagfeoonpbaaGreat
