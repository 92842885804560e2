/-
  show.Module: a program as a text. No condition but how it lies, and sizes.
-/
import Derived.Test.YtcoiagfeoonpbaaGreatSm44
import Derived.Test.YtcoiagfeoonpbaaGreatSm45
set_option maxHeartbeats 20000000
set_option maxRecDepth 100000
namespace Go.Proofs.YtcoiagfeoonpbaaGreat
section
open Go.RowKit
theorem showMod_any (ds:List Da) (rs:List Ru) (hz:(textB ds rs).length≤100000000) (hne:∀ d∈ds,d.cons≠[]) (hnum:∀ r∈rs,NumR r) (pd qr:Option Addr) (nd kd nr kr:Nat) (w:World) (h1:MemW w (.s 5 (ds.map Da.row)) (.slice pd nd kd)) (h2:MemW w (.s 11 (rs.map Ru.row)) (.slice qr nr kr)):
  Calls Tryz.prog 15 #[.agg #[.slice pd nd kd,.slice qr nr kr]] w fun e' w'=>e'=.returned (.string (str (textB ds rs)))∧Below w.heap.size w w':=by
 have HF:Hid (FarB w.heap.size w.heap.size w w):=zz (FarB.refl _ _ _);have H1:=zz h1;have H2:=zz h2;have HNM:=zz hnum;have HNE:=zz hne
 have hl1:ds.length=nd:=by have h:=h1.len.1;rw [List.length_map] at h;exact h
 have hl2:rs.length=nr:=by have h:=h2.len.1;rw [List.length_map] at h;exact h
 have hcap1:nd≤kd∧kd≤9223372036854775807:=h1.len.2;have hcap2:nr≤kr∧kr≤9223372036854775807:=h2.len.2;have HL1:=zz hl1;have HL2:=zz hl2;have HZ:Hid ((dlB ds).length+(rlB rs).length≤100000000):=zz (by rw [←List.length_append, ←textB_two];exact hz);clear h1 h2 hnum hl1 hl2 hz hne;go_enter Tryz.func15,Tryz.ntmps15
 go_wp2_with (fail)
 have HLD:=zz (BldS.new (World.alloc w (.cells #[.slice pd nd kd,.slice qr nr kr] 26)));rw [World.size_alloc] at HLD;generalize ee:(w.alloc (.cells #[.slice pd nd kd,.slice qr nr kr] 26))=w1_1 at *;have hq1:=sizeA ee;replace HF:=fA HF ee;have HBm:=nB ee (w.heap.size);clear ee;generalize ee:(w1_1.alloc (.cells #[.pointer none,.slice none 0 0] 95))=w1 at *;have hq2:=sizeA ee;replace HF:=fA HF ee;replace HBm:=bA HBm ee;have HBb:=nB ee (w.heap.size+1);clear ee
 have hsa1:w1.heap.size=w.heap.size+2:=by omega
 clear hq1 hq2;have mc:=kc2 HBm;have bc:=kc2 HBb;have hI:=i01_0 w w1;have hZ:=i012 w
 go_loopw [11] (fun i wr=>∃ k:Nat,k≤nd∧i=.int .i64 k∧Hid (BldS (w.heap.size+1) (w.heap.size+1) (dlB (ds.take k)) wr)∧Hid (FarB w.heap.size w.heap.size w wr)∧Hid (Bo wr w.heap.size 26 #[.slice pd nd kd,.slice qr nr kr])∧w.heap.size+2≤wr.heap.size) (fun i _=>nd - (intOf i).toNat)
 case atStart=>exact ⟨0,Nat.zero_le _,rfl,HLD,HF,HBm,by omega⟩
 case round=>
  clear HF HBm HLD HBb;obtain ⟨k,hk,rfl,HLD,HF,HBm,hws⟩:=hrel;have mc:=kc2 HBm;have hI:=i0_0 w wr
  by_cases hlt:k<nd
  ·
   have H0r:=zz (H1.out.keep (refBelow HF.out));obtain ⟨b,o,x,a1,m1,c1,a2,m2,c2,hb0,hb1,HX,x0,x1,x2,x3,x4,G0,G1⟩:=da_at H0r.out k (by rw [HL1.out];exact hlt);subst hb0;have GH0:=zz G0;have GH1:=zz G1;have hq:=HZ.out;have hat:=len_of_at dlB_app HX.out;rw [dlB_one,List.length_append,List.length_cons,List.length_nil] at hat;have hcut:=len_of_cut dlB_app ds k;have HXZ:Hid ((dataB x).length≤100000000):=zz (by omega);have HXM:=zz (List.mem_of_getElem? HX.out);obtain ⟨X,hX⟩:∃ X,str (dataB x)=X:=⟨_,rfl⟩
   have hXs:X.size=(dataB x).length:=by rw [←hX,str_size]
   have hXn:(dlB (ds.take k)).length+(X++(⟨#[10]⟩:ByteArray)).size≤100000000:=by rw [app_sz,show (⟨#[10]⟩:ByteArray).size=1 from rfl];omega
   have HXn:=zz hXn;have HNX:Hid (dlB (ds.take (k+1))=(dlB (ds.take k))++(X++(⟨#[10]⟩:ByteArray)).data.toList):=zz (by rw [dlB_at HX.out,ba_nl, ←hX,str_data0])
   have i1: ¬(9223372036854775807<X.size+1):=by omega
   have hXX:=hX;clear G0 G1 hq hat hcut hX hXs hXn H0r
   go_wp2_with (fail)
   have GM0:=zz (MemW.keep (w:=wr) GH0.out (below_new wr (.cells #[.string x.name,.slice a1 m1 c1,.slice a2 m2 c2,.int .i64 x.l,.int .i64 x.c] 40)));have GM1:=zz (MemW.keep (w:=wr) GH1.out (below_new wr (.cells #[.string x.name,.slice a1 m1 c1,.slice a2 m2 c2,.int .i64 x.l,.int .i64 x.c] 40)));replace HLD:=zz (HLD.out.keep (below_new wr (.cells #[.string x.name,.slice a1 m1 c1,.slice a2 m2 c2,.int .i64 x.l,.int .i64 x.c] 40)));clear mc;generalize ee:(wr.alloc (.cells #[.string x.name,.slice a1 m1 c1,.slice a2 m2 c2,.int .i64 x.l,.int .i64 x.c] 40))=w2 at *;have hsa2:=sizeA ee;replace HF:=fA HF ee;replace HBm:=bA HBm ee;have HBt:=nB ee (wr.heap.size);clear ee;clear hI;have mc:=kc2 HBm;have tc:=kc5 HBt;have hI:=chain3 w.heap.size wr.heap.size w2.heap.size;have hZ:=chain3 w.heap.size wr.heap.size (wr.heap.size+1);clear x0 x1 x2 x3 x4;clear mc tc;refine (showData_any x HXZ.out (HNE.out x HXM.out) _ _ _ _ _ _ _ GM0.out GM1.out).mono ?_;rintro _ w3 ⟨rfl,hb⟩;replace HLD:=zz (HLD.out.keep hb);replace HBm:=kB HBm hb;replace HBt:=kB HBt hb;replace HF:=kF HF hb;have hs3:=hb.size;clear hb;rw [hXX];clear hI hZ;have mc:=kc2 HBm;have tc:=kc5 HBt;have hI:=chain3 w.heap.size wr.heap.size w3.heap.size
   go_wp2_with (fail)
   clear mc tc;clear hI
   have hB9:w.heap.size+1≤w3.heap.size:=by omega
   have HC:=writeS_any (X++⟨#[10]⟩) w3 HLD.out HXn.out hB9;refine HC.mono ?_;clear HC hB9;rintro _ w4 ⟨rfl,hb0,hb⟩;replace HLD:=zz hb0;replace HBm:=zz (HBm.out.below hb (by omega));replace HF:=zz (Far.trans HF.out (below_far hb (by omega)));have hw9:=hb.size;clear hb hb0 HBt;have mc:=kc2 HBm;have hI:=i0_0 w w4
   go_wp2_with (fail)
   clear mc
   go_roundw
   case rel=>exact ⟨k+1,by omega,by go_num,zz (by rw [HNX.out];exact HLD.out),HF,HBm,by omega⟩
   case measure=>simp [intOf];omega
  have hkn:ds.take k=ds:=List.take_of_length_le (by rw [HL1.out];omega);rw [hkn] at HLD;clear hkn
  go_wp2_with (fail)
  clear mc;clear hI;have mc:=kc2 HBm;have hI:=i0_0 w wr
  go_loopw [23] (fun i wr=>∃ k:Nat,k≤nr∧i=.int .i64 k∧Hid (BldS (w.heap.size+1) (w.heap.size+1) (dlB ds++rlB (rs.take k)) wr)∧Hid (FarB w.heap.size w.heap.size w wr)∧Hid (Bo wr w.heap.size 26 #[.slice pd nd kd,.slice qr nr kr])∧w.heap.size+2≤wr.heap.size) (fun i _=>nr - (intOf i).toNat)
  case atStart=>exact ⟨0,Nat.zero_le _,rfl,zz (by rw [List.take_zero,show rlB []=[] from rfl,List.append_nil];exact HLD.out),HF,HBm,by omega⟩
  case round=>
   clear HF HBm HLD;obtain ⟨k,hk,rfl,HLD,HF,HBm,hws⟩:=hrel;have mc:=kc2 HBm;have hI:=i0_0 w wr
   by_cases hlt:k<nr
   rotate_left
   ·
    have hkn:rs.take k=rs:=List.take_of_length_le (by rw [HL2.out];omega);have HQ:=zz (textB_two ds rs);rw [hkn, ←HQ.out] at HLD;clear hkn
    go_wp2_with (fail)
    clear mc;clear hI;refine (stringS_any _ HLD.out (by omega)).mono ?_;rintro _ w2 ⟨rfl,hb⟩;replace HBm:=zz (HBm.out.below hb (by omega));replace HF:=zz (Far.trans HF.out (below_far hb (by omega)));have hw9:=hb.size;clear hb HLD;have mc:=kc2 HBm;have hI:=i0_0 w w2
    go_wp2_with (fail)
    clear mc;go_ret;exact ⟨rfl,refBelow HF.out⟩
   have H0r:=zz (H2.out.keep (refBelow HF.out));obtain ⟨b,o,x,a1,m1,c1,a2,m2,c2,a3,m3,c3,hb0,hb1,HX,x0,x1,x2,x3,x4,x5,x6,x7,x8,x9,x10,G0,G1,G2⟩:=ru_at H0r.out k (by rw [HL2.out];exact hlt);subst hb0;have GH0:=zz G0;have GH1:=zz G1;have GH2:=zz G2;have hq:=HZ.out;have hat:=len_of_at rlB_app HX.out;rw [rlB_one,List.length_append,List.length_cons,List.length_nil] at hat;have hcut:=len_of_cut rlB_app rs k;have HXZ:Hid ((ruleB x).length≤100000000):=zz (by omega);have HXM:=zz (List.mem_of_getElem? HX.out);obtain ⟨X,hX⟩:∃ X,str (ruleB x)=X:=⟨_,rfl⟩
   have hXs:X.size=(ruleB x).length:=by rw [←hX,str_size]
   have hXn:(dlB ds++rlB (rs.take k)).length+(X++(⟨#[10]⟩:ByteArray)).size≤100000000:=by rw [app_sz,show (⟨#[10]⟩:ByteArray).size=1 from rfl];rw [List.length_append];omega
   have HXn:=zz hXn;have HNX:Hid (dlB ds++rlB (rs.take (k+1))=(dlB ds++rlB (rs.take k))++(X++(⟨#[10]⟩:ByteArray)).data.toList):=zz (by rw [rlB_at HX.out, ←List.append_assoc,ba_nl, ←hX,str_data0])
   have i1: ¬(9223372036854775807<X.size+1):=by omega
   have hXX:=hX;clear G0 G1 G2 hq hat hcut hX hXs hXn H0r
   go_wp2_with (fail)
   have GM0:=zz (MemW.keep (w:=wr) GH0.out (below_new wr (.cells #[.string x.name,.slice a1 m1 c1,.slice a2 m2 c2,.int .i64 x.body.kind,.string x.body.name,.int .i64 x.body.n,.slice a3 m3 c3,.int .i64 x.body.line,.int .i64 x.body.col,.int .i64 x.l,.int .i64 x.c] 62)));have GM1:=zz (MemW.keep (w:=wr) GH1.out (below_new wr (.cells #[.string x.name,.slice a1 m1 c1,.slice a2 m2 c2,.int .i64 x.body.kind,.string x.body.name,.int .i64 x.body.n,.slice a3 m3 c3,.int .i64 x.body.line,.int .i64 x.body.col,.int .i64 x.l,.int .i64 x.c] 62)));have GM2:=zz (MemW.keep (w:=wr) GH2.out (below_new wr (.cells #[.string x.name,.slice a1 m1 c1,.slice a2 m2 c2,.int .i64 x.body.kind,.string x.body.name,.int .i64 x.body.n,.slice a3 m3 c3,.int .i64 x.body.line,.int .i64 x.body.col,.int .i64 x.l,.int .i64 x.c] 62)));replace HLD:=zz (HLD.out.keep (below_new wr (.cells #[.string x.name,.slice a1 m1 c1,.slice a2 m2 c2,.int .i64 x.body.kind,.string x.body.name,.int .i64 x.body.n,.slice a3 m3 c3,.int .i64 x.body.line,.int .i64 x.body.col,.int .i64 x.l,.int .i64 x.c] 62)));clear mc;generalize ee:(wr.alloc (.cells #[.string x.name,.slice a1 m1 c1,.slice a2 m2 c2,.int .i64 x.body.kind,.string x.body.name,.int .i64 x.body.n,.slice a3 m3 c3,.int .i64 x.body.line,.int .i64 x.body.col,.int .i64 x.l,.int .i64 x.c] 62))=w2 at *;have hsa2:=sizeA ee;replace HF:=fA HF ee;replace HBm:=bA HBm ee;have HBt:=nB ee (wr.heap.size);clear ee;clear hI;have mc:=kc2 HBm;have tc:=HBt.out.c11z;have hI:=chain3 w.heap.size wr.heap.size w2.heap.size;have hZ:=chain3 w.heap.size wr.heap.size (wr.heap.size+1);clear x0 x1 x2 x3 x4 x5 x6 x7 x8 x9 x10;clear mc tc;refine (showRule_any x HXZ.out _ _ _ _ _ _ _ _ _ _ GM0.out GM1.out GM2.out (HNM.out x HXM.out).1 (HNM.out x HXM.out).2.1 (HNM.out x HXM.out).2.2).mono ?_;rintro _ w3 ⟨rfl,hb⟩;replace HLD:=zz (HLD.out.keep hb);replace HBm:=kB HBm hb;replace HBt:=kB HBt hb;replace HF:=kF HF hb;have hs3:=hb.size;clear hb;rw [hXX];clear hI hZ;have mc:=kc2 HBm;have tc:=HBt.out.c11z;have hI:=chain3 w.heap.size wr.heap.size w3.heap.size
   go_wp2_with (fail)
   clear mc tc;clear hI
   have hB9:w.heap.size+1≤w3.heap.size:=by omega
   have HC:=writeS_any (X++⟨#[10]⟩) w3 HLD.out HXn.out hB9;refine HC.mono ?_;clear HC hB9;rintro _ w4 ⟨rfl,hb0,hb⟩;replace HLD:=zz hb0;replace HBm:=zz (HBm.out.below hb (by omega));replace HF:=zz (Far.trans HF.out (below_far hb (by omega)));have hw9:=hb.size;clear hb hb0 HBt;have mc:=kc2 HBm;have hI:=i0_0 w w4
   go_wp2_with (fail)
   clear mc
   go_roundw
   case rel=>exact ⟨k+1,by omega,by go_num,zz (by rw [HNX.out];exact HLD.out),HF,HBm,by omega⟩
   case measure=>simp [intOf];omega
end
end Go.Proofs.YtcoiagfeoonpbaaGreat
