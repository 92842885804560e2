/-
  The document's Rule: a rule as a text. No condition but how it lies, and sizes.
-/
import Derived.Test.YtcoiagfeoonpbaaGreatSm43
set_option maxHeartbeats 20000000
set_option maxRecDepth 100000
namespace Go.Proofs.YtcoiagfeoonpbaaGreat
section
open Go.RowKit
theorem refRule_any (r:Ru) (hz:(ruleB r).length≤100000000) (a1 a2 a3:Option Addr) (n1 c1 n2 c2 n3 c3:Nat) (w:World) (h1:MemW w (.s 6 (Ex.rows r.pats)) (.slice a1 n1 c1)) (h2:MemW w (.s 6 (Ex.rows r.guard)) (.slice a2 n2 c2)) (h3:MemW w (.s 6 (Ex.rows r.body.args)) (.slice a3 n3 c3)) (u1:∀ x∈r.pats,NumX x) (u2:∀ x∈r.guard,NumX x) (u3:NumX r.body):
  Calls Tryz.prog 50 #[.agg #[.string r.name,.slice a1 n1 c1,.slice a2 n2 c2,.int .i64 r.body.kind,.string r.body.name,.int .i64 r.body.n,.slice a3 n3 c3,.int .i64 r.body.line,.int .i64 r.body.col,.int .i64 r.l,.int .i64 r.c]] w fun e' w'=>e'=.returned (.string (str (ruleB r)))∧Below w.heap.size w w':=by
 have HF:Hid (FarB w.heap.size w.heap.size w w):=zz (FarB.refl _ _ _);have H1:=zz h1;have H2:=zz h2;have H3:=zz h3;have U1:=zz u1;have U2:=zz u2;have U3:=zz u3
 have hl1:r.pats.length=n1:=by have h:=h1.len.1;rw [Ex.rows_len] at h;exact h
 have hl2:r.guard.length=n2:=by have h:=h2.len.1;rw [Ex.rows_len] at h;exact h
 have hcap1:n1≤c1∧c1≤9223372036854775807:=h1.len.2;have hcap2:n2≤c2∧c2≤9223372036854775807:=h2.len.2;have HL1:=zz hl1;have HL2:=zz hl2;have hzz:=rule_lens r;have HZ:Hid (r.name.size+((patsB r.pats).length+((guardB r.guard).length+((showX r.body).size+3)))≤100000000):=zz (by rw [←hzz];exact hz);clear h1 h2 h3 u1 u2 u3 hl1 hl2 hz hzz;go_enter Tryz.func50,Tryz.ntmps50
 go_wp2_with (fail)
 generalize ee:World.alloc w _=w1;have hsa1:=sizeA ee;replace HF:=fA HF ee;have HBr:=nB ee (w.heap.size);clear ee;have rc:=HBr.out.c11z;have hI:=i0_0 w w1;have hZ:=i01 w
 go_loopw [3,13] (fun v i wr=>∃ k:Nat,k≤n1∧i=.int .i64 k∧v=.string (str (r.name.data.toList++patsB (r.pats.take k)))∧Hid (FarB w.heap.size w.heap.size w wr)∧Hid (Bo wr w.heap.size 62 #[.string r.name,.slice a1 n1 c1,.slice a2 n2 c2,.int .i64 r.body.kind,.string r.body.name,.int .i64 r.body.n,.slice a3 n3 c3,.int .i64 r.body.line,.int .i64 r.body.col,.int .i64 r.l,.int .i64 r.c])∧w.heap.size+1≤wr.heap.size) (fun _ i _=>n1 - (intOf i).toNat)
 case atStart=>exact ⟨0,Nat.zero_le _,rfl,(by rw [List.take_zero,patsB,List.append_nil,str_ba]),HF,HBr,by omega⟩
 case round=>
  clear HF HBr;obtain ⟨k,hk,rfl,rfl,HF,HBr,hws⟩:=hrel;have rc:=HBr.out.c11z;have hI:=i0_0 w wr
  by_cases hlt:k<n1
  ·
   obtain ⟨x,hx⟩:∃ x,r.pats[k]?=some x:=⟨_,List.getElem?_eq_getElem (by rw [HL1.out];exact hlt)⟩;have HXN:=zz (U1.out x (List.mem_of_getElem? hx));have hq:=HZ.out;have hat:=len_of_at patsB_app hx
   have hone:(patsB [x]).length=1+(patX x).size:=by rw [patsB];simp only [List.length_cons,List.length_append,length_data,patsB,List.length_nil];omega
   obtain ⟨X,hX⟩:∃ X,patX x=X:=⟨_,rfl⟩
   have hXs:X.size≤100000000:=by rw [←hX];omega
   have HSX:Hid ((showX x).size≤100000000):=zz (by have :=patX_ge x;rw [hX] at this;omega)
   obtain ⟨S,hS⟩:∃ S,str (r.name.data.toList++patsB (r.pats.take k))=S:=⟨_,rfl⟩
   have hSs:S.size≤100000000:=by rw [←hS,str_size,List.length_append,length_data];omega
   rw [hS]
   have HNX:Hid (str (r.name.data.toList++patsB (r.pats.take (k+1)))=S++(⟨#[32]⟩++X)):=zz (by
    rw [patsB_at hx, ←hS, ←hX, ←List.append_assoc,str_add (r.name.data.toList++patsB (r.pats.take k))]
    congr 1)
   obtain ⟨b,o,ax,nx,cx,hb0,hi0,_,_,x0,x1,x2,x3,x4,x5,GX⟩:=one_at (show MemW wr _ _ from H1.out.keep (refBelow HF.out)) (i:=k) hx (k:=k * 6) rfl;subst hb0;have hXX:=hX;clear hx hat hone hX hS hq
   have i1: ¬(9223372036854775807<1+X.size):=by omega
   have i2: ¬(9223372036854775807<S.size+(1+X.size)):=by omega
   go_wp2_with (fail)
   have GXM:=zz (MemW.keep (w:=wr) GX.out (below_new wr (.cells #[.int .i64 x.kind,.string x.name,.int .i64 x.n,.slice ax nx cx,.int .i64 x.line,.int .i64 x.col] 60)));clear rc;generalize ee:(wr.alloc (.cells #[.int .i64 x.kind,.string x.name,.int .i64 x.n,.slice ax nx cx,.int .i64 x.line,.int .i64 x.col] 60))=w2 at *;have hsa2:=sizeA ee;replace HF:=fA HF ee;replace HBr:=bA HBr ee;have HBt:=nB ee (wr.heap.size);clear ee;clear hI;have rc:=HBr.out.c11z;have tc:=kc6 HBt;have hI:=chain3 w.heap.size wr.heap.size w2.heap.size;have hZ:=chain3 w.heap.size wr.heap.size (wr.heap.size+1);clear x0 x1 x2 x3 x4 x5;clear rc tc;refine (refPat_any x HSX.out _ _ _ _ GXM.out HXN.out).mono ?_;rintro _ w3 ⟨rfl,hb⟩;replace HBr:=kB HBr hb;replace HBt:=kB HBt hb;replace HF:=kF HF hb;have hs3:=hb.size;clear hb;rw [hXX];clear hI hZ;have rc:=HBr.out.c11z;have tc:=kc6 HBt;have hI:=chain3 w.heap.size wr.heap.size w3.heap.size
   go_wp2_with (fail)
   clear rc tc
   go_roundw
   case rel=>exact ⟨k+1,by omega,by go_num,by rw [HNX.out],HF,HBr,by omega⟩
   case measure=>simp [intOf];omega
  have hkn:r.pats.take k=r.pats:=List.take_of_length_le (by rw [HL1.out];omega);rw [hkn];clear hkn
  go_wp2_with (fail)
  clear rc;clear hI;have rc:=HBr.out.c11z;have hI:=i0_0 w wr
  go_loopw [3,26] (fun v i wr=>∃ k:Nat,k≤n2∧i=.int .i64 k∧v=.string (str ((r.name.data.toList++patsB r.pats)++guardB (r.guard.take k)))∧Hid (FarB w.heap.size w.heap.size w wr)∧Hid (Bo wr w.heap.size 62 #[.string r.name,.slice a1 n1 c1,.slice a2 n2 c2,.int .i64 r.body.kind,.string r.body.name,.int .i64 r.body.n,.slice a3 n3 c3,.int .i64 r.body.line,.int .i64 r.body.col,.int .i64 r.l,.int .i64 r.c])∧w.heap.size+1≤wr.heap.size) (fun _ i _=>n2 - (intOf i).toNat)
  case atStart=>exact ⟨0,Nat.zero_le _,rfl,(by rw [List.take_zero,guardB,List.append_nil]),HF,HBr,by omega⟩
  case round=>
   clear HF HBr;obtain ⟨k,hk,rfl,rfl,HF,HBr,hws⟩:=hrel;have rc:=HBr.out.c11z;have hI:=i0_0 w wr
   by_cases hlt:k<n2
   rotate_left
   ·
    have hkn:r.guard.take k=r.guard:=List.take_of_length_le (by rw [HL2.out];omega);rw [hkn];obtain ⟨S,hS⟩:∃ S,str ((r.name.data.toList++patsB r.pats)++guardB r.guard)=S:=⟨_,rfl⟩;obtain ⟨X,hX⟩:∃ X,showX r.body=X:=⟨_,rfl⟩;have hq:=HZ.out
    have hSs:S.size≤100000000:=by rw [←hS,str_size,List.length_append,List.length_append,length_data];omega
    have hXs:X.size≤100000000:=by rw [←hX];omega
    have HSX:Hid ((showX r.body).size≤100000000):=zz (by rw [hX];exact hXs)
    have HQ:Hid (str (ruleB r)=(S++⟨#[32,61,32]⟩)++X):=zz (by
     have q:str ((((r.name.data.toList++patsB r.pats)++guardB r.guard)++[32,61,32])++(showX r.body).data.toList)=(S++⟨#[32,61,32]⟩)++X:=by
      rw [str_add,str_add,hS,str_ba,hX]
      rfl
     rw [←q];unfold ruleB
     congr 1
     simp)
    rw [hS]
    have i1: ¬(9223372036854775807<S.size+3):=by omega
    have i2: ¬(9223372036854775807<S.size+3+X.size):=by omega
    have hXX:=hX;clear hkn hS hX hq
    go_wp2_with (fail)
    clear rc;refine (refX_any r.body _ _ _ _ (H3.out.keep (refBelow HF.out)) U3.out HSX.out).mono ?_;rintro _ w2 ⟨rfl,hb⟩;replace HBr:=kB HBr hb;replace HF:=kF HF hb;have hs2:=hb.size;clear hb;rw [hXX];clear hI;have rc:=HBr.out.c11z;have hI:=i0_0 w w2
    go_wp2_with (fail)
    clear rc;go_ret;exact ⟨congrArg (fun s=>Ending.returned (Value.string s)) HQ.out.symm,refBelow HF.out⟩
   obtain ⟨x,hx⟩:∃ x,r.guard[k]?=some x:=⟨_,List.getElem?_eq_getElem (by rw [HL2.out];exact hlt)⟩;have HXN:=zz (U2.out x (List.mem_of_getElem? hx));have hq:=HZ.out;have hat:=len_of_at guardB_app hx
   have hone:(guardB [x]).length=3+(showX x).size:=by rw [guardB];simp only [List.length_cons,List.length_append,length_data,guardB,List.length_nil];omega
   obtain ⟨X,hX⟩:∃ X,showX x=X:=⟨_,rfl⟩
   have hXs:X.size≤100000000:=by rw [←hX];omega
   have HSX:Hid ((showX x).size≤100000000):=zz (by rw [hX];exact hXs);obtain ⟨S,hS⟩:∃ S,str ((r.name.data.toList++patsB r.pats)++guardB (r.guard.take k))=S:=⟨_,rfl⟩
   have hSs:S.size≤100000000:=by rw [←hS,str_size,List.length_append,List.length_append,length_data];omega
   rw [hS]
   have HNX:Hid (str ((r.name.data.toList++patsB r.pats)++guardB (r.guard.take (k+1)))=S++(⟨#[32,124,32]⟩++X)):=zz (by
    rw [guardB_at hx, ←hS, ←hX, ←List.append_assoc,str_add ((r.name.data.toList++patsB r.pats)++guardB (r.guard.take k))]
    congr 1)
   obtain ⟨b,o,ax,nx,cx,hb0,hi0,_,_,x0,x1,x2,x3,x4,x5,GX⟩:=one_at (show MemW wr _ _ from H2.out.keep (refBelow HF.out)) (i:=k) hx (k:=k * 6) rfl;subst hb0;have hXX:=hX;clear hx hat hone hX hS hq
   have i1: ¬(9223372036854775807<3+X.size):=by omega
   have i2: ¬(9223372036854775807<S.size+(3+X.size)):=by omega
   go_wp2_with (fail)
   have GXM:=zz (MemW.keep (w:=wr) GX.out (below_new wr (.cells #[.int .i64 x.kind,.string x.name,.int .i64 x.n,.slice ax nx cx,.int .i64 x.line,.int .i64 x.col] 60)));clear rc;generalize ee:(wr.alloc (.cells #[.int .i64 x.kind,.string x.name,.int .i64 x.n,.slice ax nx cx,.int .i64 x.line,.int .i64 x.col] 60))=w2 at *;have hsa2:=sizeA ee;replace HF:=fA HF ee;replace HBr:=bA HBr ee;have HBt:=nB ee (wr.heap.size);clear ee;clear hI;have rc:=HBr.out.c11z;have tc:=kc6 HBt;have hI:=chain3 w.heap.size wr.heap.size w2.heap.size;have hZ:=chain3 w.heap.size wr.heap.size (wr.heap.size+1);clear x0 x1 x2 x3 x4 x5;clear rc tc;refine (refX_any x _ _ _ _ GXM.out HXN.out HSX.out).mono ?_;rintro _ w3 ⟨rfl,hb⟩;replace HBr:=kB HBr hb;replace HBt:=kB HBt hb;replace HF:=kF HF hb;have hs3:=hb.size;clear hb;rw [hXX];clear hI hZ;have rc:=HBr.out.c11z;have tc:=kc6 HBt;have hI:=chain3 w.heap.size wr.heap.size w3.heap.size
   go_wp2_with (fail)
   clear rc tc
   go_roundw
   case rel=>exact ⟨k+1,by omega,by go_num,by rw [HNX.out],HF,HBr,by omega⟩
   case measure=>simp [intOf];omega
end
section
open Go.RowKit
def dlB (ds:List Da):List UInt8:=linesB (ds.map dataB)
def rlB (rs:List Ru):List UInt8:=linesB (rs.map ruleB)
theorem dlB_app (l m:List Da):dlB (l++m)=dlB l++dlB m:=by unfold dlB;rw [List.map_append,linesB_add]
theorem rlB_app (l m:List Ru):rlB (l++m)=rlB l++rlB m:=by unfold rlB;rw [List.map_append,linesB_add]
theorem textB_two (ds:List Da) (rs:List Ru):textB ds rs=dlB ds++rlB rs:=by unfold textB dlB rlB;rw [linesB_add]
theorem dlB_one (x:Da):dlB [x]=dataB x++[10]:=by unfold dlB;rw [List.map_cons,List.map_nil,linesB,linesB]
theorem rlB_one (x:Ru):rlB [x]=ruleB x++[10]:=by unfold rlB;rw [List.map_cons,List.map_nil,linesB,linesB]
theorem dlB_at {l:List Da} {k:Nat} {x:Da} (h:l[k]?=some x):dlB (l.take (k+1))=dlB (l.take k)++(dataB x++[10]):=by rw [take_at h,dlB_app,dlB_one]
theorem rlB_at {l:List Ru} {k:Nat} {x:Ru} (h:l[k]?=some x):rlB (l.take (k+1))=rlB (l.take k)++(ruleB x++[10]):=by rw [take_at h,rlB_app,rlB_one]
def NumR (r:Ru):Prop:=(∀ x∈r.pats,NumX x)∧(∀ x∈r.guard,NumX x)∧NumX r.body
theorem str_nl (l:List UInt8):str (l++[10])=str l++⟨#[10]⟩:=str_add _ _
theorem ba_nl (s:ByteArray):(s++(⟨#[10]⟩:ByteArray)).data.toList=s.data.toList++[10]:=by rw [app_data]
theorem str_data0 (l:List UInt8):(str l).data.toList=l:=by simp [str]
end
section
open Go.RowKit
theorem refText_any (ds:List Da) (rs:List Ru) (hz:(textB ds rs).length≤100000000) (hnum:∀ r∈rs,NumR r) (pd qr:Option Addr) (nd kd nr kr:Nat) (w:World) (h1:MemW w (.s 5 (ds.map Da.row)) (.slice pd nd kd)) (h2:MemW w (.s 11 (rs.map Ru.row)) (.slice qr nr kr)):
  Calls Tryz.prog 16 #[.agg #[.slice pd nd kd,.slice qr nr kr]] w fun e' w'=>e'=.returned (.string (str (textB ds rs)))∧Below w.heap.size w w':=by
 have HF:Hid (FarB w.heap.size w.heap.size w w):=zz (FarB.refl _ _ _);have H1:=zz h1;have H2:=zz h2;have HNM:=zz hnum
 have hl1:ds.length=nd:=by have h:=h1.len.1;rw [List.length_map] at h;exact h
 have hl2:rs.length=nr:=by have h:=h2.len.1;rw [List.length_map] at h;exact h
 have hcap1:nd≤kd∧kd≤9223372036854775807:=h1.len.2;have hcap2:nr≤kr∧kr≤9223372036854775807:=h2.len.2;have HL1:=zz hl1;have HL2:=zz hl2;have HZ:Hid ((dlB ds).length+(rlB rs).length≤100000000):=zz (by rw [←List.length_append, ←textB_two];exact hz);clear h1 h2 hnum hl1 hl2 hz;go_enter Tryz.func16,Tryz.ntmps16
 go_wp2_with (fail)
 generalize ee:World.alloc w _=w1;have hsa1:=sizeA ee;replace HF:=fA HF ee;have HBm:=nB ee (w.heap.size);clear ee;have mc:=kc2 HBm;have hI:=i0_0 w w1;have hZ:=i01 w
 go_loopw [3,11] (fun v i wr=>∃ k:Nat,k≤nd∧i=.int .i64 k∧v=.string (str (dlB (ds.take k)))∧Hid (FarB w.heap.size w.heap.size w wr)∧Hid (Bo wr w.heap.size 26 #[.slice pd nd kd,.slice qr nr kr])∧w.heap.size+1≤wr.heap.size) (fun _ i _=>nd - (intOf i).toNat)
 case atStart=>exact ⟨0,Nat.zero_le _,rfl,rfl,HF,HBm,by omega⟩
 case round=>
  clear HF HBm;obtain ⟨k,hk,rfl,rfl,HF,HBm,hws⟩:=hrel;have mc:=kc2 HBm;have hI:=i0_0 w wr
  by_cases hlt:k<nd
  ·
   have H0r:=zz (H1.out.keep (refBelow HF.out));obtain ⟨b,o,x,a1,m1,c1,a2,m2,c2,hb0,hb1,HX,x0,x1,x2,x3,x4,G0,G1⟩:=da_at H0r.out k (by rw [HL1.out];exact hlt);subst hb0;have GH0:=zz G0;have GH1:=zz G1;have hq:=HZ.out;have hat:=len_of_at dlB_app HX.out;rw [dlB_one,List.length_append,List.length_cons,List.length_nil] at hat;have hcut:=len_of_cut dlB_app ds k;have HXZ:Hid ((dataB x).length≤100000000):=zz (by omega);have HXM:=zz (List.mem_of_getElem? HX.out);obtain ⟨X,hX⟩:∃ X,str (dataB x)=X:=⟨_,rfl⟩
   have hXs:X.size=(dataB x).length:=by rw [←hX,str_size]
   obtain ⟨S,hS⟩:∃ S,str (dlB (ds.take k))=S:=⟨_,rfl⟩
   have hSs:S.size+X.size≤100000000:=by rw [←hS,str_size];omega
   rw [hS];have HNX:Hid (str (dlB (ds.take (k+1)))=S++(X++⟨#[10]⟩)):=zz (by rw [dlB_at HX.out, ←hS, ←hX,str_add,str_nl])
   have i1: ¬(9223372036854775807<X.size+1):=by omega
   have i2: ¬(9223372036854775807<S.size+(X.size+1)):=by omega
   have hXX:=hX;clear G0 G1 hq hat hcut hS hX hXs H0r
   go_wp2_with (fail)
   have GM0:=zz (MemW.keep (w:=wr) GH0.out (below_new wr (.cells #[.string x.name,.slice a1 m1 c1,.slice a2 m2 c2,.int .i64 x.l,.int .i64 x.c] 40)));have GM1:=zz (MemW.keep (w:=wr) GH1.out (below_new wr (.cells #[.string x.name,.slice a1 m1 c1,.slice a2 m2 c2,.int .i64 x.l,.int .i64 x.c] 40)));clear mc;generalize ee:(wr.alloc (.cells #[.string x.name,.slice a1 m1 c1,.slice a2 m2 c2,.int .i64 x.l,.int .i64 x.c] 40))=w2 at *;have hsa2:=sizeA ee;replace HF:=fA HF ee;replace HBm:=bA HBm ee;have HBt:=nB ee (wr.heap.size);clear ee;clear hI;have mc:=kc2 HBm;have tc:=kc5 HBt;have hI:=chain3 w.heap.size wr.heap.size w2.heap.size;have hZ:=chain3 w.heap.size wr.heap.size (wr.heap.size+1);clear x0 x1 x2 x3 x4;clear mc tc;refine (refData_any x HXZ.out _ _ _ _ _ _ _ GM0.out GM1.out).mono ?_;rintro _ w3 ⟨rfl,hb⟩;replace HBm:=kB HBm hb;replace HBt:=kB HBt hb;replace HF:=kF HF hb;have hs3:=hb.size;clear hb;rw [hXX];clear hI hZ;have mc:=kc2 HBm;have tc:=kc5 HBt;have hI:=chain3 w.heap.size wr.heap.size w3.heap.size
   go_wp2_with (fail)
   clear mc tc
   go_roundw
   case rel=>exact ⟨k+1,by omega,by go_num,by rw [HNX.out],HF,HBm,by omega⟩
   case measure=>simp [intOf];omega
  have hkn:ds.take k=ds:=List.take_of_length_le (by rw [HL1.out];omega);rw [hkn];clear hkn
  go_wp2_with (fail)
  clear mc;clear hI;have mc:=kc2 HBm;have hI:=i0_0 w wr
  go_loopw [3,24] (fun v i wr=>∃ k:Nat,k≤nr∧i=.int .i64 k∧v=.string (str (dlB ds++rlB (rs.take k)))∧Hid (FarB w.heap.size w.heap.size w wr)∧Hid (Bo wr w.heap.size 26 #[.slice pd nd kd,.slice qr nr kr])∧w.heap.size+1≤wr.heap.size) (fun _ i _=>nr - (intOf i).toNat)
  case atStart=>exact ⟨0,Nat.zero_le _,rfl,by rw [List.take_zero,show rlB []=[] from rfl,List.append_nil],HF,HBm,by omega⟩
  case round=>
   clear HF HBm;obtain ⟨k,hk,rfl,rfl,HF,HBm,hws⟩:=hrel;have mc:=kc2 HBm;have hI:=i0_0 w wr
   by_cases hlt:k<nr
   rotate_left
   ·
    have hkn:rs.take k=rs:=List.take_of_length_le (by rw [HL2.out];omega);have HQ:=zz (textB_two ds rs);rw [hkn, ←HQ.out];clear hkn
    go_wp2_with (fail)
    clear mc;go_ret;exact ⟨rfl,refBelow HF.out⟩
   have H0r:=zz (H2.out.keep (refBelow HF.out));obtain ⟨b,o,x,a1,m1,c1,a2,m2,c2,a3,m3,c3,hb0,hb1,HX,x0,x1,x2,x3,x4,x5,x6,x7,x8,x9,x10,G0,G1,G2⟩:=ru_at H0r.out k (by rw [HL2.out];exact hlt);subst hb0;have GH0:=zz G0;have GH1:=zz G1;have GH2:=zz G2;have hq:=HZ.out;have hat:=len_of_at rlB_app HX.out;rw [rlB_one,List.length_append,List.length_cons,List.length_nil] at hat;have hcut:=len_of_cut rlB_app rs k;have HXZ:Hid ((ruleB x).length≤100000000):=zz (by omega);have HXM:=zz (List.mem_of_getElem? HX.out);obtain ⟨X,hX⟩:∃ X,str (ruleB x)=X:=⟨_,rfl⟩
   have hXs:X.size=(ruleB x).length:=by rw [←hX,str_size]
   obtain ⟨S,hS⟩:∃ S,str (dlB ds++rlB (rs.take k))=S:=⟨_,rfl⟩
   have hSs:S.size+X.size≤100000000:=by rw [←hS,str_size,List.length_append];omega
   rw [hS];have HNX:Hid (str (dlB ds++rlB (rs.take (k+1)))=S++(X++⟨#[10]⟩)):=zz (by rw [rlB_at HX.out, ←List.append_assoc, ←hS, ←hX,str_add,str_nl])
   have i1: ¬(9223372036854775807<X.size+1):=by omega
   have i2: ¬(9223372036854775807<S.size+(X.size+1)):=by omega
   have hXX:=hX;clear G0 G1 G2 hq hat hcut hS hX hXs H0r
   go_wp2_with (fail)
   have GM0:=zz (MemW.keep (w:=wr) GH0.out (below_new wr (.cells #[.string x.name,.slice a1 m1 c1,.slice a2 m2 c2,.int .i64 x.body.kind,.string x.body.name,.int .i64 x.body.n,.slice a3 m3 c3,.int .i64 x.body.line,.int .i64 x.body.col,.int .i64 x.l,.int .i64 x.c] 62)));have GM1:=zz (MemW.keep (w:=wr) GH1.out (below_new wr (.cells #[.string x.name,.slice a1 m1 c1,.slice a2 m2 c2,.int .i64 x.body.kind,.string x.body.name,.int .i64 x.body.n,.slice a3 m3 c3,.int .i64 x.body.line,.int .i64 x.body.col,.int .i64 x.l,.int .i64 x.c] 62)));have GM2:=zz (MemW.keep (w:=wr) GH2.out (below_new wr (.cells #[.string x.name,.slice a1 m1 c1,.slice a2 m2 c2,.int .i64 x.body.kind,.string x.body.name,.int .i64 x.body.n,.slice a3 m3 c3,.int .i64 x.body.line,.int .i64 x.body.col,.int .i64 x.l,.int .i64 x.c] 62)));clear mc;generalize ee:(wr.alloc (.cells #[.string x.name,.slice a1 m1 c1,.slice a2 m2 c2,.int .i64 x.body.kind,.string x.body.name,.int .i64 x.body.n,.slice a3 m3 c3,.int .i64 x.body.line,.int .i64 x.body.col,.int .i64 x.l,.int .i64 x.c] 62))=w2 at *;have hsa2:=sizeA ee;replace HF:=fA HF ee;replace HBm:=bA HBm ee;have HBt:=nB ee (wr.heap.size);clear ee;clear hI;have mc:=kc2 HBm;have tc:=HBt.out.c11z;have hI:=chain3 w.heap.size wr.heap.size w2.heap.size;have hZ:=chain3 w.heap.size wr.heap.size (wr.heap.size+1);clear x0 x1 x2 x3 x4 x5 x6 x7 x8 x9 x10;clear mc tc;refine (refRule_any x HXZ.out _ _ _ _ _ _ _ _ _ _ GM0.out GM1.out GM2.out (HNM.out x HXM.out).1 (HNM.out x HXM.out).2.1 (HNM.out x HXM.out).2.2).mono ?_;rintro _ w3 ⟨rfl,hb⟩;replace HBm:=kB HBm hb;replace HBt:=kB HBt hb;replace HF:=kF HF hb;have hs3:=hb.size;clear hb;rw [hXX];clear hI hZ;have mc:=kc2 HBm;have tc:=HBt.out.c11z;have hI:=chain3 w.heap.size wr.heap.size w3.heap.size
   go_wp2_with (fail)
   clear mc tc
   go_roundw
   case rel=>exact ⟨k+1,by omega,by go_num,by rw [HNX.out],HF,HBm,by omega⟩
   case measure=>simp [intOf];omega
end
end Go.Proofs.YtcoiagfeoonpbaaGreat
