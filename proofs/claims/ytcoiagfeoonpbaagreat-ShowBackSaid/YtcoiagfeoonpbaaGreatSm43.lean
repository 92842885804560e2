/-
  show.Rule: a rule as a text. No condition but how it lies, and sizes.
-/
import Derived.Test.YtcoiagfeoonpbaaGreatSm42
import Derived.Test.YtcoiagfeoonpbaaGreatSm36
import Derived.Test.YtcoiagfeoonpbaaGreatSm34
import Derived.Test.YtcoiagfeoonpbaaGreatSm30
import Derived.Test.YtcoiagfeoonpbaaGreatSm29
set_option maxHeartbeats 20000000
set_option maxRecDepth 100000
namespace Go.Proofs.YtcoiagfeoonpbaaGreat
section
open Go.RowKit
theorem rule_lens (r:Ru):(ruleB r).length=r.name.size+((patsB r.pats).length+((guardB r.guard).length+((showX r.body).size+3))):=by
  unfold ruleB;simp only [List.length_append,List.length_cons,length_data]
theorem showRule_any (r:Ru) (hz:(ruleB r).length≤100000000) (a1 a2 a3:Option Addr) (n1 c1 n2 c2 n3 c3:Nat) (w:World) (h1:MemW w (.s 6 (Ex.rows r.pats)) (.slice a1 n1 c1)) (h2:MemW w (.s 6 (Ex.rows r.guard)) (.slice a2 n2 c2)) (h3:MemW w (.s 6 (Ex.rows r.body.args)) (.slice a3 n3 c3)) (u1:∀ x∈r.pats,NumX x) (u2:∀ x∈r.guard,NumX x) (u3:NumX r.body):
  Calls Tryz.prog 47 #[.agg #[.string r.name,.slice a1 n1 c1,.slice a2 n2 c2,.int .i64 r.body.kind,.string r.body.name,.int .i64 r.body.n,.slice a3 n3 c3,.int .i64 r.body.line,.int .i64 r.body.col,.int .i64 r.l,.int .i64 r.c]] w fun e' w'=>e'=.returned (.string (str (ruleB r)))∧Below w.heap.size w w':=by
 have HF:Hid (FarB w.heap.size w.heap.size w w):=zz (FarB.refl _ _ _);have H1:=zz h1;have H2:=zz h2;have H3:=zz h3;have U1:=zz u1;have U2:=zz u2;have U3:=zz u3
 have hl1:r.pats.length=n1:=by have h:=h1.len.1;rw [Ex.rows_len] at h;exact h
 have hl2:r.guard.length=n2:=by have h:=h2.len.1;rw [Ex.rows_len] at h;exact h
 have hcap1:n1≤c1∧c1≤9223372036854775807:=h1.len.2;have hcap2:n2≤c2∧c2≤9223372036854775807:=h2.len.2;have HL1:=zz hl1;have HL2:=zz hl2;have hzz:=rule_lens r;have HZ:Hid (r.name.size+((patsB r.pats).length+((guardB r.guard).length+((showX r.body).size+3)))≤100000000):=zz (by rw [←hzz];exact hz);clear h1 h2 h3 u1 u2 u3 hl1 hl2 hz hzz;go_enter Tryz.func47,Tryz.ntmps47
 go_wp2_with (fail)
 generalize ee:World.alloc w _=w1;have hsa1:=sizeA ee;replace HF:=fA HF ee;have HBr:=nB ee (w.heap.size);clear ee;have rc:=HBr.out.c11z;have hI:=i0_0 w w1;have hZ:=i01 w
 go_loopw [3,13] (fun v i wr=>∃ k:Nat,k≤n1∧i=.int .i64 k∧v=.string (str (r.name.data.toList++patsB (r.pats.take k)))∧Hid (FarB w.heap.size w.heap.size w wr)∧Hid (Bo wr w.heap.size 62 #[.string r.name,.slice a1 n1 c1,.slice a2 n2 c2,.int .i64 r.body.kind,.string r.body.name,.int .i64 r.body.n,.slice a3 n3 c3,.int .i64 r.body.line,.int .i64 r.body.col,.int .i64 r.l,.int .i64 r.c])∧w.heap.size+1≤wr.heap.size) (fun _ i _=>n1 - (intOf i).toNat)
 case atStart=>exact ⟨0,Nat.zero_le _,rfl,(by rw [List.take_zero,patsB,List.append_nil,str_ba]),HF,HBr,by omega⟩
 case round=>
  clear HF HBr;obtain ⟨k,hk,rfl,rfl,HF,HBr,hws⟩:=hrel;have rc:=HBr.out.c11z;have hI:=i0_0 w wr
  by_cases hlt:k<n1
  ·
   obtain ⟨x,hx⟩:∃ x,r.pats[k]?=some x:=⟨_,List.getElem?_eq_getElem (by rw [HL1.out];exact hlt)⟩;have HXN:=zz (U1.out x (List.mem_of_getElem? hx));have hq:=HZ.out;have hat:=len_of_at patsB_app hx
   have hone:(patsB [x]).length=1+(patX x).size:=by rw [patsB];simp only [List.length_cons,List.length_append,length_data,patsB,List.length_nil];omega
   obtain ⟨X,hX⟩:∃ X,patX x=X:=⟨_,rfl⟩
   have hXs:X.size≤100000000:=by rw [←hX];omega
   have HSX:Hid ((showX x).size≤100000000):=zz (by have :=patX_ge x;rw [hX] at this;omega)
   obtain ⟨S,hS⟩:∃ S,str (r.name.data.toList++patsB (r.pats.take k))=S:=⟨_,rfl⟩
   have hSs:S.size≤100000000:=by rw [←hS,str_size,List.length_append,length_data];omega
   rw [hS]
   have HNX:Hid (str (r.name.data.toList++patsB (r.pats.take (k+1)))=S++(⟨#[32]⟩++X)):=zz (by
    rw [patsB_at hx, ←hS, ←hX, ←List.append_assoc,str_add (r.name.data.toList++patsB (r.pats.take k))]
    congr 1)
   obtain ⟨b,o,ax,nx,cx,hb0,hi0,_,_,x0,x1,x2,x3,x4,x5,GX⟩:=one_at (show MemW wr _ _ from H1.out.keep (refBelow HF.out)) (i:=k) hx (k:=k * 6) rfl;subst hb0;have hXX:=hX;clear hx hat hone hX hS hq
   have i1: ¬(9223372036854775807<1+X.size):=by omega
   have i2: ¬(9223372036854775807<S.size+(1+X.size)):=by omega
   go_wp2_with (fail)
   have GXM:=zz (MemW.keep (w:=wr) GX.out (below_new wr (.cells #[.int .i64 x.kind,.string x.name,.int .i64 x.n,.slice ax nx cx,.int .i64 x.line,.int .i64 x.col] 60)));clear rc;generalize ee:(wr.alloc (.cells #[.int .i64 x.kind,.string x.name,.int .i64 x.n,.slice ax nx cx,.int .i64 x.line,.int .i64 x.col] 60))=w2 at *;have hsa2:=sizeA ee;replace HF:=fA HF ee;replace HBr:=bA HBr ee;have HBt:=nB ee (wr.heap.size);clear ee;clear hI;have rc:=HBr.out.c11z;have tc:=kc6 HBt;have hI:=chain3 w.heap.size wr.heap.size w2.heap.size;have hZ:=chain3 w.heap.size wr.heap.size (wr.heap.size+1);clear x0 x1 x2 x3 x4 x5;clear rc tc;refine (showPat_any x HSX.out _ _ _ _ GXM.out HXN.out).mono ?_;rintro _ w3 ⟨rfl,hb⟩;replace HBr:=kB HBr hb;replace HBt:=kB HBt hb;replace HF:=kF HF hb;have hs3:=hb.size;clear hb;rw [hXX];clear hI hZ;have rc:=HBr.out.c11z;have tc:=kc6 HBt;have hI:=chain3 w.heap.size wr.heap.size w3.heap.size
   go_wp2_with (fail)
   clear rc tc
   go_roundw
   case rel=>exact ⟨k+1,by omega,by go_num,by rw [HNX.out],HF,HBr,by omega⟩
   case measure=>simp [intOf];omega
  have hkn:r.pats.take k=r.pats:=List.take_of_length_le (by rw [HL1.out];omega);rw [hkn];clear hkn
  go_wp2_with (fail)
  clear rc;clear hI;have rc:=HBr.out.c11z;have hI:=i0_0 w wr
  go_loopw [3,26] (fun v i wr=>∃ k:Nat,k≤n2∧i=.int .i64 k∧v=.string (str ((r.name.data.toList++patsB r.pats)++guardB (r.guard.take k)))∧Hid (FarB w.heap.size w.heap.size w wr)∧Hid (Bo wr w.heap.size 62 #[.string r.name,.slice a1 n1 c1,.slice a2 n2 c2,.int .i64 r.body.kind,.string r.body.name,.int .i64 r.body.n,.slice a3 n3 c3,.int .i64 r.body.line,.int .i64 r.body.col,.int .i64 r.l,.int .i64 r.c])∧w.heap.size+1≤wr.heap.size) (fun _ i _=>n2 - (intOf i).toNat)
  case atStart=>exact ⟨0,Nat.zero_le _,rfl,(by rw [List.take_zero,guardB,List.append_nil]),HF,HBr,by omega⟩
  case round=>
   clear HF HBr;obtain ⟨k,hk,rfl,rfl,HF,HBr,hws⟩:=hrel;have rc:=HBr.out.c11z;have hI:=i0_0 w wr
   by_cases hlt:k<n2
   rotate_left
   ·
    have hkn:r.guard.take k=r.guard:=List.take_of_length_le (by rw [HL2.out];omega);rw [hkn];obtain ⟨S,hS⟩:∃ S,str ((r.name.data.toList++patsB r.pats)++guardB r.guard)=S:=⟨_,rfl⟩;obtain ⟨X,hX⟩:∃ X,showX r.body=X:=⟨_,rfl⟩;have hq:=HZ.out
    have hSs:S.size≤100000000:=by rw [←hS,str_size,List.length_append,List.length_append,length_data];omega
    have hXs:X.size≤100000000:=by rw [←hX];omega
    have HSX:Hid ((showX r.body).size≤100000000):=zz (by rw [hX];exact hXs)
    have HQ:Hid (str (ruleB r)=(S++⟨#[32,61,32]⟩)++X):=zz (by
     have q:str ((((r.name.data.toList++patsB r.pats)++guardB r.guard)++[32,61,32])++(showX r.body).data.toList)=(S++⟨#[32,61,32]⟩)++X:=by
      rw [str_add,str_add,hS,str_ba,hX]
      rfl
     rw [←q];unfold ruleB
     congr 1
     simp)
    rw [hS]
    have i1: ¬(9223372036854775807<S.size+3):=by omega
    have i2: ¬(9223372036854775807<S.size+3+X.size):=by omega
    have hXX:=hX;clear hkn hS hX hq
    go_wp2_with (fail)
    clear rc;refine (showX_any r.body _ _ _ _ (H3.out.keep (refBelow HF.out)) U3.out HSX.out).mono ?_;rintro _ w2 ⟨rfl,hb⟩;replace HBr:=kB HBr hb;replace HF:=kF HF hb;have hs2:=hb.size;clear hb;rw [hXX];clear hI;have rc:=HBr.out.c11z;have hI:=i0_0 w w2
    go_wp2_with (fail)
    clear rc;go_ret;exact ⟨congrArg (fun s=>Ending.returned (Value.string s)) HQ.out.symm,refBelow HF.out⟩
   obtain ⟨x,hx⟩:∃ x,r.guard[k]?=some x:=⟨_,List.getElem?_eq_getElem (by rw [HL2.out];exact hlt)⟩;have HXN:=zz (U2.out x (List.mem_of_getElem? hx));have hq:=HZ.out;have hat:=len_of_at guardB_app hx
   have hone:(guardB [x]).length=3+(showX x).size:=by rw [guardB];simp only [List.length_cons,List.length_append,length_data,guardB,List.length_nil];omega
   obtain ⟨X,hX⟩:∃ X,showX x=X:=⟨_,rfl⟩
   have hXs:X.size≤100000000:=by rw [←hX];omega
   have HSX:Hid ((showX x).size≤100000000):=zz (by rw [hX];exact hXs);obtain ⟨S,hS⟩:∃ S,str ((r.name.data.toList++patsB r.pats)++guardB (r.guard.take k))=S:=⟨_,rfl⟩
   have hSs:S.size≤100000000:=by rw [←hS,str_size,List.length_append,List.length_append,length_data];omega
   rw [hS]
   have HNX:Hid (str ((r.name.data.toList++patsB r.pats)++guardB (r.guard.take (k+1)))=S++(⟨#[32,124,32]⟩++X)):=zz (by
    rw [guardB_at hx, ←hS, ←hX, ←List.append_assoc,str_add ((r.name.data.toList++patsB r.pats)++guardB (r.guard.take k))]
    congr 1)
   obtain ⟨b,o,ax,nx,cx,hb0,hi0,_,_,x0,x1,x2,x3,x4,x5,GX⟩:=one_at (show MemW wr _ _ from H2.out.keep (refBelow HF.out)) (i:=k) hx (k:=k * 6) rfl;subst hb0;have hXX:=hX;clear hx hat hone hX hS hq
   have i1: ¬(9223372036854775807<3+X.size):=by omega
   have i2: ¬(9223372036854775807<S.size+(3+X.size)):=by omega
   go_wp2_with (fail)
   have GXM:=zz (MemW.keep (w:=wr) GX.out (below_new wr (.cells #[.int .i64 x.kind,.string x.name,.int .i64 x.n,.slice ax nx cx,.int .i64 x.line,.int .i64 x.col] 60)));clear rc;generalize ee:(wr.alloc (.cells #[.int .i64 x.kind,.string x.name,.int .i64 x.n,.slice ax nx cx,.int .i64 x.line,.int .i64 x.col] 60))=w2 at *;have hsa2:=sizeA ee;replace HF:=fA HF ee;replace HBr:=bA HBr ee;have HBt:=nB ee (wr.heap.size);clear ee;clear hI;have rc:=HBr.out.c11z;have tc:=kc6 HBt;have hI:=chain3 w.heap.size wr.heap.size w2.heap.size;have hZ:=chain3 w.heap.size wr.heap.size (wr.heap.size+1);clear x0 x1 x2 x3 x4 x5;clear rc tc;refine (showX_any x _ _ _ _ GXM.out HXN.out HSX.out).mono ?_;rintro _ w3 ⟨rfl,hb⟩;replace HBr:=kB HBr hb;replace HBt:=kB HBt hb;replace HF:=kF HF hb;have hs3:=hb.size;clear hb;rw [hXX];clear hI hZ;have rc:=HBr.out.c11z;have tc:=kc6 HBt;have hI:=chain3 w.heap.size wr.heap.size w3.heap.size
   go_wp2_with (fail)
   clear rc tc
   go_roundw
   case rel=>exact ⟨k+1,by omega,by go_num,by rw [HNX.out],HF,HBr,by omega⟩
   case measure=>simp [intOf];omega
end
section
open Go.RowKit
theorem data_lens (d:Da):(dataB d).length=5+d.name.size+((varsB d.vars).length+((consFB d.cons).length+3)):=by
  unfold dataB;simp only [List.length_append,List.length_cons,List.length_nil,length_data]
  omega
theorem consFB_cnt (cs:List Cn):3 * cs.length≤(consFB cs).length+3:=by
  have h:∀ cs:List Cn,3 * cs.length≤(consB cs).length:=fun cs=>by
    induction cs with
    | nil=>exact Nat.le_refl _
    | cons c cs ih=>rw [consB];simp only [List.length_cons,List.length_append];omega
  cases cs with
  | nil=>simp
  | cons c cs=>have :=h cs;rw [consFB,List.length_append,List.length_cons];omega
theorem showData_any (d:Da) (hz:(dataB d).length≤100000000) (hne:d.cons≠[]) (a1 a2:Option Addr) (n1 c1 n2 c2:Nat) (w:World) (h1:MemW w (.s 1 (d.vars.map strRow)) (.slice a1 n1 c1)) (h2:MemW w (.s 4 (d.cons.map Cn.row)) (.slice a2 n2 c2)):
  Calls Tryz.prog 46 #[.agg #[.string d.name,.slice a1 n1 c1,.slice a2 n2 c2,.int .i64 d.l,.int .i64 d.c]] w fun e' w'=>e'=.returned (.string (str (dataB d)))∧Below w.heap.size w w':=by
 have HF:Hid (FarB w.heap.size w.heap.size w w):=zz (FarB.refl _ _ _);have H1:=zz h1;have H2:=zz h2;have HNE:=zz hne
 have hl1:d.vars.length=n1:=by have h:=h1.len.1;rw [List.length_map] at h;exact h
 have hl2:d.cons.length=n2:=by have h:=h2.len.1;rw [List.length_map] at h;exact h
 have hcap1:n1≤c1∧c1≤9223372036854775807:=h1.len.2;have hcap2:n2≤c2∧c2≤9223372036854775807:=h2.len.2;have HL1:=zz hl1;have HL2:=zz hl2;have hzz:=data_lens d;have HZ:Hid (5+d.name.size+((varsB d.vars).length+((consFB d.cons).length+3))≤100000000):=zz (by rw [←hzz];exact hz)
 have i0: ¬(9223372036854775807<5+d.name.size):=by have :=HZ.out;omega
 have hn2:n2≤100000000:=by have h:=consFB_cnt d.cons;have :=HZ.out;omega
 clear h1 h2 hl1 hl2 hz hzz hne;go_enter Tryz.func46,Tryz.ntmps46
 go_wp2_with (fail)
 generalize ee:World.alloc w _=w1;have hsa1:=sizeA ee;replace HF:=fA HF ee;have HBr:=nB ee (w.heap.size);clear ee;have rc:=kc5 HBr;have hI:=i0_0 w w1;have hZ:=i01 w
 go_loopw [3,15] (fun v i wr=>∃ k:Nat,k≤n1∧i=.int .i64 k∧v=.string (str (([100,97,116,97,32]++d.name.data.toList)++varsB (d.vars.take k)))∧Hid (FarB w.heap.size w.heap.size w wr)∧Hid (Bo wr w.heap.size 40 #[.string d.name,.slice a1 n1 c1,.slice a2 n2 c2,.int .i64 d.l,.int .i64 d.c])∧w.heap.size+1≤wr.heap.size) (fun _ i _=>n1 - (intOf i).toNat)
 case atStart=>exact ⟨0,Nat.zero_le _,rfl,by rw [List.take_zero,varsB,List.append_nil,str_add,str_ba];rfl,HF,HBr,by omega⟩
 case round=>
  clear HF HBr;obtain ⟨k,hk,rfl,rfl,HF,HBr,hws⟩:=hrel;have rc:=kc5 HBr;have hI:=i0_0 w wr
  by_cases hlt:k<n1
  ·
   obtain ⟨b,o,x,hb0,hb1,HX,x0⟩:=str_at (show MemW wr _ _ from H1.out.keep (refBelow HF.out)) k (by rw [HL1.out];exact hlt);subst hb0;have hq:=HZ.out;have hat:=len_of_at varsB_app HX.out
   have hone:(varsB [x]).length=1+x.size:=by rw [varsB];simp only [List.length_cons,List.length_append,length_data,varsB,List.length_nil];omega
   obtain ⟨S,hS⟩:∃ S,str (([100,97,116,97,32]++d.name.data.toList)++varsB (d.vars.take k))=S:=⟨_,rfl⟩
   have hSs:S.size≤100000000:=by rw [←hS,str_size,List.length_append,List.length_append,length_data];simp only [List.length_cons,List.length_nil];omega
   rw [hS]
   have HNX:Hid (str (([100,97,116,97,32]++d.name.data.toList)++varsB (d.vars.take (k+1)))=S++(⟨#[32]⟩++x)):=zz (by
    rw [varsB_at HX.out, ←hS, ←List.append_assoc,str_add (([100,97,116,97,32]++d.name.data.toList)++varsB (d.vars.take k))]
    congr 1)
   have i1: ¬(9223372036854775807<1+x.size):=by omega
   have i2: ¬(9223372036854775807<S.size+(1+x.size)):=by omega
   clear hat hone hS hq HX
   go_wp2_with (fail)
   clear rc
   go_roundw
   case rel=>exact ⟨k+1,by omega,by go_num,by rw [HNX.out],HF,HBr,by omega⟩
   case measure=>simp [intOf];omega
  have hkn:d.vars.take k=d.vars:=List.take_of_length_le (by rw [HL1.out];omega);rw [hkn];obtain ⟨S1,hS1⟩:∃ S,str (([100,97,116,97,32]++d.name.data.toList)++varsB d.vars)=S:=⟨_,rfl⟩;have hq:=HZ.out
  have hS1s:S1.size+(consFB d.cons).length+3≤100000000:=by rw [←hS1,str_size,List.length_append,List.length_append,length_data];simp only [List.length_cons,List.length_nil];omega
  rw [hS1];have HS1:=zz hS1;clear hkn hq hS1;obtain ⟨ats,hats⟩:∃ l,(d.cons.map fun c=>str (conB c))=l:=⟨_,rfl⟩
  have hal:ats.length=n2:=by rw [←hats,List.length_map];exact HL2.out
  have HATS:=zz hats;have HAL:=zz hal;clear hats hal
  go_wp2_with (fail)
  clear rc;clear hI;have rc:=kc5 HBr;have hI:=i0_0 w wr
  go_loopw [6,27] (fun v i wr=>∃ (k:Nat) (al:Option Addr) (ml cl:Nat),k≤n2∧i=.int .i64 k∧v=.slice al ml cl∧Hid (FarB w.heap.size w.heap.size w wr)∧Hid (Bo wr w.heap.size 40 #[.string d.name,.slice a1 n1 c1,.slice a2 n2 c2,.int .i64 d.l,.int .i64 d.c])∧Hid (OwnD 0 (w.heap.size+1) 9 1 wr (.slice al ml cl) ((ats.take k).map strRow))∧w.heap.size+1≤wr.heap.size) (fun _ i _=>n2 - (intOf i).toNat)
  case atStart=>exact ⟨0,none,0,0,Nat.zero_le _,rfl,rfl,HF,HBr,zz (by rw [List.take_zero];exact OwnD.nil _ _ _ _ _),by omega⟩
  case round=>
   clear HF HBr hws;obtain ⟨k,al,ml,cl,hk,rfl,rfl,HF,HBr,HOl,hws⟩:=hrel;have rc:=kc5 HBr;have hI:=i0_0 w wr
   by_cases hlt:k<n2
   rotate_left
   ·
    have hkn:ats.take k=ats:=List.take_of_length_le (by rw [HAL.out];omega);rw [hkn] at HOl
    have hna:ats≠[]:=by intro h;have h2:=HATS.out;rw [h,List.map_eq_nil_iff] at h2;exact HNE.out h2
    obtain ⟨bk,rfl,hml,hcl,hbk,hcells⟩:=own_strsX HOl.out hna;subst hml;have HC:=zz hcells;have hcl2:=hcl;obtain ⟨J,hJ⟩:∃ J,joinB ats ⟨#[32,124,32]⟩=J:=⟨_,rfl⟩
    have hJ2:J=str (consFB d.cons):=by rw [←hJ, ←HATS.out];exact join_cons
    have hJs:J.size=(consFB d.cons).length:=by rw [hJ2,str_size]
    have HJ:=zz (join_size ats ⟨#[32,124,32]⟩);have HJL:Hid ((Lib.join (ats.map (·.data.toList)) (⟨#[32,124,32]⟩:ByteArray).data.toList).length=J.size):=zz (by rw [HJ.out.2.2,hJ])
    have HQ:Hid (str (dataB d)=(S1++⟨#[32,61,32]⟩)++J):=zz (by
     rw [hJ2, ←HS1.out,show (⟨#[32,61,32]⟩:ByteArray)=str [32,61,32] from rfl, ←str_add, ←str_add];unfold dataB
     congr 1
     simp)
    have i1: ¬(9223372036854775807<S1.size+3):=by omega
    have i2: ¬(9223372036854775807<S1.size+3+J.size):=by omega
    have hJJ:=hJ;clear hkn hcells hna hJ hJ2 HJ
    go_wp2_with (fail)
    clear rc;refine (join_any bk 0 cl ats ⟨#[32,124,32]⟩ _ HC.out hbk (by rw [HAL.out];omega) hcl2 (by rw [HJL.out];omega)).mono ?_;rintro _ w2 ⟨rfl,hb⟩;replace HBr:=kB HBr hb;replace HOl:=kO HOl hb;replace HF:=kF HF hb;have hs2:=hb.size;clear hb;rw [hJJ];clear hI;have rc:=kc5 HBr;have hI:=i0_0 w w2
    go_wp2_with (fail)
    clear rc;go_ret;exact ⟨congrArg (fun s=>Ending.returned (Value.string s)) HQ.out.symm,refBelow HF.out⟩
   have H2r:=zz (H2.out.keep (refBelow HF.out));obtain ⟨b,o,x,at1,nt,ct,hb0,hb1,HX,x0,x1,x2,x3,GT0⟩:=cn_at H2r.out k (by rw [HL2.out];exact hlt);subst hb0;have GT:=zz GT0;have hq:=HZ.out;have hcl:=conB_len (List.mem_of_getElem? HX.out)
   have hcb:(conB x).length=x.name.size+(argsTB x.types).length:=by unfold conB;rw [List.length_append,length_data]
   have HTZ:Hid ((argsTB x.types).length≤100000000):=zz (by omega);obtain ⟨Y,hY⟩:∃ Y,str (argsTB x.types)=Y:=⟨_,rfl⟩
   have hYs:Y.size=(argsTB x.types).length:=by rw [←hY,str_size]
   have i1: ¬(9223372036854775807<x.name.size+Y.size):=by omega
   obtain ⟨V,hV⟩:∃ V,x.name++Y=V:=⟨_,rfl⟩
   have HAX:Hid (ats[k]?=some V):=zz (by
    rw [←HATS.out,List.getElem?_map,HX.out, ←hV, ←hY]
    show some (str (conB x))=_
    unfold conB
    rw [str_add,str_ba])
   have hown:∀ k,(Value.slice al ml cl).ownBlock=some k→w.heap.size+1≤k∧k<wr.heap.size:=HOl.out.lt
   have hn8:ml≤100000001:=by
    obtain ⟨_,_,e1,_,_⟩:=HOl.out.form;cases e1;rw [List.length_map,List.length_take]
    omega
   have hYY:=hY;clear GT0 hq hcl hcb hY hYs H2r
   go_wp2_with (fail)
   have GTM:=zz (MemW.keep (w:=wr) GT.out (below_new wr (.cells #[.string x.name,.slice at1 nt ct,.int .i64 x.l,.int .i64 x.c] 75)));clear rc;generalize ee:(wr.alloc (.cells #[.string x.name,.slice at1 nt ct,.int .i64 x.l,.int .i64 x.c] 75))=w2 at *;have hsa2:=sizeA ee;replace HF:=fA HF ee;replace HBr:=bA HBr ee;replace HOl:=oA HOl ee;have HBt:=nB ee (wr.heap.size);clear ee;clear hI;have rc:=kc5 HBr;have tc:=kc4 HBt;have hI:=chain3 w.heap.size wr.heap.size w2.heap.size;have hZ:=chain3 w.heap.size wr.heap.size (wr.heap.size+1);clear x0 x1 x2 x3;refine wp_region_held_drew (S:=fun w'=>Far (fun b=>(Value.slice al ml cl).ownBlock=some b) (w2) w') (by kernel_rfl) (Far.of (below_drew _)) (fun hS20=>?_);refine takeA 0 (v:=?_) rfl ?_ ?_;rotate_left;· intro w hSw;replace tc:=Far.c4z tc hSw (by intro e;have :=(hown _ e).2;omega);go_simp;try rfl
   (try simp only [pu]);refine takeA 1 (v:=?_) rfl ?_ ?_;rotate_left;· intro w hSw;replace tc:=Far.c4z tc hSw (by intro e;have :=(hown _ e).2;omega);go_simp;try rfl
   (try simp only [pu]);refine takeA 2 (v:=?_) rfl ?_ ?_;rotate_left;· intro w hSw;replace tc:=Far.c4z tc hSw (by intro e;have :=(hown _ e).2;omega);go_simp;try rfl
   (try simp only [pu]);refine takeA 3 (v:=?_) rfl ?_ ?_;rotate_left;· intro w hSw;replace tc:=Far.c4z tc hSw (by intro e;have :=(hown _ e).2;omega);go_simp;try rfl
   (try simp only [pu]);refine takeA 4 (v:=?_) rfl ?_ ?_;rotate_left;· intro w hSw;replace tc:=Far.c4z tc hSw (by intro e;have :=(hown _ e).2;omega);go_simp;try rfl
   (try simp only [pu]);refine callA 5 rfl fun K hK=>?_;go_simp;refine (args_any (fun x _=>showTy_any x) HTZ.out _ _ _ _ (MemW.keep (w:=w2) GTM.out (below_drew _))).mono ?_;rintro e wx21 ⟨rfl,hb⟩;clear rc tc;clear hI hZ;have hbk:=hb;replace hb:=Below.one hb;replace HBr:=kB HBr hb;replace HBt:=kB HBt hb;replace HOl:=kO HOl hb;replace HF:=kF HF hb;have hs21:=hb.size;clear hb;rw [hYY];go_simp;refine hK.out _ _ (Far.trans hS20 (Far.of hbk)) (fun hS21=>?_);clear hK K;refine takeA 6 (v:=?_) rfl ?_ ?_;rotate_left;· intros;go_simp;try rfl
   (try simp only [pu]);refine callA 7 rfl fun K hK=>?_;go_simp;refine hK.out _ _ (Far.trans hS21 (Far.of (below_new _ _))) (fun hS22=>?_);clear hK K;have HNEW:=zz (row_app (t:=9) (sz:=1) (r:=strRow V) (cs:=#[.string V]) HOl.out (by omega) (Nat.le_refl _) (.cons (.v _ rfl) .nil) rfl);replace HF:=zz (HF.out.below (below_new wx21 (.cells #[.string V] 9)));replace HBr:=zz (HBr.out.alloc (.cells #[.string V] 9));replace HOl:=zz (HOl.out.alloc (.cells #[.string V] 9));have hv2:(World.alloc wx21 (.cells #[.string V] 9)).heap.size=wx21.heap.size+1:=World.size_alloc _ _;generalize World.alloc wx21 (.cells #[.string V] 9)=v2 at HNEW HF HBr HOl hv2 hS22 ⊢;refine callA 8 rfl fun K hK=>?_;refine wp_append_D2 _ _ (by rfl) Tryz.underlying37 info_strX rfl (by decide) (by rfl) (by rfl) HOl.out HNEW.out (by simp only [List.length_map,List.length_cons,List.length_nil,List.length_take];omega) (by simp only [List.length_map,List.length_cons,List.length_nil,List.length_take];omega) (by omega) (fun v9 w9 ho hg=>?_);obtain ⟨a9,m9,c9,rfl⟩:=mem_slice ho.mem
   replace HF:=zz (Far.trans HF.out ((grownFar hg).mono (fun b e=>.inr (by have :=(hown _ e).1;omega))))
   replace HBr:=zz (HBr.out.grown hg fun k hk=>by have :=(hown k hk).1;omega)
   have hw9:=(grownFar hg).size;refine hK.out _ _ (Far.trans hS22 (grownFar hg)) (fun hS23=>?_);clear hK K;have hax:=HAX.out;have HO9:Hid (OwnD 0 (w.heap.size+1) 9 1 w9 (.slice a9 m9 c9) ((ats.take (k+1)).map strRow)):=zz (by rw [take_at hax,List.map_append];exact ho);clear ho hg HOl HNEW hax;refine takeA 9 (v:=?_) rfl ?_ ?_;rotate_left;· intros;go_simp;try rfl
   (try simp only [pu]);refine wpAnyH_done (by kernel_rfl) ?_ _;have rc:=kc5 HBr;have hI:=i0_0 w w9
   go_wp2_with (fail)
   clear rc
   go_roundw
   case rel=>exact ⟨k+1,a9,m9,c9,by omega,by go_num,rfl,HF,HBr,HO9,by omega⟩
   case measure=>simp [intOf];omega
end
section
open Go.RowKit
theorem consFB_at {l:List Cn} {k:Nat} {x:Cn} (h:l[k]?=some x) (hk:0<k):consFB (l.take (k+1))=consFB (l.take k)++32::124::32::conB x:=by
  rw [take_at h,consFB_add];intro h2;have h3:=congrArg List.length h2;have h4:=(List.getElem?_eq_some_iff.1 h).1;rw [List.length_take,List.length_nil] at h3
  omega
theorem consFB_at0 {l:List Cn} {x:Cn} (h:l[0]?=some x):consFB (l.take (0+1))=conB x:=by
  rw [take_at h,List.take_zero,List.nil_append,consFB_one]
theorem refData_any (d:Da) (hz:(dataB d).length≤100000000) (a1 a2:Option Addr) (n1 c1 n2 c2:Nat) (w:World) (h1:MemW w (.s 1 (d.vars.map strRow)) (.slice a1 n1 c1)) (h2:MemW w (.s 4 (d.cons.map Cn.row)) (.slice a2 n2 c2)):
  Calls Tryz.prog 49 #[.agg #[.string d.name,.slice a1 n1 c1,.slice a2 n2 c2,.int .i64 d.l,.int .i64 d.c]] w fun e' w'=>e'=.returned (.string (str (dataB d)))∧Below w.heap.size w w':=by
 have HF:Hid (FarB w.heap.size w.heap.size w w):=zz (FarB.refl _ _ _);have H1:=zz h1;have H2:=zz h2
 have hl1:d.vars.length=n1:=by have h:=h1.len.1;rw [List.length_map] at h;exact h
 have hl2:d.cons.length=n2:=by have h:=h2.len.1;rw [List.length_map] at h;exact h
 have hcap1:n1≤c1∧c1≤9223372036854775807:=h1.len.2;have hcap2:n2≤c2∧c2≤9223372036854775807:=h2.len.2;have HL1:=zz hl1;have HL2:=zz hl2;have hzz:=data_lens d;have HZ:Hid (5+d.name.size+((varsB d.vars).length+((consFB d.cons).length+3))≤100000000):=zz (by rw [←hzz];exact hz)
 have i0: ¬(9223372036854775807<5+d.name.size):=by have :=HZ.out;omega
 have hn2:n2≤100000000:=by have h:=consFB_cnt d.cons;have :=HZ.out;omega
 clear h1 h2 hl1 hl2 hz hzz;go_enter Tryz.func49,Tryz.ntmps49
 go_wp2_with (fail)
 generalize ee:World.alloc w _=w1;have hsa1:=sizeA ee;replace HF:=fA HF ee;have HBr:=nB ee (w.heap.size);clear ee;have rc:=kc5 HBr;have hI:=i0_0 w w1;have hZ:=i01 w
 go_loopw [3,14] (fun v i wr=>∃ k:Nat,k≤n1∧i=.int .i64 k∧v=.string (str (([100,97,116,97,32]++d.name.data.toList)++varsB (d.vars.take k)))∧Hid (FarB w.heap.size w.heap.size w wr)∧Hid (Bo wr w.heap.size 40 #[.string d.name,.slice a1 n1 c1,.slice a2 n2 c2,.int .i64 d.l,.int .i64 d.c])∧w.heap.size+1≤wr.heap.size) (fun _ i _=>n1 - (intOf i).toNat)
 case atStart=>exact ⟨0,Nat.zero_le _,rfl,by rw [List.take_zero,varsB,List.append_nil,str_add,str_ba];rfl,HF,HBr,by omega⟩
 case round=>
  clear HF HBr;obtain ⟨k,hk,rfl,rfl,HF,HBr,hws⟩:=hrel;have rc:=kc5 HBr;have hI:=i0_0 w wr
  by_cases hlt:k<n1
  ·
   obtain ⟨b,o,x,hb0,hb1,HX,x0⟩:=str_at (show MemW wr _ _ from H1.out.keep (refBelow HF.out)) k (by rw [HL1.out];exact hlt);subst hb0;have hq:=HZ.out;have hat:=len_of_at varsB_app HX.out
   have hone:(varsB [x]).length=1+x.size:=by rw [varsB];simp only [List.length_cons,List.length_append,length_data,varsB,List.length_nil];omega
   obtain ⟨S,hS⟩:∃ S,str (([100,97,116,97,32]++d.name.data.toList)++varsB (d.vars.take k))=S:=⟨_,rfl⟩
   have hSs:S.size≤100000000:=by rw [←hS,str_size,List.length_append,List.length_append,length_data];simp only [List.length_cons,List.length_nil];omega
   rw [hS]
   have HNX:Hid (str (([100,97,116,97,32]++d.name.data.toList)++varsB (d.vars.take (k+1)))=S++(⟨#[32]⟩++x)):=zz (by
    rw [varsB_at HX.out, ←hS, ←List.append_assoc,str_add (([100,97,116,97,32]++d.name.data.toList)++varsB (d.vars.take k))]
    congr 1)
   have i1: ¬(9223372036854775807<1+x.size):=by omega
   have i2: ¬(9223372036854775807<S.size+(1+x.size)):=by omega
   clear hat hone hS hq HX
   go_wp2_with (fail)
   clear rc
   go_roundw
   case rel=>exact ⟨k+1,by omega,by go_num,by rw [HNX.out],HF,HBr,by omega⟩
   case measure=>simp [intOf];omega
  have hkn:d.vars.take k=d.vars:=List.take_of_length_le (by rw [HL1.out];omega);rw [hkn];obtain ⟨S1,hS1⟩:∃ S,str (([100,97,116,97,32]++d.name.data.toList)++varsB d.vars)=S:=⟨_,rfl⟩;have hq:=HZ.out
  have hS1s:S1.size+(consFB d.cons).length+3≤100000000:=by rw [←hS1,str_size,List.length_append,List.length_append,length_data];simp only [List.length_cons,List.length_nil];omega
  rw [hS1];have HS1:=zz hS1;clear hkn hq hS1
  have i1: ¬(9223372036854775807<S1.size+3):=by omega
  go_wp2_with (fail)
  clear rc;clear hI;have rc:=kc5 HBr;have hI:=i0_0 w wr;clear i1
  go_loopw [3,28] (fun v i wr=>∃ k:Nat,k≤n2∧i=.int .i64 k∧v=.string (str (((([100,97,116,97,32]++d.name.data.toList)++varsB d.vars)++[32,61,32])++consFB (d.cons.take k)))∧Hid (FarB w.heap.size w.heap.size w wr)∧Hid (Bo wr w.heap.size 40 #[.string d.name,.slice a1 n1 c1,.slice a2 n2 c2,.int .i64 d.l,.int .i64 d.c])∧w.heap.size+1≤wr.heap.size) (fun _ i _=>n2 - (intOf i).toNat)
  case atStart=>exact ⟨0,Nat.zero_le _,rfl,by rw [List.take_zero,consFB,List.append_nil,str_add,HS1.out];rfl,HF,HBr,by omega⟩
  case round=>
   clear HF HBr hws;obtain ⟨k,hk,rfl,rfl,HF,HBr,hws⟩:=hrel;have rc:=kc5 HBr;have hI:=i0_0 w wr
   by_cases hlt:k<n2
   rotate_left
   ·
    have hkn:d.cons.take k=d.cons:=List.take_of_length_le (by rw [HL2.out];omega);rw [hkn]
    have HQ:Hid (str (dataB d)=str (((([100,97,116,97,32]++d.name.data.toList)++varsB d.vars)++[32,61,32])++consFB d.cons)):=zz (by
     unfold dataB
     congr 1
     simp)
    rw [←HQ.out];clear hkn
    go_wp2_with (fail)
    clear rc;go_ret;exact ⟨rfl,refBelow HF.out⟩
   have H2r:=zz (H2.out.keep (refBelow HF.out));obtain ⟨b,o,x,at1,nt,ct,hb0,hb1,HX,x0,x1,x2,x3,GT0⟩:=cn_at H2r.out k (by rw [HL2.out];exact hlt);subst hb0;have GT:=zz GT0;have hcl:=conB_len (List.mem_of_getElem? HX.out)
   have hcb:(conB x).length=x.name.size+(argsTB x.types).length:=by unfold conB;rw [List.length_append,length_data]
   have HTZ:Hid ((argsTB x.types).length≤100000000):=zz (by omega);obtain ⟨Y,hY⟩:∃ Y,str (argsTB x.types)=Y:=⟨_,rfl⟩
   have hYs:Y.size=(argsTB x.types).length:=by rw [←hY,str_size]
   have hcut:=consFB_cut d.cons k;obtain ⟨S,hS⟩:∃ S,str (((([100,97,116,97,32]++d.name.data.toList)++varsB d.vars)++[32,61,32])++consFB (d.cons.take k))=S:=⟨_,rfl⟩
   have hSs:S.size≤100000000:=by
    rw [←hS,str_size,List.length_append,List.length_append];have h1:=congrArg ByteArray.size HS1.out;rw [str_size] at h1;rw [h1];simp only [List.length_cons,List.length_nil]
    omega
   rw [hS]
   have hcx:str (conB x)=x.name++Y:=by
    unfold conB;rw [str_add,str_ba,hY]
   have hys:x.name.size+Y.size≤100000000:=by omega
   have i1: ¬(9223372036854775807<x.name.size+Y.size):=by omega
   have hYY:=hY;clear GT0 hcl hcb hY hYs H2r hcut
   by_cases h00:k=0
   ·
    have hk0: ¬((0:Int)<(k:Int)):=by omega
    have HNX:Hid (str (((([100,97,116,97,32]++d.name.data.toList)++varsB d.vars)++[32,61,32])++consFB (d.cons.take (k+1)))=S++(x.name++Y)):=zz (by
     have hx:=HX.out;rw [h00] at hx
     rw [←hS, ←hcx,h00,consFB_at0 hx,List.take_zero,consFB,List.append_nil,str_add])
    have i2: ¬(9223372036854775807<S.size+(x.name.size+Y.size)):=by omega
    clear hS hcx hys h00;go_upto_region 13 with (fail);have GTM:=zz (MemW.keep (w:=wr) GT.out (below_new wr (.cells #[.string x.name,.slice at1 nt ct,.int .i64 x.l,.int .i64 x.c] 75)));clear rc;generalize ee:(wr.alloc (.cells #[.string x.name,.slice at1 nt ct,.int .i64 x.l,.int .i64 x.c] 75))=w2 at *;have hsa2:=sizeA ee;replace HF:=fA HF ee;replace HBr:=bA HBr ee;have HBt:=nB ee (wr.heap.size);clear ee;clear hI;have rc:=kc5 HBr;have tc:=kc4 HBt;have hI:=chain3 w.heap.size wr.heap.size w2.heap.size;have hZ:=chain3 w.heap.size wr.heap.size (wr.heap.size+1);clear x0 x1 x2 x3;refine wp_region_held_drew (S:=fun w'=>Far (fun _=>False) (w2) w') (by kernel_rfl) (Far.of (below_drew _)) (fun hS20=>?_);refine takeA 0 (v:=?_) rfl ?_ ?_;rotate_left;· intro w hSw;replace tc:=Far.c4z tc hSw (fun e=>e);go_simp;try rfl
    (try simp only [pu]);refine takeA 1 (v:=?_) rfl ?_ ?_;rotate_left;· intro w hSw;replace tc:=Far.c4z tc hSw (fun e=>e);go_simp;try rfl
    (try simp only [pu]);refine takeA 2 (v:=?_) rfl ?_ ?_;rotate_left;· intro w hSw;replace tc:=Far.c4z tc hSw (fun e=>e);go_simp;try rfl
    (try simp only [pu]);refine takeA 3 (v:=?_) rfl ?_ ?_;rotate_left;· intro w hSw;replace tc:=Far.c4z tc hSw (fun e=>e);go_simp;try rfl
    (try simp only [pu]);refine takeA 4 (v:=?_) rfl ?_ ?_;rotate_left;· intro w hSw;replace tc:=Far.c4z tc hSw (fun e=>e);go_simp;try rfl
    (try simp only [pu]);refine callA 5 rfl fun K hK=>?_;go_simp;refine (refArgs_any (fun x _=>refTy_any x) HTZ.out _ _ _ _ (MemW.keep (w:=w2) GTM.out (below_drew _))).mono ?_;rintro e wx21 ⟨rfl,hb⟩;clear rc tc;clear hI hZ;have hbk:=hb;replace hb:=Below.one hb;replace HBr:=kB HBr hb;replace HBt:=kB HBt hb;replace HF:=kF HF hb;have hs21:=hb.size;clear hb;rw [hYY];go_simp;refine hK.out _ _ (Far.trans hS20 (Far.of hbk)) (fun hS21=>?_);clear hK K;refine takeA 6 (v:=?_) rfl ?_ ?_;rotate_left;· intros;go_simp;try rfl
    (try simp only [pu]);refine takeA 7 (v:=?_) rfl ?_ ?_;rotate_left;· intros;go_simp;try rfl
    (try simp only [pu]);refine takeA 8 (v:=?_) rfl ?_ ?_;rotate_left;· intros;go_simp;try rfl
    (try simp only [pu]);refine wpAnyH_done (by kernel_rfl) ?_ _;have rc:=kc5 HBr;have tc:=kc4 HBt;have hI:=chain3 w.heap.size wr.heap.size wx21.heap.size
    go_wp2_with (fail)
    clear rc tc
    go_roundw
    case rel=>exact ⟨k+1,by omega,by go_num,by rw [HNX.out],HF,HBr,by omega⟩
    case measure=>simp [intOf];omega
   have hk0:(0:Int)<(k:Int):=by omega
   have HNX:Hid (str (((([100,97,116,97,32]++d.name.data.toList)++varsB d.vars)++[32,61,32])++consFB (d.cons.take (k+1)))=(S++⟨#[32,124,32]⟩)++(x.name++Y)):=zz (by
    rw [consFB_at HX.out (by omega), ←hS, ←hcx,show (⟨#[32,124,32]⟩:ByteArray)=str [32,124,32] from rfl, ←str_add, ←str_add]
    congr 1
    simp)
   have i0_: ¬(9223372036854775807<S.size+3):=by omega
   have i2: ¬(9223372036854775807<S.size+3+(x.name.size+Y.size)):=by omega
   clear hS hcx hys;go_upto_region 13 with (fail);have GTM:=zz (MemW.keep (w:=wr) GT.out (below_new wr (.cells #[.string x.name,.slice at1 nt ct,.int .i64 x.l,.int .i64 x.c] 75)));clear rc;generalize ee:(wr.alloc (.cells #[.string x.name,.slice at1 nt ct,.int .i64 x.l,.int .i64 x.c] 75))=w2 at *;have hsa2:=sizeA ee;replace HF:=fA HF ee;replace HBr:=bA HBr ee;have HBt:=nB ee (wr.heap.size);clear ee;clear hI;have rc:=kc5 HBr;have tc:=kc4 HBt;have hI:=chain3 w.heap.size wr.heap.size w2.heap.size;have hZ:=chain3 w.heap.size wr.heap.size (wr.heap.size+1);clear x0 x1 x2 x3;refine wp_region_held_drew (S:=fun w'=>Far (fun _=>False) (w2) w') (by kernel_rfl) (Far.of (below_drew _)) (fun hS20=>?_);refine takeA 0 (v:=?_) rfl ?_ ?_;rotate_left;· intro w hSw;replace tc:=Far.c4z tc hSw (fun e=>e);go_simp;try rfl
   (try simp only [pu]);refine takeA 1 (v:=?_) rfl ?_ ?_;rotate_left;· intro w hSw;replace tc:=Far.c4z tc hSw (fun e=>e);go_simp;try rfl
   (try simp only [pu]);refine takeA 2 (v:=?_) rfl ?_ ?_;rotate_left;· intro w hSw;replace tc:=Far.c4z tc hSw (fun e=>e);go_simp;try rfl
   (try simp only [pu]);refine takeA 3 (v:=?_) rfl ?_ ?_;rotate_left;· intro w hSw;replace tc:=Far.c4z tc hSw (fun e=>e);go_simp;try rfl
   (try simp only [pu]);refine takeA 4 (v:=?_) rfl ?_ ?_;rotate_left;· intro w hSw;replace tc:=Far.c4z tc hSw (fun e=>e);go_simp;try rfl
   (try simp only [pu]);refine callA 5 rfl fun K hK=>?_;go_simp;refine (refArgs_any (fun x _=>refTy_any x) HTZ.out _ _ _ _ (MemW.keep (w:=w2) GTM.out (below_drew _))).mono ?_;rintro e wx21 ⟨rfl,hb⟩;clear rc tc;clear hI hZ;have hbk:=hb;replace hb:=Below.one hb;replace HBr:=kB HBr hb;replace HBt:=kB HBt hb;replace HF:=kF HF hb;have hs21:=hb.size;clear hb;rw [hYY];go_simp;refine hK.out _ _ (Far.trans hS20 (Far.of hbk)) (fun hS21=>?_);clear hK K;refine takeA 6 (v:=?_) rfl ?_ ?_;rotate_left;· intros;go_simp;try rfl
   (try simp only [pu]);refine takeA 7 (v:=?_) rfl ?_ ?_;rotate_left;· intros;go_simp;try rfl
   (try simp only [pu]);refine takeA 8 (v:=?_) rfl ?_ ?_;rotate_left;· intros;go_simp;try rfl
   (try simp only [pu]);refine wpAnyH_done (by kernel_rfl) ?_ _;have rc:=kc5 HBr;have tc:=kc4 HBt;have hI:=chain3 w.heap.size wr.heap.size wx21.heap.size
   go_wp2_with (fail)
   clear rc tc
   go_roundw
   case rel=>exact ⟨k+1,by omega,by go_num,by rw [HNX.out],HF,HBr,by omega⟩
   case measure=>simp [intOf];omega
end
section
open Go.RowKit
theorem refPat_any (e:Ex) (hz:(showX e).size≤100000000) (a:Option Addr) (n c:Nat) (w:World) (hm:MemW w (.s 6 (Ex.rows e.args)) (.slice a n c)) (hnum:NumX e):
 Calls Tryz.prog 83 #[.agg #[.int .i64 e.kind,.string e.name,.int .i64 e.n,.slice a n c,.int .i64 e.line,.int .i64 e.col]] w fun e' w'=>e'=.returned (.string (patX e))∧Below w.heap.size w w':=by
 have HM:=zz hm;have HN:=zz hnum;clear hm hnum;have HS:=zz (refX_any e);have HZ:=zz hz;obtain ⟨sx,hsx⟩:∃ s,showX e=s:=⟨_,rfl⟩
 have hz2:sx.size≤100000000:=by rw [←hsx];exact hz
 clear hz;unfold patX isAp;rw [hsx];obtain ⟨k4,hk4⟩:∃ k,decide (e.kind=4)=k:=⟨_,rfl⟩
 have e4:(e.kind==4)=k4:=by rw [←hk4];by_cases h:e.kind=4 <;> simp [h]
 rw [hk4];clear hk4;have HF:Hid (FarB w.heap.size w.heap.size w w):=zz (FarB.refl _ _ _);go_enter Tryz.func83,Tryz.ntmps83;go_upto_region 1 with (fail);generalize ee:World.alloc w _=w1;have hsa1:=sizeA ee;replace HF:=fA HF ee;have HBr:=nB ee (w.heap.size);clear ee;have rc:=kc6 HBr;have hI:=i0_0 w w1;have hZ:=i01 w;refine wp_region_held_drew (S:=fun w'=>Far (fun _=>False) (w1) w') (by kernel_rfl) (Far.of (below_drew _)) (fun hS20=>?_);refine takeA 0 (v:=?_) rfl ?_ ?_;rotate_left;· intro w hSw;replace rc:=Far.c6z rc hSw (fun e=>e);go_simp;try rfl
 (try simp only [pu]);refine takeA 1 (v:=?_) rfl ?_ ?_;rotate_left;· intro w hSw;replace rc:=Far.c6z rc hSw (fun e=>e);go_simp;try rfl
 (try simp only [pu]);refine takeA 2 (v:=?_) rfl ?_ ?_;rotate_left;· intro w hSw;replace rc:=Far.c6z rc hSw (fun e=>e);go_simp;try rfl
 (try simp only [pu]);refine takeA 3 (v:=?_) rfl ?_ ?_;rotate_left;· intro w hSw;replace rc:=Far.c6z rc hSw (fun e=>e);go_simp;try rfl
 (try simp only [pu]);refine callA 4 rfl fun K hK=>?_;go_simp;refine (HS.out _ _ _ _ (MemW.keep (HM.out.keep (refBelow HF.out)) (below_drew _)) HN.out HZ.out).mono ?_;rintro e wx21 ⟨rfl,hb⟩;clear rc;clear hI hZ;have hbk:=hb;replace hb:=Below.one hb;replace HBr:=kB HBr hb;replace HF:=kF HF hb;have hs21:=hb.size;clear hb;rw [hsx];go_simp;refine hK.out _ _ (Far.trans hS20 (Far.of hbk)) (fun hS21=>?_);clear hK K;refine callA 5 rfl fun K hK=>?_;go_simp;refine (bracketR_any _ sx _ (by omega)).mono ?_;rintro e wx22 ⟨rfl,rfl⟩;have hbk:=Below.refl wx21.heap.size wx21;go_simp;refine hK.out _ _ (Far.trans hS21 (Far.refl _ _)) (fun hS22=>?_);clear hK K;refine takeA 6 (v:=?_) rfl ?_ ?_;rotate_left;· intros;go_simp;try rfl
 (try simp only [pu]);refine wpAnyH_done (by kernel_rfl) ?_ _
 go_wp2_with (fail)
 go_ret;exact ⟨rfl,refBelow HF.out⟩
end
end Go.Proofs.YtcoiagfeoonpbaaGreat
