/-
  The document's Expr at applications. No condition but how they lie, and sizes.
-/
import Derived.Test.YtcoiagfeoonpbaaGreatSm28
import Derived.Test.YtcoiagfeoonpbaaGreatSm2
set_option maxHeartbeats 20000000
set_option maxRecDepth 100000
namespace Go.Proofs.YtcoiagfeoonpbaaGreat
section
open Go.RowKit
theorem join_nil0 (sep:ByteArray):joinB [] sep=⟨#[]⟩:=rfl
theorem join_one0 (x sep:ByteArray):joinB [x] sep=x:=by
  unfold joinB;rw [List.map_cons,List.map_nil,Lib.join_one]
theorem join_add1 {l:List ByteArray} (h:l≠[]) (x sep:ByteArray):joinB (l++[x]) sep=(joinB l sep++sep)++x:=by
  cases l with
  | nil=>exact absurd rfl h
  | cons y l =>
    apply ByteArray.ext
    apply Array.ext'
    rw [ByteArray.data_append,ByteArray.data_append,Array.toList_append,Array.toList_append];unfold joinB;simp only [List.cons_append,List.map_cons,List.map_append,List.map_nil];rw [Lib.join_cons,Lib.join_cons]
    simp [Lib.joinTail]
theorem join_cut (l:List ByteArray) (sep:ByteArray) (k:Nat):(joinB (l.take k) sep).size≤(joinB l sep).size:=by
  have h:∀ (r:List ByteArray) (m:List ByteArray),(joinB r sep).size≤(joinB (r++m) sep).size:=by
    intro r m
    induction m generalizing r with
    | nil=>simp
    | cons x m ih =>
      have e:r++x::m=(r++[x])++m:=by simp
      rw [e];refine Nat.le_trans ?_ (ih (r++[x]))
      by_cases hr:r=[]
      · subst hr;exact Nat.zero_le _
      · rw [join_add1 hr,ByteArray.size_append,ByteArray.size_append];omega
  have :=h (l.take k) (l.drop k)
  rwa [List.take_append_drop] at this
theorem atom_brkR (x:Ex) (s:ByteArray):brkX (!smallX x.kind) s=atomX x s:=by
  unfold brkX atomX
  cases smallX x.kind <;> rfl
theorem ref_app {e:Ex} (hs:∀ x∈e.args,RefsAt x) (h4:e.kind=4∧e.args≠[]):RefsAt e:=by
 intro a n c w hm hnum hz;have HM:=zz hm;have HN:=zz hnum;have HZ:=zz hz;have HSS:=zz hs
 have hln:e.args.length=n:=by have h:=hm.len.1;rw [Ex.rows_len] at h;exact h
 have hcap:n≤c∧c≤9223372036854775807:=hm.len.2;clear hm hnum hz hs;have HF:Hid (FarB w.heap.size w.heap.size w w):=zz (FarB.refl _ _ _);obtain ⟨ats,hats⟩:∃ l,(e.args.map fun x=>atomX x (showX x))=l:=⟨_,rfl⟩;have HQ:Hid (showX e=joinB ats ⟨#[32]⟩):=zz (by rw [showX_eq];unfold formX;rw [if_pos h4,zip_map,hats])
 have hal:ats.length=n:=by rw [←hats,List.length_map];exact hln
 have hsz:(joinB ats ⟨#[32]⟩).size≤100000000:=by rw [←HQ.out];exact HZ.out
 have HJ:=zz (join_size ats ⟨#[32]⟩)
 have e1:(e.kind==1)=false:=by simp [h4.1]
 have e2:(e.kind==2)=false:=by simp [h4.1]
 have e3:(e.kind==3)=false:=by simp [h4.1]
 have e9:(e.kind==9)=false:=by simp [h4.1]
 have e4:(e.kind==4)=true:=by simp [h4.1]
 have hn0:0<n:=by have :=List.length_pos_iff.2 h4.2;omega
 have hn1:(0:Int)<(n:Int):=by omega
 have HATS:=zz hats;have HAL:=zz hal;have HLN:=zz hln;clear hats hal hln h4;go_enter Tryz.func84,Tryz.ntmps84
 go_wp2_with (fail)
 generalize ee:World.alloc w _=w1;have hsa1:=sizeA ee;replace HF:=fA HF ee;have HBr:=nB ee (w.heap.size);clear ee;have rc:=kc6 HBr;have hI:=i0_0 w w1;have hZ:=i01 w
 go_loopw [4,38] (fun v i wr=>∃ k:Nat,k≤n∧i=.int .i64 k∧v=.string (joinB (ats.take k) ⟨#[32]⟩)∧Hid (FarB w.heap.size w.heap.size w wr)∧Hid (Bo wr w.heap.size 60 #[.int .i64 e.kind,.string e.name,.int .i64 e.n,.slice a n c,.int .i64 e.line,.int .i64 e.col])∧w.heap.size+1≤wr.heap.size) (fun _ i _=>n - (intOf i).toNat)
 case atStart=>exact ⟨0,Nat.zero_le _,rfl,rfl,HF,HBr,by omega⟩
 case round=>
  clear HF HBr;obtain ⟨k,hk,rfl,rfl,HF,HBr,hws⟩:=hrel;have rc:=kc6 HBr;have hI:=i0_0 w wr
  by_cases hlt:k<n
  rotate_left
  ·
   have hkn:ats.take k=ats:=List.take_of_length_le (by rw [HAL.out];omega);rw [hkn];clear hkn
   go_wp2_with (fail)
   clear rc;go_ret;exact ⟨congrArg (fun s=>Ending.returned (Value.string s)) HQ.out.symm,refBelow HF.out⟩
  obtain ⟨x,hx⟩:∃ x,e.args[k]?=some x:=⟨_,List.getElem?_eq_getElem (by rw [HLN.out];exact hlt)⟩;have hxm:x∈e.args:=List.mem_of_getElem? hx
  have hax:ats[k]?=some (atomX x (showX x)):=by rw [←HATS.out,List.getElem?_map,hx];rfl
  have hyz:=HJ.out.1 _ (List.mem_of_getElem? hax);have hsx:(showX x).size≤100000000:=Nat.le_trans (atom_size x _) (Nat.le_trans hyz hsz);have HSX:=zz hsx;have HXM:=zz hxm;obtain ⟨b,o,ax,nx,cx,hb0,hi0,_,_,x0,x1,x2,x3,x4,x5,GX⟩:=one_at (HM.out.keep (refBelow HF.out)) (i:=k) hx (k:=k * 6) rfl;subst hb0;obtain ⟨X,hX⟩:∃ X,showX x=X:=⟨_,rfl⟩
  have hXs:X.size≤100000000:=by rw [←hX];exact hsx
  have hcut:=join_cut ats ⟨#[32]⟩ k;have HAX:=zz hax;obtain ⟨S,hS⟩:∃ S,joinB (ats.take k) ⟨#[32]⟩=S:=⟨_,rfl⟩;rw [hS]
  have hSs:S.size≤100000000:=by rw [←hS];omega
  clear hx hxm hax hsx hyz hcut;have htl:=take_at HAX.out;rw [hX] at htl
  by_cases h1:x.kind=1
  case' pos=>
   have z1:(x.kind==1)=true:=by simp [h1]
   have hsm:x.kind=1:=h1;obtain ⟨Y,hY⟩:∃ Y,brkX false X=Y:=⟨_,rfl⟩
   have hbx:Y.size≤X.size+2:=by rw [←hY];exact (brk_size false X).2
   have hat:atomX x X=Y:=by rw [←hY, ←atom_brkR];unfold smallX;simp [hsm]
   clear hsm;clear h1
  case' neg=>
   by_cases h2:x.kind=2
   case' pos=>
    have z1:(x.kind==1)=false:=by simp [h1]
    have z2:(x.kind==2)=true:=by simp [h2]
    have hsm:x.kind=2:=h2;obtain ⟨Y,hY⟩:∃ Y,brkX false X=Y:=⟨_,rfl⟩
    have hbx:Y.size≤X.size+2:=by rw [←hY];exact (brk_size false X).2
    have hat:atomX x X=Y:=by rw [←hY, ←atom_brkR];unfold smallX;simp [hsm]
    clear hsm;clear h1 h2
   case' neg=>
    by_cases h3:x.kind=3
    case' pos=>
     have z1:(x.kind==1)=false:=by simp [h1]
     have z2:(x.kind==2)=false:=by simp [h2]
     have z3:(x.kind==3)=true:=by simp [h3]
     have hsm:x.kind=3:=h3;obtain ⟨Y,hY⟩:∃ Y,brkX false X=Y:=⟨_,rfl⟩
     have hbx:Y.size≤X.size+2:=by rw [←hY];exact (brk_size false X).2
     have hat:atomX x X=Y:=by rw [←hY, ←atom_brkR];unfold smallX;simp [hsm]
     clear hsm;clear h1 h2 h3
    case' neg=>
     by_cases h9:x.kind=9
     case' pos=>
      have z1:(x.kind==1)=false:=by simp [h1]
      have z2:(x.kind==2)=false:=by simp [h2]
      have z3:(x.kind==3)=false:=by simp [h3]
      have z9:(x.kind==9)=true:=by simp [h9]
      have hsm:x.kind=9:=h9;obtain ⟨Y,hY⟩:∃ Y,brkX false X=Y:=⟨_,rfl⟩
      have hbx:Y.size≤X.size+2:=by rw [←hY];exact (brk_size false X).2
      have hat:atomX x X=Y:=by rw [←hY, ←atom_brkR];unfold smallX;simp [hsm]
      clear hsm;clear h1 h2 h3 h9
     case' neg=>
      have z1:(x.kind==1)=false:=by simp [h1]
      have z2:(x.kind==2)=false:=by simp [h2]
      have z3:(x.kind==3)=false:=by simp [h3]
      have z9:(x.kind==9)=false:=by simp [h9]
      have hsm: ¬x.kind=1∧ ¬x.kind=2∧ ¬x.kind=3∧ ¬x.kind=9:=⟨h1,h2,h3,h9⟩;obtain ⟨Y,hY⟩:∃ Y,brkX true X=Y:=⟨_,rfl⟩
      have hbx:Y.size≤X.size+2:=by rw [←hY];exact (brk_size true X).2
      have hat:atomX x X=Y:=by rw [←hY, ←atom_brkR];unfold smallX;simp [hsm]
      clear hsm;clear h1 h2 h3 h9
  all_goals (
   rw [hat] at htl
   have i1: ¬(9223372036854775807<S.size+Y.size):=by omega
   have i0: ¬(9223372036854775807<S.size+1):=by omega
   have i2: ¬(9223372036854775807<S.size+1+Y.size):=by omega
   have hq:(k=0∧Hid (joinB (ats.take (k+1)) ⟨#[32]⟩=S++Y))∨((0:Int)<(k:Int)∧Hid (joinB (ats.take (k+1)) ⟨#[32]⟩=(S++⟨#[32]⟩)++Y)):=by
    by_cases h00:k=0
    ·
     refine .inl ⟨h00,zz ?_⟩;rw [htl, ←hS,h00,List.take_zero,List.nil_append,join_one0,join_nil0];exact ByteArray.ext (by simp)
    ·
     refine .inr ⟨by omega,zz ?_⟩
     rw [htl,join_add1 (by intro h;have h1:=congrArg List.length h;rw [List.length_take,HAL.out,List.length_nil] at h1;omega),hS]
   clear hat htl hS HAX
   rcases hq with ⟨h00,HNX⟩ | ⟨hk0,HNX⟩
   case' inl=>
    have hk0: ¬((0:Int)<(k:Int)):=by omega
    clear h00)
  all_goals (
   go_wp2_with (fail)
   have GXM:=zz (MemW.keep (w:=wr) GX.out (below_new wr (.cells #[.int .i64 x.kind,.string x.name,.int .i64 x.n,.slice ax nx cx,.int .i64 x.line,.int .i64 x.col] 60)));clear rc;generalize ee:(wr.alloc (.cells #[.int .i64 x.kind,.string x.name,.int .i64 x.n,.slice ax nx cx,.int .i64 x.line,.int .i64 x.col] 60))=w2 at *;have hsa2:=sizeA ee;replace HF:=fA HF ee;replace HBr:=bA HBr ee;have HBt:=nB ee (wr.heap.size);clear ee;clear hI;have rc:=kc6 HBr;have tc:=kc6 HBt;have hI:=chain3 w.heap.size wr.heap.size w2.heap.size;have hZ:=chain3 w.heap.size wr.heap.size (wr.heap.size+1);clear x0 x1 x2 x3 x4 x5;clear rc tc;refine (HSS.out x HXM.out _ _ _ _ GXM.out (HN.out.parts.2 x HXM.out) HSX.out).mono ?_;rintro _ w3 ⟨rfl,hb⟩;replace HBr:=kB HBr hb;replace HBt:=kB HBt hb;replace HF:=kF HF hb;have hs3:=hb.size;clear hb;rw [hX];clear hI hZ;have rc:=kc6 HBr;have tc:=kc6 HBt;have hI:=chain3 w.heap.size wr.heap.size w3.heap.size
   go_wp2_with (fail)
   refine (bracketR_any _ X _ (by omega)).mono ?_;rintro _ _ ⟨rfl,rfl⟩;rw [hY]
   go_wp2_with (fail)
   clear rc tc
   go_roundw
   case rel=>exact ⟨k+1,by omega,by go_num,by rw [HNX.out],HF,HBr,by omega⟩
   case measure=>simp [intOf];omega)
end
section
open Go.RowKit
attribute [local go_sem] toList_beq
theorem ref_op {e:Ex} (hs:∀ x∈e.args,RefsAt x) (hk:e.kind=5) (hp:e.args.length=2):RefsAt e:=by
 intro a n c w hm hnum hz;have HM:=zz hm;have HN:=zz hnum;have HZ:=zz hz;have HSS:=zz hs
 have hln:e.args.length=n:=by have h:=hm.len.1;rw [Ex.rows_len] at h;exact h
 have hcap:n≤c∧c≤9223372036854775807:=hm.len.2;clear hm hnum hz hs;have hl2:e.args.length=2:=hp
 obtain ⟨x,y,ha⟩:∃ x y,e.args=[x,y]:=by
  match h:e.args,hl2 with
  | [u0,u1],_=>exact ⟨u0,u1,rfl⟩
 have HQ:Hid (showX e=opX e.name x y (showX x) (showX y)):=zz (by rw [showX_eq];unfold formX;rw [if_neg (by rw [hk];simp),if_neg (by rw [hk,hp];decide),if_neg (by omega),if_neg (by omega),if_pos hk,ha];rfl);have HA:=zz ha;have HSx:=zz (HSS.out x (by rw [ha];simp));have HNx:=zz (HN.out.parts.2 x (by rw [ha];simp));have HSy:=zz (HSS.out y (by rw [ha];simp));have HNy:=zz (HN.out.parts.2 y (by rw [ha];simp));have HZ2:Hid ((opX e.name x y (showX x) (showX y)).size≤100000000):=zz (by rw [←HQ.out];exact HZ.out)
 have HSZ:Hid ((showX x).size≤100000000∧(showX y).size≤100000000):=zz (by have h:=HZ2.out;unfold opX opndX at h;rw [app_sz,app_sz,app_sz,app_sz] at h;have q1:=(brk_size (openX x.kind || lessX x (bindsE e.name) (leftX e.name)) (showX x)).1;have q2:=(brk_size (openX y.kind || lessX y (bindsE e.name) (decide (e.name≠⟨#[63]⟩))) (showX y)).1;omega)
 obtain rfl:n=2:=by omega
 have e1:(e.kind==1)=false:=by simp [hk]
 have e2:(e.kind==2)=false:=by simp [hk]
 have e3:(e.kind==3)=false:=by simp [hk]
 have e9:(e.kind==9)=false:=by simp [hk]
 have e4:(e.kind==4)=false:=by simp [hk]
 have e5:(e.kind==5)=true:=by simp [hk]
 have hb10:=binds_le e.name;clear ha hp hln hl2 hk
 by_cases q1:e.name=⟨#[63]⟩
 case' pos=>
  have l1:leftX e.name=true:=by unfold leftX;simp [q1]
  have l2:decide (e.name≠⟨#[63]⟩)=false:=by simp [q1]
  have t1:(e.name.toList==[63])=true:=by have h:=congrArg ByteArray.toList q1;simpa using h
  obtain ⟨X,hX⟩:∃ X,opndX x (showX x) (bindsE e.name) true=X:=⟨_,rfl⟩;obtain ⟨Y,hY⟩:∃ Y,opndX y (showX y) (bindsE e.name) false=Y:=⟨_,rfl⟩;replace HQ:Hid (showX e=(((X++⟨#[32]⟩)++e.name)++⟨#[32]⟩)++Y):=zz (by rw [HQ.out];unfold opX;rw [l1,l2,hX,hY])
  have HZ3:X.size+1+e.name.size+1+Y.size≤100000000:=by
   have hz:=HZ.out;rw [HQ.out,app_sz,app_sz,app_sz,app_sz] at hz;have q1:(⟨#[32]⟩:ByteArray).size=1:=rfl
   omega
  clear l1 l2;clear q1
 case' neg=>
  by_cases q2:e.name=⟨#[61,61]⟩
  case' pos=>
   have l1:leftX e.name=true:=by unfold leftX;simp [q2]
   have l2:decide (e.name≠⟨#[63]⟩)=true:=by simp [q1]
   have t1:(e.name.toList==[63])=false:=by have h:=str_ne q1;simpa using h
   have t2:(e.name.toList==[61,61])=true:=by have h:=congrArg ByteArray.toList q2;simpa using h
   obtain ⟨X,hX⟩:∃ X,opndX x (showX x) (bindsE e.name) true=X:=⟨_,rfl⟩;obtain ⟨Y,hY⟩:∃ Y,opndX y (showX y) (bindsE e.name) true=Y:=⟨_,rfl⟩;replace HQ:Hid (showX e=(((X++⟨#[32]⟩)++e.name)++⟨#[32]⟩)++Y):=zz (by rw [HQ.out];unfold opX;rw [l1,l2,hX,hY])
   have HZ3:X.size+1+e.name.size+1+Y.size≤100000000:=by
    have hz:=HZ.out;rw [HQ.out,app_sz,app_sz,app_sz,app_sz] at hz;have q1:(⟨#[32]⟩:ByteArray).size=1:=rfl
    omega
   clear l1 l2;clear q1 q2
  case' neg=>
   by_cases q3:e.name=⟨#[60]⟩
   case' pos=>
    have l1:leftX e.name=true:=by unfold leftX;simp [q3]
    have l2:decide (e.name≠⟨#[63]⟩)=true:=by simp [q1]
    have t1:(e.name.toList==[63])=false:=by have h:=str_ne q1;simpa using h
    have t2:(e.name.toList==[61,61])=false:=by have h:=str_ne q2;simpa using h
    have t3:(e.name.toList==[60])=true:=by have h:=congrArg ByteArray.toList q3;simpa using h
    obtain ⟨X,hX⟩:∃ X,opndX x (showX x) (bindsE e.name) true=X:=⟨_,rfl⟩;obtain ⟨Y,hY⟩:∃ Y,opndX y (showX y) (bindsE e.name) true=Y:=⟨_,rfl⟩;replace HQ:Hid (showX e=(((X++⟨#[32]⟩)++e.name)++⟨#[32]⟩)++Y):=zz (by rw [HQ.out];unfold opX;rw [l1,l2,hX,hY])
    have HZ3:X.size+1+e.name.size+1+Y.size≤100000000:=by
     have hz:=HZ.out;rw [HQ.out,app_sz,app_sz,app_sz,app_sz] at hz;have q1:(⟨#[32]⟩:ByteArray).size=1:=rfl
     omega
    clear l1 l2;clear q1 q2 q3
   case' neg=>
    have l1:leftX e.name=false:=by unfold leftX;simp [q1,q2,q3]
    have l2:decide (e.name≠⟨#[63]⟩)=true:=by simp [q1]
    have t1:(e.name.toList==[63])=false:=by have h:=str_ne q1;simpa using h
    have t2:(e.name.toList==[61,61])=false:=by have h:=str_ne q2;simpa using h
    have t3:(e.name.toList==[60])=false:=by have h:=str_ne q3;simpa using h
    obtain ⟨X,hX⟩:∃ X,opndX x (showX x) (bindsE e.name) false=X:=⟨_,rfl⟩;obtain ⟨Y,hY⟩:∃ Y,opndX y (showX y) (bindsE e.name) true=Y:=⟨_,rfl⟩;replace HQ:Hid (showX e=(((X++⟨#[32]⟩)++e.name)++⟨#[32]⟩)++Y):=zz (by rw [HQ.out];unfold opX;rw [l1,l2,hX,hY])
    have HZ3:X.size+1+e.name.size+1+Y.size≤100000000:=by
     have hz:=HZ.out;rw [HQ.out,app_sz,app_sz,app_sz,app_sz] at hz;have q1:(⟨#[32]⟩:ByteArray).size=1:=rfl
     omega
    clear l1 l2;clear q1 q2 q3
 all_goals (
  have HF:Hid (FarB w.heap.size w.heap.size w w):=zz (FarB.refl _ _ _);go_enter Tryz.func84,Tryz.ntmps84
  go_wp2_with (fail)
  generalize ee:World.alloc w _=w1;have hsa1:=sizeA ee;replace HF:=fA HF ee;have HBr:=nB ee (w.heap.size);clear ee;have rc:=kc6 HBr;have hI:=i0_0 w w1;have hZ:=i01 w;refine (rbinds_any _ _).mono ?_;rintro _ _ ⟨rfl,rfl⟩;generalize hbk:bindsE e.name=bk at HQ HZ2 hX hY hb10;go_upto_region 30 with (fail);obtain ⟨bxe,oxe,axe,nxe,cxe,hexe,hixe,hcxe,hdxe,xe0,xe1,xe2,xe3,xe4,xe5,GXxe⟩:=one_at (HM.out.keep (refBelow HF.out)) (i:=0) (x:=x) (by rw [HA.out];rfl) (k:=0) rfl;subst hexe;simp only [Nat.add_zero] at xe0 xe1 xe2 xe3 xe4 xe5;obtain ⟨bye,oye,aye,nye,cye,heye,hiye,hcye,hdye,ye0,ye1,ye2,ye3,ye4,ye5,GXye⟩:=one_at (HM.out.keep (refBelow HF.out)) (i:=1) (x:=y) (by rw [HA.out];rfl) (k:=6) rfl;cases heye;clear rc;clear hI hZ;have rc:=kc6 HBr;have hI:=i0_0 w w1;have hZ:=i01 w;refine wp_region_held_drew (S:=fun w'=>Far (fun _=>False) (w1) w') (by kernel_rfl) (Far.of (below_drew _)) (fun hS20=>?_);refine takeA 0 (v:=?_) rfl ?_ ?_;rotate_left;· intros;go_simp;try rfl
  (try simp only [pu]);refine takeA 1 (v:=?_) rfl ?_ ?_;rotate_left;· intro w hSw;replace rc:=Far.c6z rc hSw (fun e=>e);go_simp;try rfl
  (try simp only [pu]);refine takeA 2 (v:=?_) rfl ?_ ?_;rotate_left;· intros;go_simp;try rfl
  (try simp only [pu]);refine takeA 3 (v:=?_) rfl ?_ ?_;rotate_left;· intro w hSw;replace xe0:=Far.cellZ xe0 hSw (fun e=>e);replace xe1:=Far.cellZ xe1 hSw (fun e=>e);replace xe2:=Far.cellZ xe2 hSw (fun e=>e);replace xe3:=Far.cellZ xe3 hSw (fun e=>e);replace xe4:=Far.cellZ xe4 hSw (fun e=>e);replace xe5:=Far.cellZ xe5 hSw (fun e=>e);go_simp;try rfl
  (try simp only [pu]);refine takeA 4 (v:=?_) rfl ?_ ?_;rotate_left;· intros;go_simp;try rfl
  (try simp only [pu]);refine takeA 5 (v:=?_) rfl ?_ ?_;rotate_left;· intros;go_simp;try rfl
  (try simp only [pu]);refine takeA 8 (v:=?_) rfl ?_ ?_;rotate_left;· intros;go_simp;try rfl
  (try simp only [pu]);refine takeA 9 (v:=?_) rfl ?_ ?_;rotate_left;· intro w hSw;replace rc:=Far.c6z rc hSw (fun e=>e);go_simp;try rfl
  (try simp only [pu]);refine takeA 12 (v:=?_) rfl ?_ ?_;rotate_left;· intros;go_simp;try rfl
  (try simp only [pu]);refine takeA 13 (v:=?_) rfl ?_ ?_;rotate_left;· intro w hSw;replace rc:=Far.c6z rc hSw (fun e=>e);go_simp;try rfl
  (try simp only [pu]);refine takeA 14 (v:=?_) rfl ?_ ?_;rotate_left;· intros;go_simp;try rfl
  (try simp only [pu]);refine takeA 15 (v:=?_) rfl ?_ ?_;rotate_left;· intro w hSw;replace ye0:=Far.cellZ ye0 hSw (fun e=>e);replace ye1:=Far.cellZ ye1 hSw (fun e=>e);replace ye2:=Far.cellZ ye2 hSw (fun e=>e);replace ye3:=Far.cellZ ye3 hSw (fun e=>e);replace ye4:=Far.cellZ ye4 hSw (fun e=>e);replace ye5:=Far.cellZ ye5 hSw (fun e=>e);go_simp;try rfl
  (try simp only [pu]);refine takeA 16 (v:=?_) rfl ?_ ?_;rotate_left;· intros;go_simp;try rfl
  (try simp only [pu]);refine takeA 17 (v:=?_) rfl ?_ ?_;rotate_left;· intros;go_simp;try rfl
  (try simp only [pu]);refine takeA 18 (v:=?_) rfl ?_ ?_;rotate_left;· intro w hSw;replace rc:=Far.c6z rc hSw (fun e=>e);go_simp;try rfl
  (try simp only [pu]);refine takeA 19 (v:=?_) rfl ?_ ?_;rotate_left;· intros;go_simp;try rfl
  (try simp only [pu]);clear xe0 xe1 xe2 xe3 xe4 xe5 ye0 ye1 ye2 ye3 ye4 ye5
  have iz1: ¬(9223372036854775807<X.size+1):=by omega
  have iz2: ¬(9223372036854775807<X.size+1+e.name.size):=by omega
  have iz3: ¬(9223372036854775807<X.size+1+e.name.size+1):=by omega
  have iz4: ¬(9223372036854775807<X.size+1+e.name.size+1+Y.size):=by omega
  refine callA 6 rfl fun K hK=>?_;go_simp;refine (side_any (HSx.out) (HSZ.out.1) bk _ hb10 _ _ _ _ (MemW.keep (w:=w1) GXxe.out (below_drew _)) HNx.out).mono ?_;rintro e wx21 ⟨rfl,hb⟩;clear rc;clear hI hZ;have hbk:=hb;replace hb:=Below.one hb;replace HBr:=kB HBr hb;replace HF:=kF HF hb;have hs21:=hb.size;clear hb;rw [hX];go_simp;refine hK.out _ _ (Far.trans hS20 (Far.of hbk)) (fun hS21=>?_);clear hK K;refine takeA 7 (v:=?_) rfl ?_ ?_;rotate_left;· intros;go_simp;try rfl
  (try simp only [pu]);refine takeA 10 (v:=?_) rfl ?_ ?_;rotate_left;· intros;go_simp;try rfl
  (try simp only [pu]);refine takeA 11 (v:=?_) rfl ?_ ?_;rotate_left;· intros;go_simp;try rfl
  (try simp only [pu]);refine callA 20 rfl fun K hK=>?_;go_simp;refine (side_any (HSy.out) (HSZ.out.2) bk _ hb10 _ _ _ _ (MemW.keep (w:=w1) GXye.out (Far.toB (Far.mono hS21 fun _ h=>h.elim) (Nat.le_refl _))) HNy.out).mono ?_;rintro e wx22 ⟨rfl,hb⟩;have hbk:=hb;replace HBr:=kB HBr hb;replace HF:=kF HF hb;have hs22:=hb.size;clear hb;rw [hY];go_simp;refine hK.out _ _ (Far.trans hS21 (Far.of hbk)) (fun hS22=>?_);clear hK K;refine takeA 21 (v:=?_) rfl ?_ ?_;rotate_left;· intros;go_simp;try rfl
  (try simp only [pu]);refine takeA 22 (v:=?_) rfl ?_ ?_;rotate_left;· intros;go_simp;try rfl
  (try simp only [pu]);refine wpAnyH_done (by kernel_rfl) ?_ _
  go_wp2_with (fail)
  go_ret
  exact ⟨congrArg (fun s=>Ending.returned (Value.string s)) HQ.out.symm,refBelow HF.out⟩)
end
section
open Go.RowKit
theorem ref_of {e:Ex} (hs:∀ x∈e.args,RefsAt x):RefsAt e:=by
 by_cases h4:e.kind=4∧e.args≠[]
 · exact ref_app hs h4
 intro a n c w hm hnum hz;have HM:=zz hm;have HN:=zz hnum;have HZ:=zz hz;have HSS:=zz hs
 have hln:e.args.length=n:=by have h:=hm.len.1;rw [Ex.rows_len] at h;exact h
 have hcap:n≤c∧c≤9223372036854775807:=hm.len.2;clear hm hnum hz hs
 by_cases k1:e.kind=1
 ·
  have hk:=k1;clear k1
  by_cases hp:e.args.length=0
  ·
   clear h4;have HF:Hid (FarB w.heap.size w.heap.size w w):=zz (FarB.refl _ _ _);have HQ:Hid (showX e=e.name):=zz (by rw [showX_eq];unfold formX;rw [if_neg (by rw [hk];simp),if_neg (by rw [hk,hp];decide),if_pos (by omega)])
   have e1:(e.kind==1)=true:=by simp [hk]
   obtain rfl:n=0:=by omega
   clear hp hln hk;go_enter Tryz.func84,Tryz.ntmps84
   go_wp2_with (fail)
   go_ret;exact ⟨congrArg (fun s=>Ending.returned (Value.string s)) HQ.out.symm,below_new _ _⟩
  replace hp:partsX e.kind≠(e.args.length:Int):=by rw [hk];intro h;exact hp (by have q:partsX 1=0:=rfl;rw [q] at h;omega)
  have HF:Hid (FarB w.heap.size w.heap.size w w):=zz (FarB.refl _ _ _);have HQ:Hid (showX e=⟨#[63]⟩):=zz (by rw [showX_eq];unfold formX;rw [if_neg (fun h=>h4 h),if_pos hp])
  have e1:(e.kind==1)=true:=by simp [hk]
  have nq:((n:Int)==0)=false:=by
   rw [beq_eq_false_iff_ne];intro h;exact hp (by rw [hk,hln,h];rfl)
  clear hp hln h4 hk;go_enter Tryz.func84,Tryz.ntmps84
  go_wp2_with (fail)
  go_ret;exact ⟨congrArg (fun s=>Ending.returned (Value.string s)) HQ.out.symm,below_new _ _⟩
 by_cases k2:e.kind=2
 ·
  have hk:=k2;clear k2
  by_cases hp:e.args.length=0
  ·
   clear h4;have HF:Hid (FarB w.heap.size w.heap.size w w):=zz (FarB.refl _ _ _);have HQ:Hid (showX e=e.name):=zz (by rw [showX_eq];unfold formX;rw [if_neg (by rw [hk];simp),if_neg (by rw [hk,hp];decide),if_pos (by omega)])
   have e1:(e.kind==1)=false:=by simp [hk]
   have e2:(e.kind==2)=true:=by simp [hk]
   obtain rfl:n=0:=by omega
   clear hp hln hk;go_enter Tryz.func84,Tryz.ntmps84
   go_wp2_with (fail)
   go_ret;exact ⟨congrArg (fun s=>Ending.returned (Value.string s)) HQ.out.symm,below_new _ _⟩
  replace hp:partsX e.kind≠(e.args.length:Int):=by rw [hk];intro h;exact hp (by have q:partsX 2=0:=rfl;rw [q] at h;omega)
  have HF:Hid (FarB w.heap.size w.heap.size w w):=zz (FarB.refl _ _ _);have HQ:Hid (showX e=⟨#[63]⟩):=zz (by rw [showX_eq];unfold formX;rw [if_neg (fun h=>h4 h),if_pos hp])
  have e1:(e.kind==1)=false:=by simp [hk]
  have e2:(e.kind==2)=true:=by simp [hk]
  have nq:((n:Int)==0)=false:=by
   rw [beq_eq_false_iff_ne];intro h;exact hp (by rw [hk,hln,h];rfl)
  clear hp hln h4 hk;go_enter Tryz.func84,Tryz.ntmps84
  go_wp2_with (fail)
  go_ret;exact ⟨congrArg (fun s=>Ending.returned (Value.string s)) HQ.out.symm,below_new _ _⟩
 by_cases k3:e.kind=3
 ·
  have hk:=k3;clear k3
  by_cases hp:e.args.length=0
  ·
   clear h4;have HF:Hid (FarB w.heap.size w.heap.size w w):=zz (FarB.refl _ _ _);have HQ:Hid (showX e=⟨(digs e.n).toArray⟩):=zz (by rw [showX_eq];unfold formX;rw [if_neg (by rw [hk];simp),if_neg (by rw [hk,hp];decide),if_neg (by omega),if_pos hk])
   have e1:(e.kind==1)=false:=by simp [hk]
   have e2:(e.kind==2)=false:=by simp [hk]
   have e3:(e.kind==3)=true:=by simp [hk]
   obtain rfl:n=0:=by omega
   have HNN:=zz HN.out.parts.1;clear hp hln hk;go_enter Tryz.func84,Tryz.ntmps84
   go_wp2_with (fail)
   generalize ee:World.alloc w _=w1;have hsa1:=sizeA ee;replace HF:=fA HF ee;have HBr:=nB ee (w.heap.size);clear ee;have rc:=kc6 HBr;have hI:=i0_0 w w1;have hZ:=i01 w;clear rc;refine (rDigits_any _ _ HNN.out.1 HNN.out.2).mono ?_;rintro _ w2 ⟨rfl,hb⟩;replace HBr:=kB HBr hb;replace HF:=kF HF hb;have hs2:=hb.size;clear hb;clear hI hZ;have rc:=kc6 HBr;have hI:=i0_0 w w2
   go_wp2_with (fail)
   clear rc;go_ret;exact ⟨congrArg (fun s=>Ending.returned (Value.string s)) HQ.out.symm,refBelow HF.out⟩
  replace hp:partsX e.kind≠(e.args.length:Int):=by rw [hk];intro h;exact hp (by have q:partsX 3=0:=rfl;rw [q] at h;omega)
  have HF:Hid (FarB w.heap.size w.heap.size w w):=zz (FarB.refl _ _ _);have HQ:Hid (showX e=⟨#[63]⟩):=zz (by rw [showX_eq];unfold formX;rw [if_neg (fun h=>h4 h),if_pos hp])
  have e1:(e.kind==1)=false:=by simp [hk]
  have e2:(e.kind==2)=false:=by simp [hk]
  have e3:(e.kind==3)=true:=by simp [hk]
  have nq:((n:Int)==0)=false:=by
   rw [beq_eq_false_iff_ne];intro h;exact hp (by rw [hk,hln,h];rfl)
  clear hp hln h4 hk;go_enter Tryz.func84,Tryz.ntmps84
  go_wp2_with (fail)
  go_ret;exact ⟨congrArg (fun s=>Ending.returned (Value.string s)) HQ.out.symm,below_new _ _⟩
 by_cases k9:e.kind=9
 ·
  have hk:=k9;clear k9
  by_cases hp:e.args.length=0
  ·
   clear h4;have HF:Hid (FarB w.heap.size w.heap.size w w):=zz (FarB.refl _ _ _);have HQ:Hid (showX e=⟨#[95]⟩):=zz (by rw [showX_eq];unfold formX;rw [if_neg (by rw [hk];simp),if_neg (by rw [hk,hp];decide),if_neg (by omega),if_neg (by omega),if_neg (by omega),if_neg (by omega),if_neg (by omega),if_neg (by omega)])
   have e1:(e.kind==1)=false:=by simp [hk]
   have e2:(e.kind==2)=false:=by simp [hk]
   have e3:(e.kind==3)=false:=by simp [hk]
   have e9:(e.kind==9)=true:=by simp [hk]
   obtain rfl:n=0:=by omega
   clear hp hln hk;go_enter Tryz.func84,Tryz.ntmps84
   go_wp2_with (fail)
   go_ret;exact ⟨congrArg (fun s=>Ending.returned (Value.string s)) HQ.out.symm,below_new _ _⟩
  replace hp:partsX e.kind≠(e.args.length:Int):=by rw [hk];intro h;exact hp (by have q:partsX 9=0:=rfl;rw [q] at h;omega)
  have HF:Hid (FarB w.heap.size w.heap.size w w):=zz (FarB.refl _ _ _);have HQ:Hid (showX e=⟨#[63]⟩):=zz (by rw [showX_eq];unfold formX;rw [if_neg (fun h=>h4 h),if_pos hp])
  have e1:(e.kind==1)=false:=by simp [hk]
  have e2:(e.kind==2)=false:=by simp [hk]
  have e3:(e.kind==3)=false:=by simp [hk]
  have e9:(e.kind==9)=true:=by simp [hk]
  have nq:((n:Int)==0)=false:=by
   rw [beq_eq_false_iff_ne];intro h;exact hp (by rw [hk,hln,h];rfl)
  clear hp hln h4 hk;go_enter Tryz.func84,Tryz.ntmps84
  go_wp2_with (fail)
  go_ret;exact ⟨congrArg (fun s=>Ending.returned (Value.string s)) HQ.out.symm,below_new _ _⟩
 by_cases k8:e.kind=8
 ·
  have hk:=k8;clear k8
  by_cases hp:e.args.length=1
  ·
   clear h4;have HF:Hid (FarB w.heap.size w.heap.size w w):=zz (FarB.refl _ _ _);have hl1:e.args.length=1:=hp
   obtain ⟨x,ha⟩:∃ x,e.args=[x]:=by
    match h:e.args,hl1 with
    | [u0],_=>exact ⟨u0,rfl⟩
   have HQ:Hid (showX e=freeX e.name (showX x)):=zz (by rw [showX_eq];unfold formX;rw [if_neg (by rw [hk];simp),if_neg (by rw [hk,hp];decide),if_neg (by omega),if_neg (by omega),if_neg (by omega),if_neg (by omega),if_neg (by omega),if_pos hk,ha];rfl);have HA:=zz ha;have HSx:=zz (HSS.out x (by rw [ha];simp));have HNx:=zz (HN.out.parts.2 x (by rw [ha];simp));have hz2:=HZ.out;rw [HQ.out] at hz2;obtain ⟨vx,hvx⟩:∃ v,showX x=v:=⟨_,rfl⟩;rw [hvx] at hz2;replace HQ:Hid (showX e=freeX e.name vx):=zz (by rw [HQ.out,hvx])
   have hz3:4+e.name.size+9+vx.size≤100000000:=by
    unfold freeX at hz2;rw [app_sz,app_sz,app_sz] at hz2;have q0:(⟨#[108,101,116,32]⟩:ByteArray).size=4:=rfl;have q1:(⟨#[32,102,114,101,101,32,105,110,32]⟩:ByteArray).size=9:=rfl
    omega
   have HZx:Hid ((showX x).size≤100000000):=zz (by rw [hvx];omega)
   obtain rfl:n=1:=by omega
   have e1:(e.kind==1)=false:=by simp [hk]
   have e2:(e.kind==2)=false:=by simp [hk]
   have e3:(e.kind==3)=false:=by simp [hk]
   have e9:(e.kind==9)=false:=by simp [hk]
   have e4:(e.kind==4)=false:=by simp [hk]
   have e5:(e.kind==5)=false:=by simp [hk]
   have e6:(e.kind==6)=false:=by simp [hk]
   have e7:(e.kind==7)=false:=by simp [hk]
   have e8:(e.kind==8)=true:=by simp [hk]
   clear ha hz2 hp hln hk hl1;go_enter Tryz.func84,Tryz.ntmps84;go_upto_region 39 with (fail);generalize ee:World.alloc w _=w1;have hsa1:=sizeA ee;replace HF:=fA HF ee;have HBr:=nB ee (w.heap.size);clear ee;have rc:=kc6 HBr;have hI:=i0_0 w w1;have hZ:=i01 w;obtain ⟨bxe,oxe,axe,nxe,cxe,hexe,hixe,hcxe,hdxe,xe0,xe1,xe2,xe3,xe4,xe5,GXxe⟩:=one_at (HM.out.keep (refBelow HF.out)) (i:=0) (x:=x) (by rw [HA.out];rfl) (k:=0) rfl;subst hexe;simp only [Nat.add_zero] at xe0 xe1 xe2 xe3 xe4 xe5;clear rc;clear hI hZ;have rc:=kc6 HBr;have hI:=i0_0 w w1;have hZ:=i01 w
   have iz1: ¬(9223372036854775807<4+e.name.size):=by omega
   have iz2: ¬(9223372036854775807<4+e.name.size+9):=by omega
   have iz3: ¬(9223372036854775807<4+e.name.size+9+vx.size):=by omega
   refine wp_region_held_drew (S:=fun w'=>Far (fun _=>False) (w1) w') (by kernel_rfl) (Far.of (below_drew _)) (fun hS20=>?_);refine takeA 0 (v:=?_) rfl ?_ ?_;rotate_left;· intros;go_simp;try rfl
   (try simp only [pu]);refine takeA 1 (v:=?_) rfl ?_ ?_;rotate_left;· intro w hSw;replace rc:=Far.c6z rc hSw (fun e=>e);go_simp;try rfl
   (try simp only [pu]);refine takeA 2 (v:=?_) rfl ?_ ?_;rotate_left;· intros;go_simp;try rfl
   (try simp only [pu]);refine takeA 3 (v:=?_) rfl ?_ ?_;rotate_left;· intros;go_simp;try rfl
   (try simp only [pu]);refine takeA 4 (v:=?_) rfl ?_ ?_;rotate_left;· intros;go_simp;try rfl
   (try simp only [pu]);refine takeA 5 (v:=?_) rfl ?_ ?_;rotate_left;· intro w hSw;replace rc:=Far.c6z rc hSw (fun e=>e);go_simp;try rfl
   (try simp only [pu]);refine takeA 6 (v:=?_) rfl ?_ ?_;rotate_left;· intros;go_simp;try rfl
   (try simp only [pu]);refine takeA 7 (v:=?_) rfl ?_ ?_;rotate_left;· intro w hSw;replace xe0:=Far.cellZ xe0 hSw (fun e=>e);replace xe1:=Far.cellZ xe1 hSw (fun e=>e);replace xe2:=Far.cellZ xe2 hSw (fun e=>e);replace xe3:=Far.cellZ xe3 hSw (fun e=>e);replace xe4:=Far.cellZ xe4 hSw (fun e=>e);replace xe5:=Far.cellZ xe5 hSw (fun e=>e);go_simp;try rfl
   (try simp only [pu]);clear xe0 xe1 xe2 xe3 xe4 xe5;refine callA 8 rfl fun K hK=>?_;go_simp;refine (HSx.out _ _ _ _ (MemW.keep (w:=w1) GXxe.out (below_drew _)) HNx.out HZx.out).mono ?_;rintro e wx21 ⟨rfl,hb⟩;clear rc;clear hI hZ;have hbk:=hb;replace hb:=Below.one hb;replace HBr:=kB HBr hb;replace HF:=kF HF hb;have hs21:=hb.size;clear hb;rw [hvx];go_simp;refine hK.out _ _ (Far.trans hS20 (Far.of hbk)) (fun hS21=>?_);clear hK K;refine takeA 9 (v:=?_) rfl ?_ ?_;rotate_left;· intros;go_simp;try rfl
   (try simp only [pu]);refine takeA 10 (v:=?_) rfl ?_ ?_;rotate_left;· intros;go_simp;try rfl
   (try simp only [pu]);refine wpAnyH_done (by kernel_rfl) ?_ _
   go_wp2_with (fail)
   go_ret;exact ⟨congrArg (fun s=>Ending.returned (Value.string s)) HQ.out.symm,refBelow HF.out⟩
  replace hp:partsX e.kind≠(e.args.length:Int):=by rw [hk];intro h;exact hp (by have q:partsX 8=1:=rfl;rw [q] at h;omega)
  have HF:Hid (FarB w.heap.size w.heap.size w w):=zz (FarB.refl _ _ _);have HQ:Hid (showX e=⟨#[63]⟩):=zz (by rw [showX_eq];unfold formX;rw [if_neg (fun h=>h4 h),if_pos hp])
  have e1:(e.kind==1)=false:=by simp [hk]
  have e2:(e.kind==2)=false:=by simp [hk]
  have e3:(e.kind==3)=false:=by simp [hk]
  have e9:(e.kind==9)=false:=by simp [hk]
  have e4:(e.kind==4)=false:=by simp [hk]
  have e5:(e.kind==5)=false:=by simp [hk]
  have e6:(e.kind==6)=false:=by simp [hk]
  have e7:(e.kind==7)=false:=by simp [hk]
  have e8:(e.kind==8)=true:=by simp [hk]
  have nq:((n:Int)==1)=false:=by
   rw [beq_eq_false_iff_ne];intro h;exact hp (by rw [hk,hln,h];rfl)
  clear hp hln h4 hk;go_enter Tryz.func84,Tryz.ntmps84
  go_wp2_with (fail)
  go_ret;exact ⟨congrArg (fun s=>Ending.returned (Value.string s)) HQ.out.symm,below_new _ _⟩
 by_cases k7:e.kind=7
 ·
  have hk:=k7;clear k7
  by_cases hp:e.args.length=2
  ·
   clear h4;have HF:Hid (FarB w.heap.size w.heap.size w w):=zz (FarB.refl _ _ _);have hl2:e.args.length=2:=hp
   obtain ⟨x,y,ha⟩:∃ x y,e.args=[x,y]:=by
    match h:e.args,hl2 with
    | [u0,u1],_=>exact ⟨u0,u1,rfl⟩
   have HQ:Hid (showX e=letX e.name (showX x) (showX y)):=zz (by rw [showX_eq];unfold formX;rw [if_neg (by rw [hk];simp),if_neg (by rw [hk,hp];decide),if_neg (by omega),if_neg (by omega),if_neg (by omega),if_neg (by omega),if_pos hk,ha];rfl);have HA:=zz ha;have HSx:=zz (HSS.out x (by rw [ha];simp));have HNx:=zz (HN.out.parts.2 x (by rw [ha];simp));have HSy:=zz (HSS.out y (by rw [ha];simp));have HNy:=zz (HN.out.parts.2 y (by rw [ha];simp));have hz2:=HZ.out;rw [HQ.out] at hz2;obtain ⟨vx,hvx⟩:∃ v,showX x=v:=⟨_,rfl⟩;obtain ⟨vy,hvy⟩:∃ v,showX y=v:=⟨_,rfl⟩;rw [hvx,hvy] at hz2;replace HQ:Hid (showX e=letX e.name vx vy):=zz (by rw [HQ.out,hvx,hvy])
   have hz3:4+e.name.size+3+vx.size+4+vy.size≤100000000:=by
    unfold letX at hz2;rw [app_sz,app_sz,app_sz,app_sz,app_sz] at hz2;have q0:(⟨#[108,101,116,32]⟩:ByteArray).size=4:=rfl;have q1:(⟨#[32,61,32]⟩:ByteArray).size=3:=rfl;have q2:(⟨#[32,105,110,32]⟩:ByteArray).size=4:=rfl
    omega
   have HZx:Hid ((showX x).size≤100000000):=zz (by rw [hvx];omega);have HZy:Hid ((showX y).size≤100000000):=zz (by rw [hvy];omega)
   obtain rfl:n=2:=by omega
   have e1:(e.kind==1)=false:=by simp [hk]
   have e2:(e.kind==2)=false:=by simp [hk]
   have e3:(e.kind==3)=false:=by simp [hk]
   have e9:(e.kind==9)=false:=by simp [hk]
   have e4:(e.kind==4)=false:=by simp [hk]
   have e5:(e.kind==5)=false:=by simp [hk]
   have e6:(e.kind==6)=false:=by simp [hk]
   have e7:(e.kind==7)=true:=by simp [hk]
   clear ha hz2 hp hln hk hl2;go_enter Tryz.func84,Tryz.ntmps84;go_upto_region 36 with (fail);generalize ee:World.alloc w _=w1;have hsa1:=sizeA ee;replace HF:=fA HF ee;have HBr:=nB ee (w.heap.size);clear ee;have rc:=kc6 HBr;have hI:=i0_0 w w1;have hZ:=i01 w;obtain ⟨bxe,oxe,axe,nxe,cxe,hexe,hixe,hcxe,hdxe,xe0,xe1,xe2,xe3,xe4,xe5,GXxe⟩:=one_at (HM.out.keep (refBelow HF.out)) (i:=0) (x:=x) (by rw [HA.out];rfl) (k:=0) rfl;subst hexe;simp only [Nat.add_zero] at xe0 xe1 xe2 xe3 xe4 xe5;obtain ⟨bye,oye,aye,nye,cye,heye,hiye,hcye,hdye,ye0,ye1,ye2,ye3,ye4,ye5,GXye⟩:=one_at (HM.out.keep (refBelow HF.out)) (i:=1) (x:=y) (by rw [HA.out];rfl) (k:=6) rfl;cases heye;clear rc;clear hI hZ;have rc:=kc6 HBr;have hI:=i0_0 w w1;have hZ:=i01 w
   have iz1: ¬(9223372036854775807<4+e.name.size):=by omega
   have iz2: ¬(9223372036854775807<4+e.name.size+3):=by omega
   have iz3: ¬(9223372036854775807<4+e.name.size+3+vx.size):=by omega
   have iz4: ¬(9223372036854775807<4+e.name.size+3+vx.size+4):=by omega
   have iz5: ¬(9223372036854775807<4+e.name.size+3+vx.size+4+vy.size):=by omega
   refine wp_region_held_drew (S:=fun w'=>Far (fun _=>False) (w1) w') (by kernel_rfl) (Far.of (below_drew _)) (fun hS20=>?_);refine takeA 0 (v:=?_) rfl ?_ ?_;rotate_left;· intros;go_simp;try rfl
   (try simp only [pu]);refine takeA 1 (v:=?_) rfl ?_ ?_;rotate_left;· intro w hSw;replace rc:=Far.c6z rc hSw (fun e=>e);go_simp;try rfl
   (try simp only [pu]);refine takeA 2 (v:=?_) rfl ?_ ?_;rotate_left;· intros;go_simp;try rfl
   (try simp only [pu]);refine takeA 3 (v:=?_) rfl ?_ ?_;rotate_left;· intros;go_simp;try rfl
   (try simp only [pu]);refine takeA 4 (v:=?_) rfl ?_ ?_;rotate_left;· intros;go_simp;try rfl
   (try simp only [pu]);refine takeA 5 (v:=?_) rfl ?_ ?_;rotate_left;· intro w hSw;replace rc:=Far.c6z rc hSw (fun e=>e);go_simp;try rfl
   (try simp only [pu]);refine takeA 6 (v:=?_) rfl ?_ ?_;rotate_left;· intros;go_simp;try rfl
   (try simp only [pu]);refine takeA 7 (v:=?_) rfl ?_ ?_;rotate_left;· intro w hSw;replace xe0:=Far.cellZ xe0 hSw (fun e=>e);replace xe1:=Far.cellZ xe1 hSw (fun e=>e);replace xe2:=Far.cellZ xe2 hSw (fun e=>e);replace xe3:=Far.cellZ xe3 hSw (fun e=>e);replace xe4:=Far.cellZ xe4 hSw (fun e=>e);replace xe5:=Far.cellZ xe5 hSw (fun e=>e);go_simp;try rfl
   (try simp only [pu]);refine takeA 11 (v:=?_) rfl ?_ ?_;rotate_left;· intros;go_simp;try rfl
   (try simp only [pu]);refine takeA 12 (v:=?_) rfl ?_ ?_;rotate_left;· intro w hSw;replace rc:=Far.c6z rc hSw (fun e=>e);go_simp;try rfl
   (try simp only [pu]);refine takeA 13 (v:=?_) rfl ?_ ?_;rotate_left;· intros;go_simp;try rfl
   (try simp only [pu]);refine takeA 14 (v:=?_) rfl ?_ ?_;rotate_left;· intro w hSw;replace ye0:=Far.cellZ ye0 hSw (fun e=>e);replace ye1:=Far.cellZ ye1 hSw (fun e=>e);replace ye2:=Far.cellZ ye2 hSw (fun e=>e);replace ye3:=Far.cellZ ye3 hSw (fun e=>e);replace ye4:=Far.cellZ ye4 hSw (fun e=>e);replace ye5:=Far.cellZ ye5 hSw (fun e=>e);go_simp;try rfl
   (try simp only [pu]);clear xe0 xe1 xe2 xe3 xe4 xe5 ye0 ye1 ye2 ye3 ye4 ye5;refine callA 8 rfl fun K hK=>?_;go_simp;refine (HSx.out _ _ _ _ (MemW.keep (w:=w1) GXxe.out (below_drew _)) HNx.out HZx.out).mono ?_;rintro e wx21 ⟨rfl,hb⟩;clear rc;clear hI hZ;have hbk:=hb;replace hb:=Below.one hb;replace HBr:=kB HBr hb;replace HF:=kF HF hb;have hs21:=hb.size;clear hb;rw [hvx];go_simp;refine hK.out _ _ (Far.trans hS20 (Far.of hbk)) (fun hS21=>?_);clear hK K;refine takeA 9 (v:=?_) rfl ?_ ?_;rotate_left;· intros;go_simp;try rfl
   (try simp only [pu]);refine takeA 10 (v:=?_) rfl ?_ ?_;rotate_left;· intros;go_simp;try rfl
   (try simp only [pu]);refine callA 15 rfl fun K hK=>?_;go_simp;refine (HSy.out _ _ _ _ (MemW.keep (w:=w1) GXye.out (Far.toB (Far.mono hS21 fun _ h=>h.elim) (Nat.le_refl _))) HNy.out HZy.out).mono ?_;rintro e wx22 ⟨rfl,hb⟩;have hbk:=hb;replace HBr:=kB HBr hb;replace HF:=kF HF hb;have hs22:=hb.size;clear hb;rw [hvy];go_simp;refine hK.out _ _ (Far.trans hS21 (Far.of hbk)) (fun hS22=>?_);clear hK K;refine takeA 16 (v:=?_) rfl ?_ ?_;rotate_left;· intros;go_simp;try rfl
   (try simp only [pu]);refine takeA 17 (v:=?_) rfl ?_ ?_;rotate_left;· intros;go_simp;try rfl
   (try simp only [pu]);refine wpAnyH_done (by kernel_rfl) ?_ _
   go_wp2_with (fail)
   go_ret;exact ⟨congrArg (fun s=>Ending.returned (Value.string s)) HQ.out.symm,refBelow HF.out⟩
  replace hp:partsX e.kind≠(e.args.length:Int):=by rw [hk];intro h;exact hp (by have q:partsX 7=2:=rfl;rw [q] at h;omega)
  have HF:Hid (FarB w.heap.size w.heap.size w w):=zz (FarB.refl _ _ _);have HQ:Hid (showX e=⟨#[63]⟩):=zz (by rw [showX_eq];unfold formX;rw [if_neg (fun h=>h4 h),if_pos hp])
  have e1:(e.kind==1)=false:=by simp [hk]
  have e2:(e.kind==2)=false:=by simp [hk]
  have e3:(e.kind==3)=false:=by simp [hk]
  have e9:(e.kind==9)=false:=by simp [hk]
  have e4:(e.kind==4)=false:=by simp [hk]
  have e5:(e.kind==5)=false:=by simp [hk]
  have e6:(e.kind==6)=false:=by simp [hk]
  have e7:(e.kind==7)=true:=by simp [hk]
  have nq:((n:Int)==2)=false:=by
   rw [beq_eq_false_iff_ne];intro h;exact hp (by rw [hk,hln,h];rfl)
  clear hp hln h4 hk;go_enter Tryz.func84,Tryz.ntmps84
  go_wp2_with (fail)
  go_ret;exact ⟨congrArg (fun s=>Ending.returned (Value.string s)) HQ.out.symm,below_new _ _⟩
 by_cases k6:e.kind=6
 ·
  have hk:=k6;clear k6
  by_cases hp:e.args.length=3
  ·
   clear h4;have HF:Hid (FarB w.heap.size w.heap.size w w):=zz (FarB.refl _ _ _);have hl3:e.args.length=3:=hp
   obtain ⟨x,y,z,ha⟩:∃ x y z,e.args=[x,y,z]:=by
    match h:e.args,hl3 with
    | [u0,u1,u2],_=>exact ⟨u0,u1,u2,rfl⟩
   have HQ:Hid (showX e=ifX (showX x) (showX y) (showX z)):=zz (by rw [showX_eq];unfold formX;rw [if_neg (by rw [hk];simp),if_neg (by rw [hk,hp];decide),if_neg (by omega),if_neg (by omega),if_neg (by omega),if_pos hk,ha];rfl);have HA:=zz ha;have HSx:=zz (HSS.out x (by rw [ha];simp));have HNx:=zz (HN.out.parts.2 x (by rw [ha];simp));have HSy:=zz (HSS.out y (by rw [ha];simp));have HNy:=zz (HN.out.parts.2 y (by rw [ha];simp));have HSz:=zz (HSS.out z (by rw [ha];simp));have HNz:=zz (HN.out.parts.2 z (by rw [ha];simp));have hz2:=HZ.out;rw [HQ.out] at hz2;obtain ⟨vx,hvx⟩:∃ v,showX x=v:=⟨_,rfl⟩;obtain ⟨vy,hvy⟩:∃ v,showX y=v:=⟨_,rfl⟩;obtain ⟨vz,hvz⟩:∃ v,showX z=v:=⟨_,rfl⟩;rw [hvx,hvy,hvz] at hz2;replace HQ:Hid (showX e=ifX vx vy vz):=zz (by rw [HQ.out,hvx,hvy,hvz])
   have hz3:3+vx.size+6+vy.size+6+vz.size≤100000000:=by
    unfold ifX at hz2;rw [app_sz,app_sz,app_sz,app_sz,app_sz] at hz2;have q0:(⟨#[105,102,32]⟩:ByteArray).size=3:=rfl;have q1:(⟨#[32,116,104,101,110,32]⟩:ByteArray).size=6:=rfl;have q2:(⟨#[32,101,108,115,101,32]⟩:ByteArray).size=6:=rfl
    omega
   have HZx:Hid ((showX x).size≤100000000):=zz (by rw [hvx];omega);have HZy:Hid ((showX y).size≤100000000):=zz (by rw [hvy];omega);have HZz:Hid ((showX z).size≤100000000):=zz (by rw [hvz];omega)
   obtain rfl:n=3:=by omega
   have e1:(e.kind==1)=false:=by simp [hk]
   have e2:(e.kind==2)=false:=by simp [hk]
   have e3:(e.kind==3)=false:=by simp [hk]
   have e9:(e.kind==9)=false:=by simp [hk]
   have e4:(e.kind==4)=false:=by simp [hk]
   have e5:(e.kind==5)=false:=by simp [hk]
   have e6:(e.kind==6)=true:=by simp [hk]
   clear ha hz2 hp hln hk hl3;go_enter Tryz.func84,Tryz.ntmps84;go_upto_region 33 with (fail);generalize ee:World.alloc w _=w1;have hsa1:=sizeA ee;replace HF:=fA HF ee;have HBr:=nB ee (w.heap.size);clear ee;have rc:=kc6 HBr;have hI:=i0_0 w w1;have hZ:=i01 w;obtain ⟨bxe,oxe,axe,nxe,cxe,hexe,hixe,hcxe,hdxe,xe0,xe1,xe2,xe3,xe4,xe5,GXxe⟩:=one_at (HM.out.keep (refBelow HF.out)) (i:=0) (x:=x) (by rw [HA.out];rfl) (k:=0) rfl;subst hexe;simp only [Nat.add_zero] at xe0 xe1 xe2 xe3 xe4 xe5;obtain ⟨bye,oye,aye,nye,cye,heye,hiye,hcye,hdye,ye0,ye1,ye2,ye3,ye4,ye5,GXye⟩:=one_at (HM.out.keep (refBelow HF.out)) (i:=1) (x:=y) (by rw [HA.out];rfl) (k:=6) rfl;cases heye;obtain ⟨bze,oze,aze,nze,cze,heze,hize,hcze,hdze,ze0,ze1,ze2,ze3,ze4,ze5,GXze⟩:=one_at (HM.out.keep (refBelow HF.out)) (i:=2) (x:=z) (by rw [HA.out];rfl) (k:=12) rfl;cases heze;clear rc;clear hI hZ;have rc:=kc6 HBr;have hI:=i0_0 w w1;have hZ:=i01 w
   have iz1: ¬(9223372036854775807<3+vx.size):=by omega
   have iz2: ¬(9223372036854775807<3+vx.size+6):=by omega
   have iz3: ¬(9223372036854775807<3+vx.size+6+vy.size):=by omega
   have iz4: ¬(9223372036854775807<3+vx.size+6+vy.size+6):=by omega
   have iz5: ¬(9223372036854775807<3+vx.size+6+vy.size+6+vz.size):=by omega
   refine wp_region_held_drew (S:=fun w'=>Far (fun _=>False) (w1) w') (by kernel_rfl) (Far.of (below_drew _)) (fun hS20=>?_);refine takeA 0 (v:=?_) rfl ?_ ?_;rotate_left;· intros;go_simp;try rfl
   (try simp only [pu]);refine takeA 1 (v:=?_) rfl ?_ ?_;rotate_left;· intro w hSw;replace rc:=Far.c6z rc hSw (fun e=>e);go_simp;try rfl
   (try simp only [pu]);refine takeA 2 (v:=?_) rfl ?_ ?_;rotate_left;· intros;go_simp;try rfl
   (try simp only [pu]);refine takeA 3 (v:=?_) rfl ?_ ?_;rotate_left;· intro w hSw;replace xe0:=Far.cellZ xe0 hSw (fun e=>e);replace xe1:=Far.cellZ xe1 hSw (fun e=>e);replace xe2:=Far.cellZ xe2 hSw (fun e=>e);replace xe3:=Far.cellZ xe3 hSw (fun e=>e);replace xe4:=Far.cellZ xe4 hSw (fun e=>e);replace xe5:=Far.cellZ xe5 hSw (fun e=>e);go_simp;try rfl
   (try simp only [pu]);refine takeA 7 (v:=?_) rfl ?_ ?_;rotate_left;· intros;go_simp;try rfl
   (try simp only [pu]);refine takeA 8 (v:=?_) rfl ?_ ?_;rotate_left;· intro w hSw;replace rc:=Far.c6z rc hSw (fun e=>e);go_simp;try rfl
   (try simp only [pu]);refine takeA 9 (v:=?_) rfl ?_ ?_;rotate_left;· intros;go_simp;try rfl
   (try simp only [pu]);refine takeA 10 (v:=?_) rfl ?_ ?_;rotate_left;· intro w hSw;replace ye0:=Far.cellZ ye0 hSw (fun e=>e);replace ye1:=Far.cellZ ye1 hSw (fun e=>e);replace ye2:=Far.cellZ ye2 hSw (fun e=>e);replace ye3:=Far.cellZ ye3 hSw (fun e=>e);replace ye4:=Far.cellZ ye4 hSw (fun e=>e);replace ye5:=Far.cellZ ye5 hSw (fun e=>e);go_simp;try rfl
   (try simp only [pu]);refine takeA 14 (v:=?_) rfl ?_ ?_;rotate_left;· intros;go_simp;try rfl
   (try simp only [pu]);refine takeA 15 (v:=?_) rfl ?_ ?_;rotate_left;· intro w hSw;replace rc:=Far.c6z rc hSw (fun e=>e);go_simp;try rfl
   (try simp only [pu]);refine takeA 16 (v:=?_) rfl ?_ ?_;rotate_left;· intros;go_simp;try rfl
   (try simp only [pu]);refine takeA 17 (v:=?_) rfl ?_ ?_;rotate_left;· intro w hSw;replace ze0:=Far.cellZ ze0 hSw (fun e=>e);replace ze1:=Far.cellZ ze1 hSw (fun e=>e);replace ze2:=Far.cellZ ze2 hSw (fun e=>e);replace ze3:=Far.cellZ ze3 hSw (fun e=>e);replace ze4:=Far.cellZ ze4 hSw (fun e=>e);replace ze5:=Far.cellZ ze5 hSw (fun e=>e);go_simp;try rfl
   (try simp only [pu]);clear xe0 xe1 xe2 xe3 xe4 xe5 ye0 ye1 ye2 ye3 ye4 ye5 ze0 ze1 ze2 ze3 ze4 ze5;refine callA 4 rfl fun K hK=>?_;go_simp;refine (HSx.out _ _ _ _ (MemW.keep (w:=w1) GXxe.out (below_drew _)) HNx.out HZx.out).mono ?_;rintro e wx21 ⟨rfl,hb⟩;clear rc;clear hI hZ;have hbk:=hb;replace hb:=Below.one hb;replace HBr:=kB HBr hb;replace HF:=kF HF hb;have hs21:=hb.size;clear hb;rw [hvx];go_simp;refine hK.out _ _ (Far.trans hS20 (Far.of hbk)) (fun hS21=>?_);clear hK K;refine takeA 5 (v:=?_) rfl ?_ ?_;rotate_left;· intros;go_simp;try rfl
   (try simp only [pu]);refine takeA 6 (v:=?_) rfl ?_ ?_;rotate_left;· intros;go_simp;try rfl
   (try simp only [pu]);refine callA 11 rfl fun K hK=>?_;go_simp;refine (HSy.out _ _ _ _ (MemW.keep (w:=w1) GXye.out (Far.toB (Far.mono hS21 fun _ h=>h.elim) (Nat.le_refl _))) HNy.out HZy.out).mono ?_;rintro e wx22 ⟨rfl,hb⟩;have hbk:=hb;replace HBr:=kB HBr hb;replace HF:=kF HF hb;have hs22:=hb.size;clear hb;rw [hvy];go_simp;refine hK.out _ _ (Far.trans hS21 (Far.of hbk)) (fun hS22=>?_);clear hK K;refine takeA 12 (v:=?_) rfl ?_ ?_;rotate_left;· intros;go_simp;try rfl
   (try simp only [pu]);refine takeA 13 (v:=?_) rfl ?_ ?_;rotate_left;· intros;go_simp;try rfl
   (try simp only [pu]);refine callA 18 rfl fun K hK=>?_;go_simp;refine (HSz.out _ _ _ _ (MemW.keep (w:=w1) GXze.out (Far.toB (Far.mono hS22 fun _ h=>h.elim) (Nat.le_refl _))) HNz.out HZz.out).mono ?_;rintro e wx23 ⟨rfl,hb⟩;have hbk:=hb;replace HBr:=kB HBr hb;replace HF:=kF HF hb;have hs23:=hb.size;clear hb;rw [hvz];go_simp;refine hK.out _ _ (Far.trans hS22 (Far.of hbk)) (fun hS23=>?_);clear hK K;refine takeA 19 (v:=?_) rfl ?_ ?_;rotate_left;· intros;go_simp;try rfl
   (try simp only [pu]);refine takeA 20 (v:=?_) rfl ?_ ?_;rotate_left;· intros;go_simp;try rfl
   (try simp only [pu]);refine wpAnyH_done (by kernel_rfl) ?_ _
   go_wp2_with (fail)
   go_ret;exact ⟨congrArg (fun s=>Ending.returned (Value.string s)) HQ.out.symm,refBelow HF.out⟩
  replace hp:partsX e.kind≠(e.args.length:Int):=by rw [hk];intro h;exact hp (by have q:partsX 6=3:=rfl;rw [q] at h;omega)
  have HF:Hid (FarB w.heap.size w.heap.size w w):=zz (FarB.refl _ _ _);have HQ:Hid (showX e=⟨#[63]⟩):=zz (by rw [showX_eq];unfold formX;rw [if_neg (fun h=>h4 h),if_pos hp])
  have e1:(e.kind==1)=false:=by simp [hk]
  have e2:(e.kind==2)=false:=by simp [hk]
  have e3:(e.kind==3)=false:=by simp [hk]
  have e9:(e.kind==9)=false:=by simp [hk]
  have e4:(e.kind==4)=false:=by simp [hk]
  have e5:(e.kind==5)=false:=by simp [hk]
  have e6:(e.kind==6)=true:=by simp [hk]
  have nq:((n:Int)==3)=false:=by
   rw [beq_eq_false_iff_ne];intro h;exact hp (by rw [hk,hln,h];rfl)
  clear hp hln h4 hk;go_enter Tryz.func84,Tryz.ntmps84
  go_wp2_with (fail)
  go_ret;exact ⟨congrArg (fun s=>Ending.returned (Value.string s)) HQ.out.symm,below_new _ _⟩
 by_cases k5:e.kind=5
 ·
  have hk:=k5;clear k5
  by_cases hp:e.args.length=2
  · exact ref_op HSS.out hk hp a n c w HM.out HN.out HZ.out
  replace hp:partsX e.kind≠(e.args.length:Int):=by rw [hk];intro h;exact hp (by have q:partsX 5=2:=rfl;rw [q] at h;omega)
  have HF:Hid (FarB w.heap.size w.heap.size w w):=zz (FarB.refl _ _ _);have HQ:Hid (showX e=⟨#[63]⟩):=zz (by rw [showX_eq];unfold formX;rw [if_neg (fun h=>h4 h),if_pos hp])
  have e1:(e.kind==1)=false:=by simp [hk]
  have e2:(e.kind==2)=false:=by simp [hk]
  have e3:(e.kind==3)=false:=by simp [hk]
  have e9:(e.kind==9)=false:=by simp [hk]
  have e4:(e.kind==4)=false:=by simp [hk]
  have e5:(e.kind==5)=true:=by simp [hk]
  have nq:((n:Int)==2)=false:=by
   rw [beq_eq_false_iff_ne];intro h;exact hp (by rw [hk,hln,h];rfl)
  clear hp hln h4 hk;go_enter Tryz.func84,Tryz.ntmps84
  go_wp2_with (fail)
  go_ret;exact ⟨congrArg (fun s=>Ending.returned (Value.string s)) HQ.out.symm,below_new _ _⟩
 have hp:partsX e.kind≠(e.args.length:Int):=by
  unfold partsX
  repeat' split
  all_goals omega
 by_cases k4:e.kind=4
 ·
  have hk:=k4;clear k4 k1 k2 k3 k5 k6 k7 k8 k9;have HF:Hid (FarB w.heap.size w.heap.size w w):=zz (FarB.refl _ _ _);have HQ:Hid (showX e=⟨#[63]⟩):=zz (by rw [showX_eq];unfold formX;rw [if_neg (fun h=>h4 h),if_pos hp])
  have e1:(e.kind==1)=false:=by simp [hk]
  have e2:(e.kind==2)=false:=by simp [hk]
  have e3:(e.kind==3)=false:=by simp [hk]
  have e9:(e.kind==9)=false:=by simp [hk]
  have e4:(e.kind==4)=true:=by simp [hk]
  obtain rfl:n=0:=by by_cases h:e.args=[];(· rw [h] at hln;exact hln.symm);(· exact absurd ⟨hk,h⟩ h4)
  clear hp hln h4 hk;go_enter Tryz.func84,Tryz.ntmps84
  go_wp2_with (fail)
  generalize ee:World.alloc w _=w1;have hsa1:=sizeA ee;replace HF:=fA HF ee;have HBr:=nB ee (w.heap.size);clear ee;have rc:=kc6 HBr;have hI:=i0_0 w w1;have hZ:=i01 w
  go_loopw [4,38] (fun v i wr=>i=.int .i64 ((0:Nat):Int)∧Hid (FarB w.heap.size w.heap.size w wr)) (fun _ i _=>0)
  case atStart=>exact ⟨rfl,HF⟩
  case round=>
   clear HF HBr;obtain ⟨rfl,HF⟩:=hrel
   go_wp2_with (fail)
   go_ret;exact ⟨congrArg (fun s=>Ending.returned (Value.string s)) HQ.out.symm,refBelow HF.out⟩
 have HF:Hid (FarB w.heap.size w.heap.size w w):=zz (FarB.refl _ _ _);have HQ:Hid (showX e=⟨#[63]⟩):=zz (by rw [showX_eq];unfold formX;rw [if_neg (fun h=>h4 h),if_pos hp])
 have e1:(e.kind==1)=false:=by simp [k1]
 have e2:(e.kind==2)=false:=by simp [k2]
 have e3:(e.kind==3)=false:=by simp [k3]
 have e9:(e.kind==9)=false:=by simp [k9]
 have e4:(e.kind==4)=false:=by simp [k4]
 have e5:(e.kind==5)=false:=by simp [k5]
 have e6:(e.kind==6)=false:=by simp [k6]
 have e7:(e.kind==7)=false:=by simp [k7]
 have e8:(e.kind==8)=false:=by simp [k8]
 clear hp hln h4 k1 k2 k3 k9 k4 k5 k6 k7 k8;go_enter Tryz.func84,Tryz.ntmps84
 go_wp2_with (fail)
 go_ret;exact ⟨congrArg (fun s=>Ending.returned (Value.string s)) HQ.out.symm,below_new _ _⟩
theorem refX_sz:∀ (m:Nat) (x:Ex),SizeOf.sizeOf x≤m→RefsAt x
  | 0,x,h=>by cases x;simp at h
  | m + 1, x, h => ref_of fun z hz => refX_sz m z (by
    cases x with
    | mk k s n xs l c =>
      have h3:=List.sizeOf_lt_of_mem (show z∈xs from hz)
      simp at h
      omega)
theorem refX_any (x:Ex):RefsAt x:=refX_sz _ x (Nat.le_refl _)
end
end Go.Proofs.YtcoiagfeoonpbaaGreat
