/-
  module.Parse: the module of a text. No condition but sizes.
-/
import Derived.Test.YtcoiagfeoonpbaaGreatSm33
import Derived.Test.YtcoiagfeoonpbaaGreatSm22
import Derived.Test.YtcoiagfeoonpbaaGreatSm23
import Derived.Test.YtcoiagfeoonpbaaGreatSm11
set_option maxHeartbeats 20000000
set_option maxRecDepth 100000
namespace Go.Proofs.YtcoiagfeoonpbaaGreat
section
open Go.RowKit
theorem info_datM:(Tryz.prog.info? 40).map (fun i=>(i.zero,i.size,i.bytes))=some (some (.agg #[.string ⟨#[]⟩,.slice none 0 0,.slice none 0 0,.int .i64 0,.int .i64 0]),5,80):=by kernel_rfl
theorem info_rulM:(Tryz.prog.info? 62).map (fun i=>(i.zero,i.size,i.bytes))=some (some (.agg #[.string ⟨#[]⟩,.slice none 0 0,.slice none 0 0,.int .i64 0,.string ⟨#[]⟩,.int .i64 0,.slice none 0 0,.int .i64 0,.int .i64 0,.int .i64 0,.int .i64 0]),11,152):=by kernel_rfl
theorem rd_toks {B:Nat} {w:World} {a:Option Addr} {n cap:Nat} {ts:List Tok} (h:Rd B w a n cap 5 (tokVs ts)):Mem (· <B) w (.s 5 (tkRows (ts.map tkOf))) (.slice a n cap):=by
  obtain ⟨h1,h2,h3,h4⟩:=h;rw [tokVs_len] at h1
  have hn:ts.length=n:=by omega
  rcases h4 with h4 | ⟨b,o,rfl,hb,hc⟩
  · subst h4
    have :ts=[]:=List.eq_nil_of_length_eq_zero hn;subst this;exact .e a cap 5 h3
  · refine .s b o n cap 5 _ (fun i j=>((tokVs ts)[i * 5+j]?).getD undef) (by rw [tkRows_len,List.length_map];exact hn) h2 h3 hb (fun i hi=>by simp [tkRows,tkRow]) (fun i j hi hj=>?_) (fun i j hi hj=>?_)
    · have hlt:i * 5+j<(tokVs ts).length:=by rw [tokVs_len];omega
      rw [Nat.add_assoc,hc _ hlt,List.getElem?_eq_getElem hlt];rfl
    · have hi':i<ts.length:=by rw [tkRows_len,List.length_map] at hi;exact hi
      have e:(tkRows (ts.map tkOf))[i]=tkRow (tkOf ts[i]):=by simp [tkRows]
      have hj5:j<5:=by rw [e] at hj;exact hj
      have e1:∀ (l:List Tok) (i:Nat) (hi:i<l.length),(tokVs l)[i * 5+j]?=some ((tokR l[i])[j]'(by rw [tokR_len];exact hj5)):=by
        intro l
        induction l with
        | nil=>intro i hi;simp at hi
        | cons t l ih =>
          intro i hi
          have ec:tokVs (t::l)=tokR t++tokVs l:=by simp [tokVs]
          rw [ec]
          cases i with
          | zero =>
            rw [Nat.zero_mul,Nat.zero_add,List.getElem?_append_left (by rw [tokR_len];exact hj5),List.getElem?_eq_getElem (by rw [tokR_len];exact hj5)]
            rfl
          | succ i =>
            rw [List.getElem?_append_right (by rw [tokR_len];omega),tokR_len,show (i+1) * 5+j - 5=i * 5+j by omega,ih i (by simpa using hi)]
            simp
      have e2:((tkRows (ts.map tkOf))[i])[j]=(tkRow (tkOf ts[i]))[j]'(by exact hj5):=by simp only [e];rfl
      rw [e2,e1 ts i hi']
      match j,hj5 with
      | 0,_=>exact .v _ rfl
      | 1,_=>exact .v _ rfl
      | 2,_=>exact .v _ rfl
      | 3,_=>exact .v _ rfl
      | 4,_=>exact .v _ rfl
def MdAns (r:Md1) (W:World) (e:Ending) (w':World):Prop:=
  match r with
  | .ok ds rs=>∃ a m c a' m' c',e=.returned (.tuple #[.agg #[.slice a m c,.slice a' m' c'],.agg #[.int .i64 0,.int .i64 0,.int .i64 0]])∧Below W.heap.size W w'∧Mem (Nw 0 W.heap.size w'.heap.size) w' (.s 5 (ds.map Da.row)) (.slice a m c)∧Mem (Nw 0 W.heap.size w'.heap.size) w' (.s 11 (rs.map Ru.row)) (.slice a' m' c')
  | .bad k l c=>e=.returned (.tuple #[.agg #[.slice none 0 0,.slice none 0 0],.agg #[.int .i64 k,.int .i64 l,.int .i64 c]])∧Below W.heap.size W w'
theorem belQ {q B:Nat} {w w':World} (hf:FarB q B w w') (hB:w.heap.size≤B) (hq:w.heap.size≤q):Below w.heap.size w w':=Far.toB (Far.mono hf fun b e=>by rcases e with e | e <;> omega) (Nat.le_refl _)
attribute [local go_sem] tk_pos tk_kindM
theorem mparse_any (s:ByteArray) (w:World) (hs:s.size≤1000000):Calls Tryz.prog 6 #[.string s] w (MdAns (modE s) w):=by
 obtain ⟨rp,hrp⟩:∃ rp,modE s=rp:=⟨_,rfl⟩;rw [hrp];have HRP:=zz hrp;clear hrp;have H:=zz True.intro;have HF:Hid (FarB w.heap.size w.heap.size w w):=zz (FarB.refl _ _ _);go_enter Tryz.func6,Tryz.ntmps6;go_upto_region 1 with (fail);generalize ee:World.alloc w _=w1_1;have hq1:=sizeA ee;replace HF:=fA HF ee;have HBr:=nB ee (w.heap.size);clear ee;generalize ee:World.alloc w1_1 _=w1;have hq2:=sizeA ee;replace HF:=fA HF ee;replace HBr:=bA HBr ee;have HBz:=nB ee (w.heap.size+1);clear ee
 have hsa1:w1.heap.size=w.heap.size+2:=by omega
 clear hq1 hq2;have rc:=kc2 HBr;have zc:=kc3 HBz;have hI:=i01_0 w w1;have hZ:=i012 w
 go_wp2_with (fail)
 clear rc zc;refine (scan_own s _ hs).mono ?_;rintro _ w2 ⟨a0,n0,cap0,rfl,hb,hR,hO⟩;replace HBr:=kB HBr hb;replace HBz:=kB HBz hb;replace HF:=kF HF hb;have hs2:=hb.size;clear hb;have HR:=zz hR;clear hO hR;obtain ⟨ke,le,ce,toks,hlx⟩:∃ ke le ce toks,lexes s=(ke,le,ce,toks):=⟨_,_,_,_,rfl⟩;have hll:=lexes_len s;rw [hlx] at HR hll;rw [hlx];simp only at HR hll ⊢;have HLX:=zz hlx;clear hlx;obtain ⟨T0,hT0⟩:∃ k,k=w2.heap.size:=⟨_,rfl⟩
 have hn0:toks.length=n0:=by have h1:=(rd_toks HR.out).len.1;rw [tkRows_len,List.length_map] at h1;exact h1
 have HYt:Hid (Mem (NwS (Bt 0 T0) w2.heap.size) w2 (.s 5 (tkRows (toks.map tkOf))) (.slice a0 n0 cap0)):=zz ((rd_toks HR.out).mono (fun b hb=>⟨⟨Nat.zero_le _,by omega⟩,hb⟩) fun _ _=>rfl);clear HR;clear hI hZ;have rc:=kc2 HBr;have zc:=kc3 HBz;have hI:=i01_0 w w2;go_upto_region 2 with (fail);clear rc zc;generalize ee:World.alloc w2 _=w3;have hsa3:=sizeA ee;replace HF:=fA HF ee;replace HBr:=bA HBr ee;replace HBz:=bA HBz ee;replace HYt:=yA HYt ee;have HBf:=nB ee (w2.heap.size);clear ee;clear hI;have rc:=kc2 HBr;have zc:=kc3 HBz;have fc:=kc3 HBf;have hI:=i01_0_0 w w2 w3;have hZ:=i01_01 w w2
 by_cases hke:ke=0
 rotate_left
 ·
  have e0:(ke != 0)=true:=by simp [hke]
  have hrb:rp=.bad ke le ce:=by rw [←HRP.out,modE,HLX.out,if_neg hke]
  clear hke HYt;subst hrb
  go_wp2_with (fail)
  refine wp_region_held_drew (S:=fun w'=>Far (fun b=>b=w.heap.size∨b=(w.heap.size+1)) (w3) w') (by kernel_rfl) (Far.of (below_drew _)) (fun hS40=>?_);refine takeA 0 (v:=?_) rfl ?_ ?_;rotate_left;· intro w hSw;replace fc:=Far.c3z fc hSw;go_simp;try rfl
  (try simp only [pu]);refine takeA 1 (v:=?_) rfl ?_ ?_;rotate_left;· intro w hSw;replace fc:=Far.c3z fc hSw;go_simp;try rfl
  (try simp only [pu]);refine callA 2 rfl fun K hK=>?_;go_simp;refine hK.out _ _ ?_ (fun hS41=>?_);· exact (by refine Far.trans ?_ (Far.of (below_drew _));(iterate 2 (refine Far.setCell (p:=⟨w.heap.size,_,none⟩) ?_ (.inl rfl) _));exact Far.refl _ _)
  clear hK K;clear rc zc fc;generalize ee:((w3.setCell ⟨w.heap.size,0,none⟩ (.slice none 0 0)).setCell ⟨w.heap.size,1,none⟩ (.slice none 0 0))=w4_1 at *;have hq1:=sizeS2 ee;replace HF:=fN2 HF ee;replace HBr:=bS2 HBr ee;replace HBz:=bF2 HBz ee;replace HBf:=bF2 HBf ee;clear ee;generalize ee:(w4_1.drew)=w4 at *;have hq2:=sizeD ee;replace HF:=fD HF ee;replace HBr:=bD HBr ee;replace HBz:=bD HBz ee;replace HBf:=bD HBf ee;clear ee
  have hsa4:w4.heap.size=w2.heap.size+1:=by omega
  clear hq1 hq2;clear hI hZ;have rc:=kc2 HBr;have zc:=kc3 HBz;have fc:=kc3 HBf;have hI:=i01_0_0 w w2 w4;have hZ:=i01_01 w w2;refine callA 3 rfl fun K hK=>?_;go_simp;refine hK.out _ _ ?_ (fun hS42=>?_);· exact (by (iterate 3 (refine Far.setCell (p:=⟨(w.heap.size+1),_,none⟩) ?_ (.inr rfl) _));exact hS41)
  clear hK K;refine wpAnyH_done (by kernel_rfl) ?_ _;clear rc zc fc;generalize ee:World.setCell _ ⟨(w.heap.size+1),2,none⟩ _=w5;have hsz5:=sizeS3 ee;replace HF:=fN3 HF ee;replace HBr:=bF3 HBr ee;replace HBz:=bS3 HBz ee;replace HBf:=bF3 HBf ee;clear ee;clear hI hZ
  go_wp2_with (fail)
  have fr:=kc2 HBr;have fz:=kc3 HBz;refine bodyPost_ret (v:=.tuple #[.agg #[.slice none 0 0,.slice none 0 0],.agg #[.int .i64 ke,.int .i64 le,.int .i64 ce]]) (by clear HF H HRP HBr HBz HBf;simp [results,Tryz.results6,go_sem,fr,fz]) rfl ?_;exact ⟨rfl,belQ HF.out (Nat.le_refl _) (Nat.le_refl _)⟩
 have hl0:(lexes s).1=0:=by rw [HLX.out];exact hke
 have hsz4:toks.length≤1048576:=by
  by_cases h4:4096<s.size
  · have h5:=HLX.out;rw [lexes_long s h4] at h5;cases h5;cases hke
  · omega
 subst hke;obtain ⟨tsA,hts⟩:∃ ts,toks.map tkOf=ts:=⟨_,rfl⟩
 have htsA:toksA s=tsA:=by unfold toksA;rw [HLX.out];exact hts
 obtain ⟨⟨dz,rz,sz⟩,hV⟩:=itemsA_some tsA
 have hrp2:rp=endM (dz,rz,sz):=by rw [←HRP.out,modE,if_pos hl0,htsA,hV]
 clear HRP HLX htsA hl0
 go_wp2_with (fail)
 clear rc zc fc;generalize ee:World.alloc w3 _=w4_1;have hq1:=sizeA ee;replace HF:=fA HF ee;replace HBr:=bA HBr ee;replace HBz:=bA HBz ee;replace HBf:=bA HBf ee;replace HYt:=yA HYt ee;have HBq:=nB ee (w2.heap.size+1);clear ee;generalize ee:World.alloc w4_1 _=w4;have hq2:=sizeA ee;replace HF:=fA HF ee;replace HBr:=bA HBr ee;replace HBz:=bA HBz ee;replace HBf:=bA HBf ee;replace HBq:=bA HBq ee;replace HYt:=yA HYt ee;have HBm:=nB ee (w2.heap.size+2);clear ee
 have hsa4:w4.heap.size=w2.heap.size+3:=by omega
 clear hq1 hq2;clear hI hZ;obtain ⟨q,hq⟩:∃ q,q=w2.heap.size+1:=⟨_,rfl⟩;rw [←hq] at HBq ⊢
 have HP:Hid (RS tsA a0 n0 cap0 q ⟨0,none⟩ ((0:Nat):Int) w4):=by
  refine zz ⟨HBq.out,?_,by omega⟩;rw [←hts]
  exact HYt.out.mono (fun b hb=>by have :=hb.1.2;omega) fun _ _=>rfl
 have hlen:=HP.out.len;have hsm:=HP.out.sm;clear HBq HYt HBf hts
 replace HF:Hid (FarB q w.heap.size w w4):=zz (Far.mono HF.out fun b e=>.inr (by rcases e with e | e <;> omega))
 have hcz:w4.heap.size=w2.heap.size+3:=by omega
 have hb0:w.heap.size+1<q∧q<(w2.heap.size+2)∧(w2.heap.size+2)<w4.heap.size:=by omega
 obtain ⟨mb,hmb⟩:∃ b,b=q+1:=⟨_,rfl⟩
 have hmb2:w2.heap.size+2=mb:=by omega
 rw [hmb2] at HBm hb0;rw [←hmb]
 have hmb3:mb≤q+1∧q+1≤mb:=by omega
 have hq3:q≤w2.heap.size+1∧w2.heap.size+1≤q:=by omega
 clear hmb hmb2 hq;generalize hB0:w4.heap.size=B0 at *
 go_loopw [] (fun wr=>∃ (ds:List Da) (rs:List Ru) (st:MS) (gg:Nat) (ad:Option Addr) (md cd:Nat) (ar:Option Addr) (mr cr:Nat),itemsM tsA (fuF tsA) (fuG tsA) gg ds rs st=some (dz,rz,sz)∧Hid (RS tsA a0 n0 cap0 q st ((0:Nat):Int) wr)∧Hid (FarB q w.heap.size w wr)∧Hid (Bo wr w.heap.size 26 #[.slice none 0 0,.slice none 0 0])∧Hid (Bo wr ((w.heap.size+1)) 31 #[.int .i64 0,.int .i64 0,.int .i64 0])∧Hid (Bo wr mb 26 #[.slice ad md cd,.slice ar mr cr])∧Hid (OwnX (Value.slice ar mr cr).ownBlock B0 40 5 wr (.slice ad md cd) (ds.map Da.row))∧Hid (OwnX (Value.slice ad md cd).ownBlock B0 62 11 wr (.slice ar mr cr) (rs.map Ru.row))∧(st.ok=true→ds.length+rs.length+leftM tsA st≤tsA.length)∧ds.length+rs.length≤tsA.length+1∧B0≤wr.heap.size) (fun wr=>posM tsA.length q wr)
 case atStart=>exact ⟨[],[],_,_,none,0,0,none,0,0,hV,HP,HF,HBr,HBz,HBm,zz (OwnX.nil _ _ _ _ _),zz (OwnX.nil _ _ _ _ _),(fun _=>by have :=leftM_le (ts:=tsA) ⟨0,none⟩;simp only [List.length_nil];omega),by simp,by omega⟩
 case round=>
  clear HP HF HBr HBz HBm hV;obtain ⟨ds,rs,st,gg,ad,md,cd,ar,mr,cr,hr1,HP,HF,HBr,HBz,HBm,HOd,HOr,hl1,hl3,hws⟩:=hrel;have HP1:=HP;have qc:=kcR HP;have rc:=kc2 HBr;have zc:=kc3 HBz;have mc:=kc2 HBm;have hI:=i01_q_q_0 w q mb wr
  go_wp2_with (fail)
  refine (mok_any _ HP.out).mono ?_;rintro _ _ ⟨rfl,rfl⟩
  cases gg with
  | zero=>rw [itemsM] at hr1;cases hr1
  | succ gg=>
   rw [itemsM] at hr1
   cases hok:st.ok with
   | false=>
    rw [if_neg (by rw [hok];simp)] at hr1
    go_wp2_with (fail)
    cases hr1;obtain ⟨T0,hT0⟩:∃ k,k=wr.heap.size:=⟨_,rfl⟩;have HYd:Hid (Mem (NwS (Bt B0 T0) wr.heap.size) wr (.s 5 (dz.map Da.row)) (.slice ad md cd)):=zz (by rw [hT0];exact memS_bt HOd.out.mem (by omega));have HYr:Hid (Mem (NwS (Bt B0 T0) wr.heap.size) wr (.s 11 (rz.map Ru.row)) (.slice ar mr cr)):=zz (by rw [hT0];exact memS_bt HOr.out.mem (by omega));clear HOd HOr HP1;clear qc rc zc mc;clear hI;have qc:=kcR HP;have rc:=kc2 HBr;have zc:=kc3 HBz;have mc:=kc2 HBm;have hI:=i01_q_q_0 w q mb wr
    go_wp2_with (fail)
    refine (mok_any _ HP.out).mono ?_;rintro _ _ ⟨rfl,rfl⟩
    cases hso:sz.ok with
    | false=>
     have hrp3:rp=.bad (eB sz.b) (lB sz.b) (cB sz.b):=by
      rw [hrp2];unfold endM
      show (match sz.b with | none=>_ | some p=>_)=_
      cases hb:sz.b with
      | none=>unfold MS.ok at hso;rw [hb] at hso;cases hso
      | some p=>rfl
     clear hrp2;subst hrp3
     go_wp2_with (fail)
     refine wp_region_held_drew (S:=fun w'=>Far (fun b=>b=w.heap.size∨b=(w.heap.size+1)) (wr) w') (by kernel_rfl) (Far.of (below_drew _)) (fun hS40=>?_);refine takeA 0 (v:=?_) rfl ?_ ?_;rotate_left;· intro w hSw;replace qc:=Far.c6z qc hSw;go_simp;try rfl
     (try simp only [pu]);refine takeA 1 (v:=?_) rfl ?_ ?_;rotate_left;· intro w hSw;replace qc:=Far.c6z qc hSw;go_simp;try rfl
     (try simp only [pu]);refine takeA 2 (v:=?_) rfl ?_ ?_;rotate_left;· intro w hSw;replace qc:=Far.c6z qc hSw;go_simp;try rfl
     (try simp only [pu]);refine takeA 3 (v:=?_) rfl ?_ ?_;rotate_left;· intro w hSw;replace qc:=Far.c6z qc hSw;go_simp;try rfl
     (try simp only [pu]);refine takeA 4 (v:=?_) rfl ?_ ?_;rotate_left;· intro w hSw;replace qc:=Far.c6z qc hSw;go_simp;try rfl
     (try simp only [pu]);clear HP;refine callA 5 rfl fun K hK=>?_;go_simp;refine hK.out _ _ ?_ (fun hS41=>?_);· exact (by refine Far.trans ?_ (Far.of (below_drew _));(iterate 2 (refine Far.setCell (p:=⟨w.heap.size,_,none⟩) ?_ (.inl rfl) _));exact Far.refl _ _)
     clear hK K;clear qc rc zc mc;generalize ee:((wr.setCell ⟨w.heap.size,0,none⟩ (.slice none 0 0)).setCell ⟨w.heap.size,1,none⟩ (.slice none 0 0))=w5_1 at *;have hq1:=sizeS2 ee;replace HF:=fN2 HF ee;replace HBr:=bS2 HBr ee;replace HBz:=bF2 HBz ee;replace HBm:=bF2 HBm ee;replace HYd:=yS2 HYd ee;replace HYr:=yS2 HYr ee;clear ee;generalize ee:(w5_1.drew)=w5 at *;have hq2:=sizeD ee;replace HF:=fD HF ee;replace HBr:=bD HBr ee;replace HBz:=bD HBz ee;replace HBm:=bD HBm ee;replace HYd:=yD HYd ee;replace HYr:=yD HYr ee;clear ee
     have hsa5:w5.heap.size=wr.heap.size+0:=by omega
     clear hq1 hq2;clear hI;have rc:=kc2 HBr;have zc:=kc3 HBz;have mc:=kc2 HBm;have hI:=chain4 w.heap.size (w.heap.size+1) mb w5.heap.size;have hZ:=chain4 w.heap.size (w.heap.size+1) mb (wr.heap.size);refine callA 6 rfl fun K hK=>?_;go_simp;refine hK.out _ _ ?_ (fun hS42=>?_);· exact (by (iterate 3 (refine Far.setCell (p:=⟨(w.heap.size+1),_,none⟩) ?_ (.inr rfl) _));exact hS41)
     clear hK K;refine wpAnyH_done (by kernel_rfl) ?_ _;clear rc zc mc;generalize ee:World.setCell _ ⟨(w.heap.size+1),2,none⟩ _=w6;have hsz6:=sizeS3 ee;replace HF:=fN3 HF ee;replace HBr:=bF3 HBr ee;replace HBz:=bS3 HBz ee;replace HBm:=bF3 HBm ee;replace HYd:=yS3 HYd ee;replace HYr:=yS3 HYr ee;clear ee;clear hI hZ
     go_wp2_with (fail)
     have fr:=kc2 HBr;have fz:=kc3 HBz;refine bodyPost_ret (v:=.tuple #[.agg #[.slice none 0 0,.slice none 0 0],.agg #[.int .i64 (eB sz.b),.int .i64 (lB sz.b),.int .i64 (cB sz.b)]]) (by clear HF H HBr HBz HBm HYd HYr;simp [results,Tryz.results6,go_sem,fr,fz]) rfl ?_;exact ⟨rfl,belQ HF.out (by omega) (by omega)⟩
    | true=>
     have hb:sz.b=none:=Option.isNone_iff_eq_none.1 hso
     have hrp3:rp=.ok dz rz:=by rw [hrp2];unfold endM;show (match sz.b with | none=>_ | some p=>_)=_;rw [hb]
     clear hrp2;subst hrp3
     go_wp2_with (fail)
     clear qc rc zc mc;clear HP;generalize ee:World.setCell _ ⟨w.heap.size,1,none⟩ _=w5_1;have hq1:=sizeS2 ee;replace HF:=fN2 HF ee;replace HBr:=bS2 HBr ee;replace HBz:=bF2 HBz ee;replace HBm:=bF2 HBm ee;replace HYd:=yS2 HYd ee;replace HYr:=yS2 HYr ee;clear ee;generalize ee:World.setCell _ ⟨(w.heap.size+1),2,none⟩ _=w5;have hq2:=sizeS3 ee;replace HF:=fN3 HF ee;replace HBr:=bF3 HBr ee;replace HBz:=bS3 HBz ee;replace HBm:=bF3 HBm ee;replace HYd:=yS3 HYd ee;replace HYr:=yS3 HYr ee;clear ee
     have hsz5:w5.heap.size=wr.heap.size:=by omega
     clear hq1 hq2;clear hI
     go_wp2_with (fail)
     have fr:=kc2 HBr;have fz:=kc3 HBz;refine bodyPost_ret (v:=.tuple #[.agg #[.slice ad md cd,.slice ar mr cr],.agg #[.int .i64 0,.int .i64 0,.int .i64 0]]) (by clear HF H HBr HBz HBm HYd HYr;simp [results,Tryz.results6,go_sem,fr,fz]) rfl ?_;exact ⟨_,_,_,_,_,_,rfl,belQ HF.out (by omega) (by omega),memS_nw HYd.out (fun b hb=>Nat.le_trans (by omega) hb.1),memS_nw HYr.out (fun b hb=>Nat.le_trans (by omega) hb.1)⟩
   | true=>
    go_wp2_with (fail)
    clear qc rc zc mc;refine (mnow_any _ HP.out.bo HP.out.mem).mono ?_;rintro _ w5 ⟨rfl,hb⟩;have hf:=FarQ.of (q:=q) hb;replace HBr:=qB HBr hf;replace HBz:=qB HBz hf;replace HBm:=qB HBm hf;replace HOd:=qxO HOd hf;replace HOr:=qxO HOr hf;replace HF:=qF HF hf;have hs5:=hf.size;replace HP:=krP HP hb;clear hf hb;simp only [tkV]
    cases hk:((nowT tsA st.i).k != 0) with
    | false=>
     have hk0:(nowT tsA st.i).k=0:=by simpa using hk
     rw [if_neg (by rw [hok,hk0];decide)] at hr1;clear hk0;clear hI;have qc:=kcR HP;have rc:=kc2 HBr;have zc:=kc3 HBz;have mc:=kc2 HBm;have hI:=i01_q_q_0 w q mb w5
     go_wp2_with (fail)
     cases hr1;obtain ⟨T0,hT0⟩:∃ k,k=w5.heap.size:=⟨_,rfl⟩;have HYd:Hid (Mem (NwS (Bt B0 T0) w5.heap.size) w5 (.s 5 (dz.map Da.row)) (.slice ad md cd)):=zz (by rw [hT0];exact memS_bt HOd.out.mem (by omega));have HYr:Hid (Mem (NwS (Bt B0 T0) w5.heap.size) w5 (.s 11 (rz.map Ru.row)) (.slice ar mr cr)):=zz (by rw [hT0];exact memS_bt HOr.out.mem (by omega));clear HOd HOr HP1;clear qc rc zc mc;clear hI;have qc:=kcR HP;have rc:=kc2 HBr;have zc:=kc3 HBz;have mc:=kc2 HBm;have hI:=i01_q_q_0 w q mb w5
     go_wp2_with (fail)
     refine (mok_any _ HP.out).mono ?_;rintro _ _ ⟨rfl,rfl⟩
     cases hso:sz.ok with
     | false=>
      have hrp3:rp=.bad (eB sz.b) (lB sz.b) (cB sz.b):=by
       rw [hrp2];unfold endM
       show (match sz.b with | none=>_ | some p=>_)=_
       cases hb:sz.b with
       | none=>unfold MS.ok at hso;rw [hb] at hso;cases hso
       | some p=>rfl
      clear hrp2;subst hrp3
      go_wp2_with (fail)
      refine wp_region_held_drew (S:=fun w'=>Far (fun b=>b=w.heap.size∨b=(w.heap.size+1)) (w5) w') (by kernel_rfl) (Far.of (below_drew _)) (fun hS40=>?_);refine takeA 0 (v:=?_) rfl ?_ ?_;rotate_left;· intro w hSw;replace qc:=Far.c6z qc hSw;go_simp;try rfl
      (try simp only [pu]);refine takeA 1 (v:=?_) rfl ?_ ?_;rotate_left;· intro w hSw;replace qc:=Far.c6z qc hSw;go_simp;try rfl
      (try simp only [pu]);refine takeA 2 (v:=?_) rfl ?_ ?_;rotate_left;· intro w hSw;replace qc:=Far.c6z qc hSw;go_simp;try rfl
      (try simp only [pu]);refine takeA 3 (v:=?_) rfl ?_ ?_;rotate_left;· intro w hSw;replace qc:=Far.c6z qc hSw;go_simp;try rfl
      (try simp only [pu]);refine takeA 4 (v:=?_) rfl ?_ ?_;rotate_left;· intro w hSw;replace qc:=Far.c6z qc hSw;go_simp;try rfl
      (try simp only [pu]);clear HP;refine callA 5 rfl fun K hK=>?_;go_simp;refine hK.out _ _ ?_ (fun hS41=>?_);· exact (by refine Far.trans ?_ (Far.of (below_drew _));(iterate 2 (refine Far.setCell (p:=⟨w.heap.size,_,none⟩) ?_ (.inl rfl) _));exact Far.refl _ _)
      clear hK K;clear qc rc zc mc;generalize ee:((w5.setCell ⟨w.heap.size,0,none⟩ (.slice none 0 0)).setCell ⟨w.heap.size,1,none⟩ (.slice none 0 0))=w6_1 at *;have hq1:=sizeS2 ee;replace HF:=fN2 HF ee;replace HBr:=bS2 HBr ee;replace HBz:=bF2 HBz ee;replace HBm:=bF2 HBm ee;replace HYd:=yS2 HYd ee;replace HYr:=yS2 HYr ee;clear ee;generalize ee:(w6_1.drew)=w6 at *;have hq2:=sizeD ee;replace HF:=fD HF ee;replace HBr:=bD HBr ee;replace HBz:=bD HBz ee;replace HBm:=bD HBm ee;replace HYd:=yD HYd ee;replace HYr:=yD HYr ee;clear ee
      have hsa6:w6.heap.size=w5.heap.size+0:=by omega
      clear hq1 hq2;clear hI;have rc:=kc2 HBr;have zc:=kc3 HBz;have mc:=kc2 HBm;have hI:=chain4 w.heap.size (w.heap.size+1) mb w6.heap.size;have hZ:=chain4 w.heap.size (w.heap.size+1) mb (w5.heap.size);refine callA 6 rfl fun K hK=>?_;go_simp;refine hK.out _ _ ?_ (fun hS42=>?_);· exact (by (iterate 3 (refine Far.setCell (p:=⟨(w.heap.size+1),_,none⟩) ?_ (.inr rfl) _));exact hS41)
      clear hK K;refine wpAnyH_done (by kernel_rfl) ?_ _;clear rc zc mc;generalize ee:World.setCell _ ⟨(w.heap.size+1),2,none⟩ _=w7;have hsz7:=sizeS3 ee;replace HF:=fN3 HF ee;replace HBr:=bF3 HBr ee;replace HBz:=bS3 HBz ee;replace HBm:=bF3 HBm ee;replace HYd:=yS3 HYd ee;replace HYr:=yS3 HYr ee;clear ee;clear hI hZ
      go_wp2_with (fail)
      have fr:=kc2 HBr;have fz:=kc3 HBz;refine bodyPost_ret (v:=.tuple #[.agg #[.slice none 0 0,.slice none 0 0],.agg #[.int .i64 (eB sz.b),.int .i64 (lB sz.b),.int .i64 (cB sz.b)]]) (by clear HF H HBr HBz HBm HYd HYr;simp [results,Tryz.results6,go_sem,fr,fz]) rfl ?_;exact ⟨rfl,belQ HF.out (by omega) (by omega)⟩
     | true=>
      have hb:sz.b=none:=Option.isNone_iff_eq_none.1 hso
      have hrp3:rp=.ok dz rz:=by rw [hrp2];unfold endM;show (match sz.b with | none=>_ | some p=>_)=_;rw [hb]
      clear hrp2;subst hrp3
      go_wp2_with (fail)
      clear qc rc zc mc;clear HP;generalize ee:World.setCell _ ⟨w.heap.size,1,none⟩ _=w6_1;have hq1:=sizeS2 ee;replace HF:=fN2 HF ee;replace HBr:=bS2 HBr ee;replace HBz:=bF2 HBz ee;replace HBm:=bF2 HBm ee;replace HYd:=yS2 HYd ee;replace HYr:=yS2 HYr ee;clear ee;generalize ee:World.setCell _ ⟨(w.heap.size+1),2,none⟩ _=w6;have hq2:=sizeS3 ee;replace HF:=fN3 HF ee;replace HBr:=bF3 HBr ee;replace HBz:=bS3 HBz ee;replace HBm:=bF3 HBm ee;replace HYd:=yS3 HYd ee;replace HYr:=yS3 HYr ee;clear ee
      have hsz6:w6.heap.size=w5.heap.size:=by omega
      clear hq1 hq2;clear hI
      go_wp2_with (fail)
      have fr:=kc2 HBr;have fz:=kc3 HBz;refine bodyPost_ret (v:=.tuple #[.agg #[.slice ad md cd,.slice ar mr cr],.agg #[.int .i64 0,.int .i64 0,.int .i64 0]]) (by clear HF H HBr HBz HBm HYd HYr;simp [results,Tryz.results6,go_sem,fr,fz]) rfl ?_;exact ⟨_,_,_,_,_,_,rfl,belQ HF.out (by omega) (by omega),memS_nw HYd.out (fun b hb=>Nat.le_trans (by omega) hb.1),memS_nw HYr.out (fun b hb=>Nat.le_trans (by omega) hb.1)⟩
    | true=>
     have hk0:(nowT tsA st.i).k≠0:=by simpa using hk
     rw [if_pos (by rw [hok,decide_eq_false hk0];rfl)] at hr1;have HOK:=zz hok
     have hl2:ds.length+rs.length+(tsA.length - st.i)≤tsA.length:=by have h:=hl1 hok;rw [leftM_ok hok] at h;exact h
     have hlz:ds.length+rs.length+1≤1048577:=by omega
     clear hok hk0 hl1;clear hI;have qc:=kcR HP;have rc:=kc2 HBr;have zc:=kc3 HBz;have mc:=kc2 HBm;have hI:=i01_q_q_0 w q mb w5
     go_wp2_with (fail)
     clear qc rc zc mc;refine (mtake_any 1 ⟨#[]⟩ _ HP.out (by decide)).mono ?_;rintro _ w6 ⟨rfl,hf,hp⟩;replace HBr:=qB HBr hf;replace HBz:=qB HBz hf;replace HBm:=qB HBm hf;replace HOd:=qxO HOd hf;replace HOr:=qxO HOr hf;replace HF:=qF HF hf;have hs6:=hf.size;replace HP:=zz hp;clear hf hp;clear hI;have qc:=kcR HP;have rc:=kc2 HBr;have zc:=kc3 HBz;have mc:=kc2 HBm;have hI:=i01_q_q_0 w q mb w6
     go_wp2_with (fail)
     clear qc rc zc mc;refine (mis_any 5 wData _ HP.out).mono ?_;rintro _ w7 ⟨rfl,hb⟩;have hf:=FarQ.of (q:=q) hb;replace HBr:=qB HBr hf;replace HBz:=qB HBz hf;replace HBm:=qB HBm hf;replace HOd:=qxO HOd hf;replace HOr:=qxO HOr hf;replace HF:=qF HF hf;have hs7:=hf.size;replace HP:=krP HP hb;clear hf hb;obtain ⟨s1,hs1⟩:∃ s1,takeS tsA st 1 ⟨#[]⟩=s1:=⟨_,rfl⟩;have hst1:Step 1 st s1:=hs1 ▸ step_take st
     have hlt:s1.ok=true→st.i<tsA.length:=fun h=>by
      rw [←hs1] at h;unfold takeS at h
      split at h
      · rename_i hi;exact isT_lt (isS_parts hi).2 (by decide)
      · rw [fail_notok] at h;cases h
     rw [hs1] at hr1 HP ⊢;clear hs1 hk
     cases hd:isS tsA s1 5 wData with
     | true=>
      rw [hd] at hr1;rw [if_pos rfl] at hr1;obtain ⟨Y,hy1,hr1⟩:=Option.bind_eq_some_iff.1 hr1;obtain ⟨y,sy⟩:=Y;clear hI;have qc:=kcR HP;have rc:=kc2 HBr;have zc:=kc3 HBz;have mc:=kc2 HBm;have hI:=i01_q_q_0 w q mb w7;go_upto_region 9 with (fail);clear qc rc zc mc;clear hI;have qc:=kcR HP;have rc:=kc2 HBr;have zc:=kc3 HBz;have mc:=kc2 HBm;have hI:=i01_q_q_0 w q mb w7;refine wp_region_held_drew (S:=fun w'=>Far (fun b=>b=q∨b=mb∨(Value.slice ad md cd).ownBlock=some b) (w7) w') (by kernel_rfl) (Far.of (below_drew _)) (fun hS10=>?_);refine takeA 0 (v:=?_) rfl ?_ ?_;rotate_left;· intros;go_simp;try rfl
      (try simp only [pu]);refine takeA 2 (v:=?_) rfl ?_ ?_;rotate_left;· intros;go_simp;try rfl
      (try simp only [pu]);refine twoL 1 3 rfl rfl (by kernel_rfl) (by rfl) (by rfl) (fun K hK=>?_) (fun K hK=>?_)
      ·
       go_simp;refine hK.out _ _ (hS10) (fun hS11=>?_);clear hK K;refine callA 3 rfl fun K hK=>?_;clear qc rc zc mc;have HOW:=HOd;have HOW2:=HOr;go_simp;refine (data_any _ hy1 HP.out.drew).mono ?_;rintro e wx12 ⟨ay,my,cy,az,mz,cz,rfl,hf,hp,hm,hm2⟩;replace hf:FarQ q w7 wx12:=(FarQ.of (below_drew _)).trans hf;have hswx12:w7.heap.size≤wx12.heap.size:=hf.size;replace HBr:=qB HBr hf;replace HBz:=qB HBz hf;replace HBm:=qB HBm hf;replace HOd:=qxO HOd hf;replace HOr:=qxO HOr hf;replace HF:=qF HF hf;replace HP:=zz hp;have HMy:Hid (Mem (Nw 0 w7.heap.size _) _ _ _):=zz hm;have HMz:Hid (Mem (Nw 0 w7.heap.size _) _ _ _):=zz hm2;clear hm hm2;simp only [daV];go_simp;refine hK.out _ _ (Far.mono hf (fun b e=>.inl e)) (fun hS12=>?_);clear hK K hp hf;refine callA 4 rfl fun K hK=>?_;go_simp;refine hK.out _ _ (Far.trans hS12 (Far.of (below_new _ _))) (fun hS13=>?_);clear hK K;refine callA 5 rfl fun K hK=>?_
       have hxw:∀ k,_=some k→k<wx12.heap.size:=fun k hk=>(HOr.out.lt k hk).2
       refine wp_append_S _ _ (by rfl) Tryz.underlying23 info_datM rfl (by decide) (by rfl) (by rfl) (HOd.out.alloc _).ow (by simp) (row_appX HOW.out (fun k hk=>(HOW2.out.lt k hk).2) (by omega) (by omega) (da_mem (x:=y) HMy.out HMz.out) rfl) (by simp only [List.length_map,List.length_cons,List.length_nil];omega) (by simp only [List.length_map,List.length_cons,List.length_nil];omega) (by rw [World.size_alloc];omega) (fun v9 w9 ho hg hv9=>?_);obtain ⟨a9,m9,c9,rfl⟩:=mem_slice ho.mem;refine hK.out _ _ (Far.trans hS13 ((grownFar hg).mono (fun b e=>.inr (.inr e)))) (fun hS14=>?_);clear hK K
       have hs9:wx12.heap.size+1≤w9.heap.size:=by have h:=hg.size;rw [World.size_alloc] at h;exact h
       have hob:∀ k,(Value.slice ad md cd).ownBlock=some k→B0≤k:=fun k hk=>(HOd.out.lt k hk).1
       replace HP:=zz ((HP.out.alloc _).grown hg fun k hk=>by have :=hob k hk;omega)
       replace HF:=zz ((HF.out.alloc _).grown hg fun k hk=>by have :=hob k hk;omega)
       replace HBr:=zz ((HBr.out.alloc _).grown hg fun k hk=>by have :=hob k hk;omega)
       replace HBz:=zz ((HBz.out.alloc _).grown hg fun k hk=>by have :=hob k hk;omega)
       replace HBm:=zz ((HBm.out.alloc _).grown hg fun k hk=>by have :=hob k hk;omega)
       have HOd9:=zz ((HOd.out.alloc _).app ho (fun k hk=>Nat.lt_of_lt_of_le (hxw k hk) (by rw [World.size_alloc];omega)) hv9);have HOr9:=zz ((HOr.out.alloc _).other2 hg hv9);clear ho hg hob HOW HOW2 hv9 hxw HOd HOr;refine takeA 6 (v:=?_) rfl ?_ ?_;rotate_left;· intros;go_simp;try rfl
       (try simp only [pu]);refine callA 7 rfl fun K hK=>?_;have qc:=kcR HP;have rc:=kc2 HBr;have zc:=kc3 HBz;have mc:=kc2 HBm;have hI:=i01_q_q_0 w q mb w9;go_simp;refine hK.out _ _ (Far.setCell hS14 (.inr (.inl rfl)) _) (fun hS15=>?_);clear hK K;refine wpAnyH_done (by kernel_rfl) ?_ _;clear qc rc zc mc;generalize ee:World.setCell w9 _ _=w8;have hsz8:=sizeS1 ee;replace HP:=rpO1 HP ee;replace HF:=fN1 HF ee;replace HBr:=bF1 HBr ee;replace HBz:=bF1 HBz ee;replace HBm:Hid (Bo w8 mb 26 #[.slice a9 m9 c9,.slice ar mr cr]):=zz (by rw [←ee];exact HBm.out.set 0 (.slice a9 m9 c9));replace HOd9:=oxS1 HOd9 ee;replace HOr9:=oxS1 HOr9 ee;clear ee;clear hI;have qc:=kcR HP;have rc:=kc2 HBr;have zc:=kc3 HBz;have mc:=kc2 HBm;have hI:=i01_q_q_0 w q mb w8;have hZ:=i01_q_q_0 w q mb w9
       go_wp2_with (fail)
       clear qc rc zc mc
       go_roundw
       case rel=>exact ⟨ds++[y],rs,sy,gg,a9,m9,c9,ar,mr,cr,hr1,HP,HF,HBr,HBz,HBm,(zz (by rw [List.map_append];exact HOd9.out)),HOr9,(fun hsy=>by have h1:leftM tsA sy≤leftM tsA st - 2:=leftM_step (ts:=tsA) (hst1.trans (dataM_step hy1));have h2:=hlt ((dataM_step hy1).fwd hsy).1;rw [leftM_ok HOK.out] at h1;rw [List.length_append,List.length_cons,List.length_nil];omega),(by rw [List.length_append,List.length_cons,List.length_nil];omega),by omega⟩
       case measure=>exact posM_step HP1.out HP.out _ ((hst1.trans (dataM_step hy1)).le (by decide)) HOK.out fun hsy=>hlt ((dataM_step hy1).fwd hsy).1
      ·
       clear qc rc zc mc;have HOW:=HOd;have HOW2:=HOr;go_simp;refine (data_any _ hy1 HP.out.drew).mono ?_;rintro e wx11 ⟨ay,my,cy,az,mz,cz,rfl,hf,hp,hm,hm2⟩;replace hf:FarQ q w7 wx11:=(FarQ.of (below_drew _)).trans hf;have hswx11:w7.heap.size≤wx11.heap.size:=hf.size;replace HBr:=qB HBr hf;replace HBz:=qB HBz hf;replace HBm:=qB HBm hf;replace HOd:=qxO HOd hf;replace HOr:=qxO HOr hf;replace HF:=qF HF hf;replace HP:=zz hp;have HMy:Hid (Mem (Nw 0 w7.heap.size _) _ _ _):=zz hm;have HMz:Hid (Mem (Nw 0 w7.heap.size _) _ _ _):=zz hm2;clear hm hm2;simp only [daV];go_simp;refine hK.out _ _ (Far.mono hf (fun b e=>.inl e)) (fun hS11=>?_);clear hK K hp hf;refine twoL 1 4 rfl rfl (by kernel_rfl) (by rfl) (by rfl) (fun K hK=>?_) (fun K hK=>?_)
       ·
        have qc:=kcR HP;have rc:=kc2 HBr;have zc:=kc3 HBz;have mc:=kc2 HBm;have hI:=i01_q_q_0 w q mb wx11;go_simp;refine hK.out _ _ (hS11) (fun hS12=>?_);clear hK K;clear qc rc zc mc;refine callA 4 rfl fun K hK=>?_;go_simp;refine hK.out _ _ (Far.trans hS12 (Far.of (below_new _ _))) (fun hS13=>?_);clear hK K;refine callA 5 rfl fun K hK=>?_
        have hxw:∀ k,_=some k→k<wx11.heap.size:=fun k hk=>(HOr.out.lt k hk).2
        refine wp_append_S _ _ (by rfl) Tryz.underlying23 info_datM rfl (by decide) (by rfl) (by rfl) (HOd.out.alloc _).ow (by simp) (row_appX HOW.out (fun k hk=>(HOW2.out.lt k hk).2) (by omega) (by omega) (da_mem (x:=y) HMy.out HMz.out) rfl) (by simp only [List.length_map,List.length_cons,List.length_nil];omega) (by simp only [List.length_map,List.length_cons,List.length_nil];omega) (by rw [World.size_alloc];omega) (fun v9 w9 ho hg hv9=>?_);obtain ⟨a9,m9,c9,rfl⟩:=mem_slice ho.mem;refine hK.out _ _ (Far.trans hS13 ((grownFar hg).mono (fun b e=>.inr (.inr e)))) (fun hS14=>?_);clear hK K
        have hs9:wx11.heap.size+1≤w9.heap.size:=by have h:=hg.size;rw [World.size_alloc] at h;exact h
        have hob:∀ k,(Value.slice ad md cd).ownBlock=some k→B0≤k:=fun k hk=>(HOd.out.lt k hk).1
        replace HP:=zz ((HP.out.alloc _).grown hg fun k hk=>by have :=hob k hk;omega)
        replace HF:=zz ((HF.out.alloc _).grown hg fun k hk=>by have :=hob k hk;omega)
        replace HBr:=zz ((HBr.out.alloc _).grown hg fun k hk=>by have :=hob k hk;omega)
        replace HBz:=zz ((HBz.out.alloc _).grown hg fun k hk=>by have :=hob k hk;omega)
        replace HBm:=zz ((HBm.out.alloc _).grown hg fun k hk=>by have :=hob k hk;omega)
        have HOd9:=zz ((HOd.out.alloc _).app ho (fun k hk=>Nat.lt_of_lt_of_le (hxw k hk) (by rw [World.size_alloc];omega)) hv9);have HOr9:=zz ((HOr.out.alloc _).other2 hg hv9);clear ho hg hob HOW HOW2 hv9 hxw HOd HOr;refine takeA 6 (v:=?_) rfl ?_ ?_;rotate_left;· intros;go_simp;try rfl
        (try simp only [pu]);refine callA 7 rfl fun K hK=>?_;have qc:=kcR HP;have rc:=kc2 HBr;have zc:=kc3 HBz;have mc:=kc2 HBm;have hI:=i01_q_q_0 w q mb w9;go_simp;refine hK.out _ _ (Far.setCell hS14 (.inr (.inl rfl)) _) (fun hS15=>?_);clear hK K;refine wpAnyH_done (by kernel_rfl) ?_ _;clear qc rc zc mc;generalize ee:World.setCell w9 _ _=w8;have hsz8:=sizeS1 ee;replace HP:=rpO1 HP ee;replace HF:=fN1 HF ee;replace HBr:=bF1 HBr ee;replace HBz:=bF1 HBz ee;replace HBm:Hid (Bo w8 mb 26 #[.slice a9 m9 c9,.slice ar mr cr]):=zz (by rw [←ee];exact HBm.out.set 0 (.slice a9 m9 c9));replace HOd9:=oxS1 HOd9 ee;replace HOr9:=oxS1 HOr9 ee;clear ee;clear hI;have qc:=kcR HP;have rc:=kc2 HBr;have zc:=kc3 HBz;have mc:=kc2 HBm;have hI:=i01_q_q_0 w q mb w8;have hZ:=i01_q_q_0 w q mb w9
        go_wp2_with (fail)
        clear qc rc zc mc
        go_roundw
        case rel=>exact ⟨ds++[y],rs,sy,gg,a9,m9,c9,ar,mr,cr,hr1,HP,HF,HBr,HBz,HBm,(zz (by rw [List.map_append];exact HOd9.out)),HOr9,(fun hsy=>by have h1:leftM tsA sy≤leftM tsA st - 2:=leftM_step (ts:=tsA) (hst1.trans (dataM_step hy1));have h2:=hlt ((dataM_step hy1).fwd hsy).1;rw [leftM_ok HOK.out] at h1;rw [List.length_append,List.length_cons,List.length_nil];omega),(by rw [List.length_append,List.length_cons,List.length_nil];omega),by omega⟩
        case measure=>exact posM_step HP1.out HP.out _ ((hst1.trans (dataM_step hy1)).le (by decide)) HOK.out fun hsy=>hlt ((dataM_step hy1).fwd hsy).1
       ·
        go_simp;refine hK.out _ _ (Far.trans hS11 (Far.of (below_new _ _))) (fun hS12=>?_);clear hK K;have qc:=kcR HP;have rc:=kc2 HBr;have zc:=kc3 HBz;have mc:=kc2 HBm;have hI:=i01_q_q_0 w q mb wx11;refine callA 1 rfl fun K hK=>?_;go_simp;refine hK.out _ _ (hS12) (fun hS13=>?_);clear hK K;clear qc rc zc mc;refine callA 5 rfl fun K hK=>?_
        have hxw:∀ k,_=some k→k<wx11.heap.size:=fun k hk=>(HOr.out.lt k hk).2
        refine wp_append_S _ _ (by rfl) Tryz.underlying23 info_datM rfl (by decide) (by rfl) (by rfl) (HOd.out.alloc _).ow (by simp) (row_appX HOW.out (fun k hk=>(HOW2.out.lt k hk).2) (by omega) (by omega) (da_mem (x:=y) HMy.out HMz.out) rfl) (by simp only [List.length_map,List.length_cons,List.length_nil];omega) (by simp only [List.length_map,List.length_cons,List.length_nil];omega) (by rw [World.size_alloc];omega) (fun v9 w9 ho hg hv9=>?_);obtain ⟨a9,m9,c9,rfl⟩:=mem_slice ho.mem;refine hK.out _ _ (Far.trans hS13 ((grownFar hg).mono (fun b e=>.inr (.inr e)))) (fun hS14=>?_);clear hK K
        have hs9:wx11.heap.size+1≤w9.heap.size:=by have h:=hg.size;rw [World.size_alloc] at h;exact h
        have hob:∀ k,(Value.slice ad md cd).ownBlock=some k→B0≤k:=fun k hk=>(HOd.out.lt k hk).1
        replace HP:=zz ((HP.out.alloc _).grown hg fun k hk=>by have :=hob k hk;omega)
        replace HF:=zz ((HF.out.alloc _).grown hg fun k hk=>by have :=hob k hk;omega)
        replace HBr:=zz ((HBr.out.alloc _).grown hg fun k hk=>by have :=hob k hk;omega)
        replace HBz:=zz ((HBz.out.alloc _).grown hg fun k hk=>by have :=hob k hk;omega)
        replace HBm:=zz ((HBm.out.alloc _).grown hg fun k hk=>by have :=hob k hk;omega)
        have HOd9:=zz ((HOd.out.alloc _).app ho (fun k hk=>Nat.lt_of_lt_of_le (hxw k hk) (by rw [World.size_alloc];omega)) hv9);have HOr9:=zz ((HOr.out.alloc _).other2 hg hv9);clear ho hg hob HOW HOW2 hv9 hxw HOd HOr;refine takeA 6 (v:=?_) rfl ?_ ?_;rotate_left;· intros;go_simp;try rfl
        (try simp only [pu]);refine callA 7 rfl fun K hK=>?_;have qc:=kcR HP;have rc:=kc2 HBr;have zc:=kc3 HBz;have mc:=kc2 HBm;have hI:=i01_q_q_0 w q mb w9;go_simp;refine hK.out _ _ (Far.setCell hS14 (.inr (.inl rfl)) _) (fun hS15=>?_);clear hK K;refine wpAnyH_done (by kernel_rfl) ?_ _;clear qc rc zc mc;generalize ee:World.setCell w9 _ _=w8;have hsz8:=sizeS1 ee;replace HP:=rpO1 HP ee;replace HF:=fN1 HF ee;replace HBr:=bF1 HBr ee;replace HBz:=bF1 HBz ee;replace HBm:Hid (Bo w8 mb 26 #[.slice a9 m9 c9,.slice ar mr cr]):=zz (by rw [←ee];exact HBm.out.set 0 (.slice a9 m9 c9));replace HOd9:=oxS1 HOd9 ee;replace HOr9:=oxS1 HOr9 ee;clear ee;clear hI;have qc:=kcR HP;have rc:=kc2 HBr;have zc:=kc3 HBz;have mc:=kc2 HBm;have hI:=i01_q_q_0 w q mb w8;have hZ:=i01_q_q_0 w q mb w9
        go_wp2_with (fail)
        clear qc rc zc mc
        go_roundw
        case rel=>exact ⟨ds++[y],rs,sy,gg,a9,m9,c9,ar,mr,cr,hr1,HP,HF,HBr,HBz,HBm,(zz (by rw [List.map_append];exact HOd9.out)),HOr9,(fun hsy=>by have h1:leftM tsA sy≤leftM tsA st - 2:=leftM_step (ts:=tsA) (hst1.trans (dataM_step hy1));have h2:=hlt ((dataM_step hy1).fwd hsy).1;rw [leftM_ok HOK.out] at h1;rw [List.length_append,List.length_cons,List.length_nil];omega),(by rw [List.length_append,List.length_cons,List.length_nil];omega),by omega⟩
        case measure=>exact posM_step HP1.out HP.out _ ((hst1.trans (dataM_step hy1)).le (by decide)) HOK.out fun hsy=>hlt ((dataM_step hy1).fwd hsy).1
     | false=>
      rw [hd] at hr1;rw [if_neg (by decide)] at hr1;obtain ⟨Y,hy1,hr1⟩:=Option.bind_eq_some_iff.1 hr1;obtain ⟨y,sy⟩:=Y;clear hI;have qc:=kcR HP;have rc:=kc2 HBr;have zc:=kc3 HBz;have mc:=kc2 HBm;have hI:=i01_q_q_0 w q mb w7;go_upto_region 10 with (fail);clear qc rc zc mc;clear hI;have qc:=kcR HP;have rc:=kc2 HBr;have zc:=kc3 HBz;have mc:=kc2 HBm;have hI:=i01_q_q_0 w q mb w7;refine wp_region_held_drew (S:=fun w'=>Far (fun b=>b=q∨b=mb∨(Value.slice ar mr cr).ownBlock=some b) (w7) w') (by kernel_rfl) (Far.of (below_drew _)) (fun hS10=>?_);refine takeA 0 (v:=?_) rfl ?_ ?_;rotate_left;· intros;go_simp;try rfl
      (try simp only [pu]);refine takeA 2 (v:=?_) rfl ?_ ?_;rotate_left;· intros;go_simp;try rfl
      (try simp only [pu]);refine twoL 1 3 rfl rfl (by kernel_rfl) (by rfl) (by rfl) (fun K hK=>?_) (fun K hK=>?_)
      ·
       go_simp;refine hK.out _ _ (hS10) (fun hS11=>?_);clear hK K;refine callA 3 rfl fun K hK=>?_;clear qc rc zc mc;have HOW:=HOr;have HOW2:=HOd;go_simp;refine (rule_any _ hy1 HP.out.drew).mono ?_;rintro e wx12 ⟨ay,my,cy,az,mz,cz,b,kb,db,rfl,hf,hp,hm,hm2,hm3⟩;replace hf:FarQ q w7 wx12:=(FarQ.of (below_drew _)).trans hf;have hswx12:w7.heap.size≤wx12.heap.size:=hf.size;replace HBr:=qB HBr hf;replace HBz:=qB HBz hf;replace HBm:=qB HBm hf;replace HOd:=qxO HOd hf;replace HOr:=qxO HOr hf;replace HF:=qF HF hf;replace HP:=zz hp;have HMy:Hid (Mem (Nw 0 w7.heap.size _) _ _ _):=zz hm;have HMz:Hid (Mem (Nw 0 w7.heap.size _) _ _ _):=zz hm2;have HMb:Hid (Mem (Nw 0 w7.heap.size _) _ _ _):=zz hm3;clear hm hm2 hm3;go_simp;refine hK.out _ _ (Far.mono hf (fun b e=>.inl e)) (fun hS12=>?_);clear hK K hp hf;refine callA 4 rfl fun K hK=>?_;go_simp;refine hK.out _ _ (Far.trans hS12 (Far.of (below_new _ _))) (fun hS13=>?_);clear hK K;refine callA 5 rfl fun K hK=>?_
       have hxw:∀ k,_=some k→k<wx12.heap.size:=fun k hk=>(HOd.out.lt k hk).2
       refine wp_append_S _ _ (by rfl) Tryz.underlying24 info_rulM rfl (by decide) (by rfl) (by rfl) (HOr.out.alloc _).ow (by simp) (row_appX HOW.out (fun k hk=>(HOW2.out.lt k hk).2) (by omega) (by omega) (ru_mem (x:=y) HMy.out HMz.out HMb.out) rfl) (by simp only [List.length_map,List.length_cons,List.length_nil];omega) (by simp only [List.length_map,List.length_cons,List.length_nil];omega) (by rw [World.size_alloc];omega) (fun v9 w9 ho hg hv9=>?_);obtain ⟨a9,m9,c9,rfl⟩:=mem_slice ho.mem;refine hK.out _ _ (Far.trans hS13 ((grownFar hg).mono (fun b e=>.inr (.inr e)))) (fun hS14=>?_);clear hK K
       have hs9:wx12.heap.size+1≤w9.heap.size:=by have h:=hg.size;rw [World.size_alloc] at h;exact h
       have hob:∀ k,(Value.slice ar mr cr).ownBlock=some k→B0≤k:=fun k hk=>(HOr.out.lt k hk).1
       replace HP:=zz ((HP.out.alloc _).grown hg fun k hk=>by have :=hob k hk;omega)
       replace HF:=zz ((HF.out.alloc _).grown hg fun k hk=>by have :=hob k hk;omega)
       replace HBr:=zz ((HBr.out.alloc _).grown hg fun k hk=>by have :=hob k hk;omega)
       replace HBz:=zz ((HBz.out.alloc _).grown hg fun k hk=>by have :=hob k hk;omega)
       replace HBm:=zz ((HBm.out.alloc _).grown hg fun k hk=>by have :=hob k hk;omega)
       have HOr9:=zz ((HOr.out.alloc _).app ho (fun k hk=>Nat.lt_of_lt_of_le (hxw k hk) (by rw [World.size_alloc];omega)) hv9);have HOd9:=zz ((HOd.out.alloc _).other2 hg hv9);clear ho hg hob HOW HOW2 hv9 hxw HOr HOd;refine takeA 6 (v:=?_) rfl ?_ ?_;rotate_left;· intros;go_simp;try rfl
       (try simp only [pu]);refine callA 7 rfl fun K hK=>?_;have qc:=kcR HP;have rc:=kc2 HBr;have zc:=kc3 HBz;have mc:=kc2 HBm;have hI:=i01_q_q_0 w q mb w9;go_simp;refine hK.out _ _ (Far.setCell hS14 (.inr (.inl rfl)) _) (fun hS15=>?_);clear hK K;refine wpAnyH_done (by kernel_rfl) ?_ _;clear qc rc zc mc;generalize ee:World.setCell w9 _ _=w8;have hsz8:=sizeS1 ee;replace HP:=rpO1 HP ee;replace HF:=fN1 HF ee;replace HBr:=bF1 HBr ee;replace HBz:=bF1 HBz ee;replace HBm:Hid (Bo w8 mb 26 #[.slice ad md cd,.slice a9 m9 c9]):=zz (by rw [←ee];exact HBm.out.set 1 (.slice a9 m9 c9));replace HOr9:=oxS1 HOr9 ee;replace HOd9:=oxS1 HOd9 ee;clear ee;clear hI;have qc:=kcR HP;have rc:=kc2 HBr;have zc:=kc3 HBz;have mc:=kc2 HBm;have hI:=i01_q_q_0 w q mb w8;have hZ:=i01_q_q_0 w q mb w9
       go_wp2_with (fail)
       clear qc rc zc mc
       go_roundw
       case rel=>exact ⟨ds,rs++[y],sy,gg,ad,md,cd,a9,m9,c9,hr1,HP,HF,HBr,HBz,HBm,HOd9,(zz (by rw [List.map_append];exact HOr9.out)),(fun hsy=>by have h1:leftM tsA sy≤leftM tsA st - 2:=leftM_step (ts:=tsA) (hst1.trans (ruleM_step hy1));have h2:=hlt ((ruleM_step hy1).fwd hsy).1;rw [leftM_ok HOK.out] at h1;rw [List.length_append,List.length_cons,List.length_nil];omega),(by rw [List.length_append,List.length_cons,List.length_nil];omega),by omega⟩
       case measure=>exact posM_step HP1.out HP.out _ ((hst1.trans (ruleM_step hy1)).le (by decide)) HOK.out fun hsy=>hlt ((ruleM_step hy1).fwd hsy).1
      ·
       clear qc rc zc mc;have HOW:=HOr;have HOW2:=HOd;go_simp;refine (rule_any _ hy1 HP.out.drew).mono ?_;rintro e wx11 ⟨ay,my,cy,az,mz,cz,b,kb,db,rfl,hf,hp,hm,hm2,hm3⟩;replace hf:FarQ q w7 wx11:=(FarQ.of (below_drew _)).trans hf;have hswx11:w7.heap.size≤wx11.heap.size:=hf.size;replace HBr:=qB HBr hf;replace HBz:=qB HBz hf;replace HBm:=qB HBm hf;replace HOd:=qxO HOd hf;replace HOr:=qxO HOr hf;replace HF:=qF HF hf;replace HP:=zz hp;have HMy:Hid (Mem (Nw 0 w7.heap.size _) _ _ _):=zz hm;have HMz:Hid (Mem (Nw 0 w7.heap.size _) _ _ _):=zz hm2;have HMb:Hid (Mem (Nw 0 w7.heap.size _) _ _ _):=zz hm3;clear hm hm2 hm3;go_simp;refine hK.out _ _ (Far.mono hf (fun b e=>.inl e)) (fun hS11=>?_);clear hK K hp hf;refine twoL 1 4 rfl rfl (by kernel_rfl) (by rfl) (by rfl) (fun K hK=>?_) (fun K hK=>?_)
       ·
        have qc:=kcR HP;have rc:=kc2 HBr;have zc:=kc3 HBz;have mc:=kc2 HBm;have hI:=i01_q_q_0 w q mb wx11;go_simp;refine hK.out _ _ (hS11) (fun hS12=>?_);clear hK K;clear qc rc zc mc;refine callA 4 rfl fun K hK=>?_;go_simp;refine hK.out _ _ (Far.trans hS12 (Far.of (below_new _ _))) (fun hS13=>?_);clear hK K;refine callA 5 rfl fun K hK=>?_
        have hxw:∀ k,_=some k→k<wx11.heap.size:=fun k hk=>(HOd.out.lt k hk).2
        refine wp_append_S _ _ (by rfl) Tryz.underlying24 info_rulM rfl (by decide) (by rfl) (by rfl) (HOr.out.alloc _).ow (by simp) (row_appX HOW.out (fun k hk=>(HOW2.out.lt k hk).2) (by omega) (by omega) (ru_mem (x:=y) HMy.out HMz.out HMb.out) rfl) (by simp only [List.length_map,List.length_cons,List.length_nil];omega) (by simp only [List.length_map,List.length_cons,List.length_nil];omega) (by rw [World.size_alloc];omega) (fun v9 w9 ho hg hv9=>?_);obtain ⟨a9,m9,c9,rfl⟩:=mem_slice ho.mem;refine hK.out _ _ (Far.trans hS13 ((grownFar hg).mono (fun b e=>.inr (.inr e)))) (fun hS14=>?_);clear hK K
        have hs9:wx11.heap.size+1≤w9.heap.size:=by have h:=hg.size;rw [World.size_alloc] at h;exact h
        have hob:∀ k,(Value.slice ar mr cr).ownBlock=some k→B0≤k:=fun k hk=>(HOr.out.lt k hk).1
        replace HP:=zz ((HP.out.alloc _).grown hg fun k hk=>by have :=hob k hk;omega)
        replace HF:=zz ((HF.out.alloc _).grown hg fun k hk=>by have :=hob k hk;omega)
        replace HBr:=zz ((HBr.out.alloc _).grown hg fun k hk=>by have :=hob k hk;omega)
        replace HBz:=zz ((HBz.out.alloc _).grown hg fun k hk=>by have :=hob k hk;omega)
        replace HBm:=zz ((HBm.out.alloc _).grown hg fun k hk=>by have :=hob k hk;omega)
        have HOr9:=zz ((HOr.out.alloc _).app ho (fun k hk=>Nat.lt_of_lt_of_le (hxw k hk) (by rw [World.size_alloc];omega)) hv9);have HOd9:=zz ((HOd.out.alloc _).other2 hg hv9);clear ho hg hob HOW HOW2 hv9 hxw HOr HOd;refine takeA 6 (v:=?_) rfl ?_ ?_;rotate_left;· intros;go_simp;try rfl
        (try simp only [pu]);refine callA 7 rfl fun K hK=>?_;have qc:=kcR HP;have rc:=kc2 HBr;have zc:=kc3 HBz;have mc:=kc2 HBm;have hI:=i01_q_q_0 w q mb w9;go_simp;refine hK.out _ _ (Far.setCell hS14 (.inr (.inl rfl)) _) (fun hS15=>?_);clear hK K;refine wpAnyH_done (by kernel_rfl) ?_ _;clear qc rc zc mc;generalize ee:World.setCell w9 _ _=w8;have hsz8:=sizeS1 ee;replace HP:=rpO1 HP ee;replace HF:=fN1 HF ee;replace HBr:=bF1 HBr ee;replace HBz:=bF1 HBz ee;replace HBm:Hid (Bo w8 mb 26 #[.slice ad md cd,.slice a9 m9 c9]):=zz (by rw [←ee];exact HBm.out.set 1 (.slice a9 m9 c9));replace HOr9:=oxS1 HOr9 ee;replace HOd9:=oxS1 HOd9 ee;clear ee;clear hI;have qc:=kcR HP;have rc:=kc2 HBr;have zc:=kc3 HBz;have mc:=kc2 HBm;have hI:=i01_q_q_0 w q mb w8;have hZ:=i01_q_q_0 w q mb w9
        go_wp2_with (fail)
        clear qc rc zc mc
        go_roundw
        case rel=>exact ⟨ds,rs++[y],sy,gg,ad,md,cd,a9,m9,c9,hr1,HP,HF,HBr,HBz,HBm,HOd9,(zz (by rw [List.map_append];exact HOr9.out)),(fun hsy=>by have h1:leftM tsA sy≤leftM tsA st - 2:=leftM_step (ts:=tsA) (hst1.trans (ruleM_step hy1));have h2:=hlt ((ruleM_step hy1).fwd hsy).1;rw [leftM_ok HOK.out] at h1;rw [List.length_append,List.length_cons,List.length_nil];omega),(by rw [List.length_append,List.length_cons,List.length_nil];omega),by omega⟩
        case measure=>exact posM_step HP1.out HP.out _ ((hst1.trans (ruleM_step hy1)).le (by decide)) HOK.out fun hsy=>hlt ((ruleM_step hy1).fwd hsy).1
       ·
        go_simp;refine hK.out _ _ (Far.trans hS11 (Far.of (below_new _ _))) (fun hS12=>?_);clear hK K;have qc:=kcR HP;have rc:=kc2 HBr;have zc:=kc3 HBz;have mc:=kc2 HBm;have hI:=i01_q_q_0 w q mb wx11;refine callA 1 rfl fun K hK=>?_;go_simp;refine hK.out _ _ (hS12) (fun hS13=>?_);clear hK K;clear qc rc zc mc;refine callA 5 rfl fun K hK=>?_
        have hxw:∀ k,_=some k→k<wx11.heap.size:=fun k hk=>(HOd.out.lt k hk).2
        refine wp_append_S _ _ (by rfl) Tryz.underlying24 info_rulM rfl (by decide) (by rfl) (by rfl) (HOr.out.alloc _).ow (by simp) (row_appX HOW.out (fun k hk=>(HOW2.out.lt k hk).2) (by omega) (by omega) (ru_mem (x:=y) HMy.out HMz.out HMb.out) rfl) (by simp only [List.length_map,List.length_cons,List.length_nil];omega) (by simp only [List.length_map,List.length_cons,List.length_nil];omega) (by rw [World.size_alloc];omega) (fun v9 w9 ho hg hv9=>?_);obtain ⟨a9,m9,c9,rfl⟩:=mem_slice ho.mem;refine hK.out _ _ (Far.trans hS13 ((grownFar hg).mono (fun b e=>.inr (.inr e)))) (fun hS14=>?_);clear hK K
        have hs9:wx11.heap.size+1≤w9.heap.size:=by have h:=hg.size;rw [World.size_alloc] at h;exact h
        have hob:∀ k,(Value.slice ar mr cr).ownBlock=some k→B0≤k:=fun k hk=>(HOr.out.lt k hk).1
        replace HP:=zz ((HP.out.alloc _).grown hg fun k hk=>by have :=hob k hk;omega)
        replace HF:=zz ((HF.out.alloc _).grown hg fun k hk=>by have :=hob k hk;omega)
        replace HBr:=zz ((HBr.out.alloc _).grown hg fun k hk=>by have :=hob k hk;omega)
        replace HBz:=zz ((HBz.out.alloc _).grown hg fun k hk=>by have :=hob k hk;omega)
        replace HBm:=zz ((HBm.out.alloc _).grown hg fun k hk=>by have :=hob k hk;omega)
        have HOr9:=zz ((HOr.out.alloc _).app ho (fun k hk=>Nat.lt_of_lt_of_le (hxw k hk) (by rw [World.size_alloc];omega)) hv9);have HOd9:=zz ((HOd.out.alloc _).other2 hg hv9);clear ho hg hob HOW HOW2 hv9 hxw HOr HOd;refine takeA 6 (v:=?_) rfl ?_ ?_;rotate_left;· intros;go_simp;try rfl
        (try simp only [pu]);refine callA 7 rfl fun K hK=>?_;have qc:=kcR HP;have rc:=kc2 HBr;have zc:=kc3 HBz;have mc:=kc2 HBm;have hI:=i01_q_q_0 w q mb w9;go_simp;refine hK.out _ _ (Far.setCell hS14 (.inr (.inl rfl)) _) (fun hS15=>?_);clear hK K;refine wpAnyH_done (by kernel_rfl) ?_ _;clear qc rc zc mc;generalize ee:World.setCell w9 _ _=w8;have hsz8:=sizeS1 ee;replace HP:=rpO1 HP ee;replace HF:=fN1 HF ee;replace HBr:=bF1 HBr ee;replace HBz:=bF1 HBz ee;replace HBm:Hid (Bo w8 mb 26 #[.slice ad md cd,.slice a9 m9 c9]):=zz (by rw [←ee];exact HBm.out.set 1 (.slice a9 m9 c9));replace HOr9:=oxS1 HOr9 ee;replace HOd9:=oxS1 HOd9 ee;clear ee;clear hI;have qc:=kcR HP;have rc:=kc2 HBr;have zc:=kc3 HBz;have mc:=kc2 HBm;have hI:=i01_q_q_0 w q mb w8;have hZ:=i01_q_q_0 w q mb w9
        go_wp2_with (fail)
        clear qc rc zc mc
        go_roundw
        case rel=>exact ⟨ds,rs++[y],sy,gg,ad,md,cd,a9,m9,c9,hr1,HP,HF,HBr,HBz,HBm,HOd9,(zz (by rw [List.map_append];exact HOr9.out)),(fun hsy=>by have h1:leftM tsA sy≤leftM tsA st - 2:=leftM_step (ts:=tsA) (hst1.trans (ruleM_step hy1));have h2:=hlt ((ruleM_step hy1).fwd hsy).1;rw [leftM_ok HOK.out] at h1;rw [List.length_append,List.length_cons,List.length_nil];omega),(by rw [List.length_append,List.length_cons,List.length_nil];omega),by omega⟩
        case measure=>exact posM_step HP1.out HP.out _ ((hst1.trans (ruleM_step hy1)).le (by decide)) HOK.out fun hsy=>hlt ((ruleM_step hy1).fwd hsy).1
end
section
open Go.RowKit
theorem da_at {S:Nat→Prop} {w:World} {l:List Da} {a:Option Addr} {m c:Nat} (h:Mem S w (.s 5 (l.map Da.row)) (.slice a m c)) (i:Nat) (hi:i<l.length):
    ∃ b o x a1 m1 c1 a2 m2 c2,a=some ⟨b,o,none⟩∧S b∧Hid (l[i]?=some x)∧w.cell? ⟨b,o+i * 5,none⟩=some (.string x.name)∧w.cell? ⟨b,o+i * 5+1,none⟩=some (.slice a1 m1 c1)∧w.cell? ⟨b,o+i * 5+2,none⟩=some (.slice a2 m2 c2)∧w.cell? ⟨b,o+i * 5+3,none⟩=some (.int .i64 x.l)∧w.cell? ⟨b,o+i * 5+4,none⟩=some (.int .i64 x.c)∧Mem S w (.s 1 (x.vars.map strRow)) (.slice a1 m1 c1)∧Mem S w (.s 4 (x.cons.map Cn.row)) (.slice a2 m2 c2):=by
  obtain ⟨b,o,ha,hS,_,cs,h2,hc⟩:=Mem.at h i (by rw [List.length_map];exact hi);rw [List.getElem_map] at h2;obtain ⟨a1,m1,c1,a2,m2,c2,rfl,g1,g2⟩:=da_cells h2;have c0:=hc 0 (by simp);have c1':=hc 1 (by simp);have c2':=hc 2 (by simp);have c3:=hc 3 (by simp);have c4:=hc 4 (by simp);exact ⟨b,o,l[i],a1,m1,c1,a2,m2,c2,ha,hS,zz (List.getElem?_eq_getElem hi),c0,c1',c2',c3,c4,g1,g2⟩
end
section
open Go.RowKit
section
variable {ts:List Tk}
theorem itemsM_end {F g:Nat} :∀ (f:Nat) (ds:List Da) (rs:List Ru) (s:MS) (r:List Da × List Ru × MS),itemsM ts F g f ds rs s=some r→r.2.2.ok=true→r.2.2.i<ts.length
  | 0,_,_,_,_,h,_=>by rw [itemsM] at h;cases h
  | f + 1, ds, rs, s, r, h, hok => by
    rw [itemsM] at h
    split at h
    · split at h
      · obtain ⟨p,_,h2⟩:=Option.bind_eq_some_iff.1 h
        exact itemsM_end f _ _ _ _ h2 hok
      · obtain ⟨p,_,h2⟩:=Option.bind_eq_some_iff.1 h
        exact itemsM_end f _ _ _ _ h2 hok
    · rename_i hc
      cases h;replace hok:s.ok=true:=hok
      have hk:(nowT ts s.i).k=0:=by
        rw [hok] at hc
        simpa using hc
      exact now_lt (by rw [hk];decide)
end
end
end Go.Proofs.YtcoiagfeoonpbaaGreat
