/-
  module.Parse: the module of a text. No condition but sizes.
-/
import Derived.Test.YtcoiagfeoonpbaaGreatMp23
import Derived.Test.YtcoiagfeoonpbaaGreatMp13
import Derived.Test.YtcoiagfeoonpbaaGreatMp29
import Derived.Test.YtcoiagfeoonpbaaGreatMp27
set_option maxHeartbeats 20000000
set_option maxRecDepth 100000
namespace Go.Proofs.YtcoiagfeoonpbaaGreat
section
open Go.RowKit
theorem info_datM:(Tryz.prog.info? 40).map (fun i=>(i.zero,i.size,i.bytes))=some (some (.agg #[.string ⟨#[]⟩,.slice none 0 0,.slice none 0 0,.int .i64 0,.int .i64 0]),5,80):=by kernel_rfl
theorem info_rulM:(Tryz.prog.info? 62).map (fun i=>(i.zero,i.size,i.bytes))=some (some (.agg #[.string ⟨#[]⟩,.slice none 0 0,.slice none 0 0,.int .i64 0,.string ⟨#[]⟩,.int .i64 0,.slice none 0 0,.int .i64 0,.int .i64 0,.int .i64 0,.int .i64 0]),11,152):=by kernel_rfl
theorem rd_toks {B:Nat} {w:World} {a:Option Addr} {n cap:Nat} {ts:List Tok} (h:Rd B w a n cap 5 (tokVs ts)):Mem (· <B) w (.s 5 (tkRows (ts.map tkOf))) (.slice a n cap):=by
  obtain ⟨h1,h2,h3,h4⟩:=h;rw [tokVs_len] at h1
  have hn:ts.length=n:=by omega
  rcases h4 with h4 | ⟨b,o,rfl,hb,hc⟩
  · subst h4
    have :ts=[]:=List.eq_nil_of_length_eq_zero hn;subst this;exact .e a cap 5 h3
  · refine .s b o n cap 5 _ (fun i j=>((tokVs ts)[i * 5+j]?).getD undef) (by rw [tkRows_len,List.length_map];exact hn) h2 h3 hb (fun i hi=>by simp [tkRows,tkRow]) (fun i j hi hj=>?_) (fun i j hi hj=>?_)
    · have hlt:i * 5+j<(tokVs ts).length:=by rw [tokVs_len];omega
      rw [Nat.add_assoc,hc _ hlt,List.getElem?_eq_getElem hlt];rfl
    · have hi':i<ts.length:=by rw [tkRows_len,List.length_map] at hi;exact hi
      have e:(tkRows (ts.map tkOf))[i]=tkRow (tkOf ts[i]):=by simp [tkRows]
      have hj5:j<5:=by rw [e] at hj;exact hj
      have e1:∀ (l:List Tok) (i:Nat) (hi:i<l.length),(tokVs l)[i * 5+j]?=some ((tokR l[i])[j]'(by rw [tokR_len];exact hj5)):=by
        intro l
        induction l with
        | nil=>intro i hi;simp at hi
        | cons t l ih =>
          intro i hi
          have ec:tokVs (t::l)=tokR t++tokVs l:=by simp [tokVs]
          rw [ec]
          cases i with
          | zero =>
            rw [Nat.zero_mul,Nat.zero_add,List.getElem?_append_left (by rw [tokR_len];exact hj5),List.getElem?_eq_getElem (by rw [tokR_len];exact hj5)]
            rfl
          | succ i =>
            rw [List.getElem?_append_right (by rw [tokR_len];omega),tokR_len,show (i+1) * 5+j - 5=i * 5+j by omega,ih i (by simpa using hi)]
            simp
      have e2:((tkRows (ts.map tkOf))[i])[j]=(tkRow (tkOf ts[i]))[j]'(by exact hj5):=by simp only [e];rfl
      rw [e2,e1 ts i hi']
      match j,hj5 with
      | 0,_=>exact .v _ rfl
      | 1,_=>exact .v _ rfl
      | 2,_=>exact .v _ rfl
      | 3,_=>exact .v _ rfl
      | 4,_=>exact .v _ rfl
def MdAns (r:Md1) (W:World) (e:Ending) (w':World):Prop:=
  match r with
  | .ok ds rs=>∃ a m c a' m' c',e=.returned (.tuple #[.agg #[.slice a m c,.slice a' m' c'],.agg #[.int .i64 0,.int .i64 0,.int .i64 0]])∧Below W.heap.size W w'∧Mem (Nw 0 W.heap.size w'.heap.size) w' (.s 5 (ds.map Da.row)) (.slice a m c)∧Mem (Nw 0 W.heap.size w'.heap.size) w' (.s 11 (rs.map Ru.row)) (.slice a' m' c')
  | .bad k l c=>e=.returned (.tuple #[.agg #[.slice none 0 0,.slice none 0 0],.agg #[.int .i64 k,.int .i64 l,.int .i64 c]])∧Below W.heap.size W w'
theorem belQ {q B:Nat} {w a:World} (d:FarB q B w a) (f:w.heap.size≤B) (g:w.heap.size≤q):Below w.heap.size w a:=Far.toB (Far.mono d fun b e=>by rcases e with e | e <;> omega) (Nat.le_refl _)
attribute [local go_sem] tk_pos tk_kindM
theorem mparse_any (s:ByteArray) (w:World) (hs:s.size≤1000000):Calls Tryz.prog 6 #[.string s] w (MdAns (modE s) w):=by
 obtain ⟨rp,b8⟩:∃ rp,modE s=rp:=⟨_,rfl⟩;rw [b8];have b0:=zz b8;clear b8;have f:Hid (FarB w.heap.size w.heap.size w w):=zz (FarB.refl _ _ _);go_enter Tryz.func6,Tryz.ntmps6;go_upto_region 1 with (fail);generalize a:World.alloc w _=bq;have b6:=sizeA a;replace f:=fA f a;have g:=nB a (w.heap.size);clear a;generalize a:World.alloc bq _=w1;have b7:=sizeA a;replace f:=fA f a;replace g:=bA g a;have j:=nB a (w.heap.size+1);clear a
 have c7:w1.heap.size=w.heap.size+2:=by omega
 clear b6 b7
 go_wp2_with (fail)
 refine (scan_own s _ hs).mono ?_;rintro _ w2 ⟨a0,n0,b4,rfl,E,hR,hO⟩;replace g:=kB g E;replace j:=kB j E;replace f:=kF f E;have c0:=E.size;clear E;have HR:=zz hR;clear hO hR;obtain ⟨ke,le,ce,al,b1⟩:∃ ke le ce al,lexes s=(ke,le,ce,al):=⟨_,_,_,_,rfl⟩;have bf:=lexes_len s;rw [b1] at HR bf;rw [b1];simp only at HR bf ⊢;have an:=zz b1;clear b1;obtain ⟨T0,aj⟩:∃ k,k=w2.heap.size:=⟨_,rfl⟩
 have bx:al.length=n0:=by have h1:=(rd_toks HR.out).len.1;rw [tkRows_len,List.length_map] at h1;exact h1
 have ac:Hid (Mem (NwS (Bt 0 T0) w2.heap.size) w2 (.s 5 (tkRows (al.map tkOf))) (.slice a0 n0 b4)):=zz ((rd_toks HR.out).mono (fun b E=>⟨⟨Nat.zero_le _,by omega⟩,E⟩) fun _ _=>rfl);clear HR;go_upto_region 2 with (fail);generalize a:World.alloc w2 _=w3;have c8:=sizeA a;replace f:=fA f a;replace g:=bA g a;replace j:=bA j a;replace ac:=yA ac a;have b3:=nB a (w2.heap.size);clear a;have rc:=kc2 g;have fc:=kc3 b3
 by_cases ak:ke=0
 rotate_left
 ·
  have e0:(ke != 0)=true:=by simp [ak]
  have bm:rp=.bad ke le ce:=by rw [←b0.out,modE,an.out,if_neg ak]
  clear ak ac;subst bm
  go_wp2_with (fail)
  refine wp_region_held_drew (S:=fun w'=>Far (fun b=>b=w.heap.size∨b=(w.heap.size+1)) (w3) w') (by kernel_rfl) (Far.of (below_drew _)) (fun bb=>?_);refine takeA 0 (v:=?_) rfl ?_ ?_;rotate_left
  · (intro w D;replace fc:=Far.c3z fc D;go_simp;try rfl)
  (try simp only [pu]);refine takeA 1 (v:=?_) rfl ?_ ?_;rotate_left
  · (intro w D;replace fc:=Far.c3z fc D;go_simp;try rfl)
  (try simp only [pu]);refine callA 2 rfl fun K d=>?_;go_simp;refine d.out _ _ ?_ (fun ap=>?_);· exact (by refine Far.trans ?_ (Far.of (below_drew _));(iterate 2 (refine Far.setCell (p:=⟨w.heap.size,_,none⟩) ?_ (.inl rfl) _));exact Far.refl _ _)
  clear d K;clear rc fc;generalize a:((w3.setCell ⟨w.heap.size,0,none⟩ (.slice none 0 0)).setCell ⟨w.heap.size,1,none⟩ (.slice none 0 0))=ba at *;replace f:=fN2 f a;replace g:=bS2 g a;replace j:=bF2 j a;clear a;generalize a:(ba.drew)=w4 at *;replace f:=fD f a;replace g:=bD g a;replace j:=bD j a;clear a;have zc:=kc3 j;refine callA 3 rfl fun K d=>?_;go_simp;refine d.out _ _ ?_ (fun bc=>?_);· exact (by (iterate 3 (refine Far.setCell (p:=⟨(w.heap.size+1),_,none⟩) ?_ (.inr rfl) _));exact ap)
  clear d K;refine wpAnyH_done (by kernel_rfl) ?_ _;clear zc;generalize a:World.setCell _ ⟨(w.heap.size+1),2,none⟩ _=w5;replace f:=fN3 f a;replace g:=bF3 g a;replace j:=bS3 j a;clear a
  go_wp2_with (fail)
  have fr:=kc2 g;have fz:=kc3 j;refine bodyPost_ret (v:=.tuple #[.agg #[.slice none 0 0,.slice none 0 0],.agg #[.int .i64 ke,.int .i64 le,.int .i64 ce]]) (by clear f b0 g j b3;simp [results,Tryz.results6,go_sem,fr,fz]) rfl ?_;exact ⟨rfl,belQ f.out (Nat.le_refl _) (Nat.le_refl _)⟩
 have bd:(lexes s).1=0:=by rw [an.out];exact ak
 have cb:al.length≤1048576:=by
  by_cases h4:4096<s.size
  · have h5:=an.out;rw [lexes_long s h4] at h5;cases h5;cases ak
  · omega
 subst ak;obtain ⟨C,b9⟩:∃ ts,al.map tkOf=ts:=⟨_,rfl⟩
 have bi:toksA s=C:=by unfold toksA;rw [an.out];exact b9
 obtain ⟨⟨dz,rz,sz⟩,hV⟩:=itemsA_some C
 have ag:rp=endM (dz,rz,sz):=by rw [←b0.out,modE,if_pos bd,bi,hV]
 clear b0 an bi bd
 go_wp2_with (fail)
 clear rc fc;generalize a:World.alloc w3 _=ba;have b6:=sizeA a;replace f:=fA f a;replace g:=bA g a;replace j:=bA j a;replace ac:=yA ac a;have am:=nB a (w2.heap.size+1);clear a;generalize a:World.alloc ba _=w4;have b7:=sizeA a;replace f:=fA f a;replace g:=bA g a;replace j:=bA j a;replace am:=bA am a;replace ac:=yA ac a;have r:=nB a (w2.heap.size+2);clear a
 have ca:w4.heap.size=w2.heap.size+3:=by omega
 clear b6 b7;obtain ⟨q,hq⟩:∃ q,q=w2.heap.size+1:=⟨_,rfl⟩;rw [←hq] at am ⊢
 have o:Hid (RS C a0 n0 b4 q ⟨0,none⟩ ((0:Nat):Int) w4):=by
  refine zz ⟨am.out,?_,by omega⟩;rw [←b9]
  exact ac.out.mono (fun b E=>by have :=E.1.2;omega) fun _ _=>rfl
 have bu:=o.out.len;clear am ac b3 b9
 replace f:Hid (FarB q w.heap.size w w4):=zz (Far.mono f.out fun b e=>.inr (by rcases e with e | e <;> omega))
 have bl:w.heap.size+1<q∧q<(w2.heap.size+2)∧(w2.heap.size+2)<w4.heap.size:=by omega
 obtain ⟨H,bg⟩:∃ b,b=q+1:=⟨_,rfl⟩
 have bh:w2.heap.size+2=H:=by omega
 rw [bh] at r bl;rw [←bg]
 have bw:H≤q+1∧q+1≤H:=by omega
 have bz:q≤w2.heap.size+1∧w2.heap.size+1≤q:=by omega
 clear bg bh hq;generalize br:w4.heap.size=B0 at *
 go_loopw [] (fun wr=>∃ (ds:List Da) (rs:List Ru) (T:MS) (gg:Nat) (ad:Option Addr) (md cd:Nat) (ar:Option Addr) (mr cr:Nat),itemsM C (fuF C) (fuG C) gg ds rs T=some (dz,rz,sz)∧Hid (RS C a0 n0 b4 q T ((0:Nat):Int) wr)∧Hid (FarB q w.heap.size w wr)∧Hid (Bo wr w.heap.size 26 #[.slice none 0 0,.slice none 0 0])∧Hid (Bo wr ((w.heap.size+1)) 31 #[.int .i64 0,.int .i64 0,.int .i64 0])∧Hid (Bo wr H 26 #[.slice ad md cd,.slice ar mr cr])∧Hid (OwnX (Value.slice ar mr cr).ownBlock B0 40 5 wr (.slice ad md cd) (ds.map Da.row))∧Hid (OwnX (Value.slice ad md cd).ownBlock B0 62 11 wr (.slice ar mr cr) (rs.map Ru.row))∧(T.ok=true→ds.length+rs.length+leftM C T≤C.length)∧ds.length+rs.length≤C.length+1∧B0≤wr.heap.size) (fun wr=>posM C.length q wr)
 case atStart=>exact ⟨[],[],_,_,none,0,0,none,0,0,hV,o,f,g,j,r,zz (OwnX.nil _ _ _ _ _),zz (OwnX.nil _ _ _ _ _),(fun _=>by have :=leftM_le (ts:=C) ⟨0,none⟩;simp only [List.length_nil];omega),by simp,by omega⟩
 case round=>
  clear o f g j r hV;obtain ⟨ds,rs,T,gg,ad,md,cd,ar,mr,cr,N,o,f,g,j,r,z,A,be,bt,cc⟩:=hrel;have af:=o
  go_wp2_with (fail)
  refine (mok_any _ o.out).mono ?_;rintro _ _ ⟨rfl,rfl⟩
  cases gg with
  | zero=>rw [itemsM] at N;cases N
  | succ gg=>
   rw [itemsM] at N
   cases hok:T.ok with
   | false=>
    rw [if_neg (by rw [hok];simp)] at N
    go_wp2_with (fail)
    cases N;obtain ⟨T0,aj⟩:∃ k,k=wr.heap.size:=⟨_,rfl⟩;have Z:Hid (Mem (NwS (Bt B0 T0) wr.heap.size) wr (.s 5 (dz.map Da.row)) (.slice ad md cd)):=zz (by rw [aj];exact memS_bt z.out.mem (by omega));have a1:Hid (Mem (NwS (Bt B0 T0) wr.heap.size) wr (.s 11 (rz.map Ru.row)) (.slice ar mr cr)):=zz (by rw [aj];exact memS_bt A.out.mem (by omega));clear z A af;have I:=kcR o;have rc:=kc2 g;have zc:=kc3 j;have F:=kc2 r
    go_wp2_with (fail)
    refine (mok_any _ o.out).mono ?_;rintro _ _ ⟨rfl,rfl⟩
    cases hso:sz.ok with
    | false=>
     have ai:rp=.bad (eB sz.b) (lB sz.b) (cB sz.b):=by
      rw [ag];unfold endM
      show (match sz.b with | none=>_ | some p=>_)=_
      cases E:sz.b with
      | none=>unfold MS.ok at hso;rw [E] at hso;cases hso
      | some p=>rfl
     clear ag;subst ai
     go_wp2_with (fail)
     refine wp_region_held_drew (S:=fun w'=>Far (fun b=>b=w.heap.size∨b=(w.heap.size+1)) (wr) w') (by kernel_rfl) (Far.of (below_drew _)) (fun bb=>?_);refine takeA 0 (v:=?_) rfl ?_ ?_;rotate_left
     · (intro w D;replace I:=Far.c6z I D;go_simp;try rfl)
     (try simp only [pu]);refine takeA 1 (v:=?_) rfl ?_ ?_;rotate_left
     · (intro w D;replace I:=Far.c6z I D;go_simp;try rfl)
     (try simp only [pu]);refine takeA 2 (v:=?_) rfl ?_ ?_;rotate_left
     · (intro w D;replace I:=Far.c6z I D;go_simp;try rfl)
     (try simp only [pu]);refine takeA 3 (v:=?_) rfl ?_ ?_;rotate_left
     · (intro w D;replace I:=Far.c6z I D;go_simp;try rfl)
     (try simp only [pu]);refine takeA 4 (v:=?_) rfl ?_ ?_;rotate_left
     · (intro w D;replace I:=Far.c6z I D;go_simp;try rfl)
     (try simp only [pu]);clear o;refine callA 5 rfl fun K d=>?_;go_simp;refine d.out _ _ ?_ (fun ap=>?_);· exact (by refine Far.trans ?_ (Far.of (below_drew _));(iterate 2 (refine Far.setCell (p:=⟨w.heap.size,_,none⟩) ?_ (.inl rfl) _));exact Far.refl _ _)
     clear d K;clear I rc zc F;generalize a:((wr.setCell ⟨w.heap.size,0,none⟩ (.slice none 0 0)).setCell ⟨w.heap.size,1,none⟩ (.slice none 0 0))=bj at *;replace f:=fN2 f a;replace g:=bS2 g a;replace j:=bF2 j a;clear a;generalize a:(bj.drew)=w5 at *;replace f:=fD f a;replace g:=bD g a;replace j:=bD j a;clear a;have zc:=kc3 j;refine callA 6 rfl fun K d=>?_;go_simp;refine d.out _ _ ?_ (fun bc=>?_);· exact (by (iterate 3 (refine Far.setCell (p:=⟨(w.heap.size+1),_,none⟩) ?_ (.inr rfl) _));exact ap)
     clear d K;refine wpAnyH_done (by kernel_rfl) ?_ _;clear zc;generalize a:World.setCell _ ⟨(w.heap.size+1),2,none⟩ _=w6;replace f:=fN3 f a;replace g:=bF3 g a;replace j:=bS3 j a;clear a
     go_wp2_with (fail)
     have fr:=kc2 g;have fz:=kc3 j;refine bodyPost_ret (v:=.tuple #[.agg #[.slice none 0 0,.slice none 0 0],.agg #[.int .i64 (eB sz.b),.int .i64 (lB sz.b),.int .i64 (cB sz.b)]]) (by clear f g j r Z a1;simp [results,Tryz.results6,go_sem,fr,fz]) rfl ?_;exact ⟨rfl,belQ f.out (by omega) (by omega)⟩
    | true=>
     have E:sz.b=none:=Option.isNone_iff_eq_none.1 hso
     have ai:rp=.ok dz rz:=by rw [ag];unfold endM;show (match sz.b with | none=>_ | some p=>_)=_;rw [E]
     clear ag;subst ai
     go_wp2_with (fail)
     clear I rc zc F;clear o;generalize a:World.setCell _ ⟨w.heap.size,1,none⟩ _=bj;replace f:=fN2 f a;replace g:=bS2 g a;replace j:=bF2 j a;replace Z:=yS2 Z a;replace a1:=yS2 a1 a;clear a;generalize a:World.setCell _ ⟨(w.heap.size+1),2,none⟩ _=w5;replace f:=fN3 f a;replace g:=bF3 g a;replace j:=bS3 j a;replace Z:=yS3 Z a;replace a1:=yS3 a1 a;clear a
     go_wp2_with (fail)
     have fr:=kc2 g;have fz:=kc3 j;refine bodyPost_ret (v:=.tuple #[.agg #[.slice ad md cd,.slice ar mr cr],.agg #[.int .i64 0,.int .i64 0,.int .i64 0]]) (by clear f g j r Z a1;simp [results,Tryz.results6,go_sem,fr,fz]) rfl ?_;exact ⟨_,_,_,_,_,_,rfl,belQ f.out (by omega) (by omega),memS_nw Z.out (fun b E=>Nat.le_trans (by omega) E.1),memS_nw a1.out (fun b E=>Nat.le_trans (by omega) E.1)⟩
   | true=>
    go_wp2_with (fail)
    refine (mnow_any _ o.out.bo o.out.mem).mono ?_;rintro _ w5 ⟨rfl,E⟩;have m:=FarQ.of (q:=q) E;replace g:=qB g m;replace j:=qB j m;replace r:=qB r m;replace z:=qxO z m;replace A:=qxO A m;replace f:=qF f m;have c1:=m.size;replace o:=krP o E;clear m E;simp only [tkV]
    cases t:((nowT C T.i).k != 0) with
    | false=>
     have aq:(nowT C T.i).k=0:=by simpa using t
     rw [if_neg (by rw [hok,aq];decide)] at N;clear aq
     go_wp2_with (fail)
     cases N;obtain ⟨T0,aj⟩:∃ k,k=w5.heap.size:=⟨_,rfl⟩;have Z:Hid (Mem (NwS (Bt B0 T0) w5.heap.size) w5 (.s 5 (dz.map Da.row)) (.slice ad md cd)):=zz (by rw [aj];exact memS_bt z.out.mem (by omega));have a1:Hid (Mem (NwS (Bt B0 T0) w5.heap.size) w5 (.s 11 (rz.map Ru.row)) (.slice ar mr cr)):=zz (by rw [aj];exact memS_bt A.out.mem (by omega));clear z A af;have I:=kcR o;have rc:=kc2 g;have zc:=kc3 j;have F:=kc2 r;have hI:=i01_q_q_0 w q H w5
     go_wp2_with (fail)
     refine (mok_any _ o.out).mono ?_;rintro _ _ ⟨rfl,rfl⟩
     cases hso:sz.ok with
     | false=>
      have ai:rp=.bad (eB sz.b) (lB sz.b) (cB sz.b):=by
       rw [ag];unfold endM
       show (match sz.b with | none=>_ | some p=>_)=_
       cases E:sz.b with
       | none=>unfold MS.ok at hso;rw [E] at hso;cases hso
       | some p=>rfl
      clear ag;subst ai
      go_wp2_with (fail)
      refine wp_region_held_drew (S:=fun w'=>Far (fun b=>b=w.heap.size∨b=(w.heap.size+1)) (w5) w') (by kernel_rfl) (Far.of (below_drew _)) (fun bb=>?_);refine takeA 0 (v:=?_) rfl ?_ ?_;rotate_left
      · (intro w D;replace I:=Far.c6z I D;go_simp;try rfl)
      (try simp only [pu]);refine takeA 1 (v:=?_) rfl ?_ ?_;rotate_left
      · (intro w D;replace I:=Far.c6z I D;go_simp;try rfl)
      (try simp only [pu]);refine takeA 2 (v:=?_) rfl ?_ ?_;rotate_left
      · (intro w D;replace I:=Far.c6z I D;go_simp;try rfl)
      (try simp only [pu]);refine takeA 3 (v:=?_) rfl ?_ ?_;rotate_left
      · (intro w D;replace I:=Far.c6z I D;go_simp;try rfl)
      (try simp only [pu]);refine takeA 4 (v:=?_) rfl ?_ ?_;rotate_left
      · (intro w D;replace I:=Far.c6z I D;go_simp;try rfl)
      (try simp only [pu]);clear o;refine callA 5 rfl fun K d=>?_;go_simp;refine d.out _ _ ?_ (fun ap=>?_);· exact (by refine Far.trans ?_ (Far.of (below_drew _));(iterate 2 (refine Far.setCell (p:=⟨w.heap.size,_,none⟩) ?_ (.inl rfl) _));exact Far.refl _ _)
      clear d K;clear I rc zc F;generalize a:((w5.setCell ⟨w.heap.size,0,none⟩ (.slice none 0 0)).setCell ⟨w.heap.size,1,none⟩ (.slice none 0 0))=bk at *;replace f:=fN2 f a;replace g:=bS2 g a;replace j:=bF2 j a;clear a;generalize a:(bk.drew)=w6 at *;replace f:=fD f a;replace g:=bD g a;replace j:=bD j a;clear a;clear hI;have zc:=kc3 j;refine callA 6 rfl fun K d=>?_;go_simp;refine d.out _ _ ?_ (fun bc=>?_);· exact (by (iterate 3 (refine Far.setCell (p:=⟨(w.heap.size+1),_,none⟩) ?_ (.inr rfl) _));exact ap)
      clear d K;refine wpAnyH_done (by kernel_rfl) ?_ _;clear zc;generalize a:World.setCell _ ⟨(w.heap.size+1),2,none⟩ _=Q;replace f:=fN3 f a;replace g:=bF3 g a;replace j:=bS3 j a;clear a
      go_wp2_with (fail)
      have fr:=kc2 g;have fz:=kc3 j;refine bodyPost_ret (v:=.tuple #[.agg #[.slice none 0 0,.slice none 0 0],.agg #[.int .i64 (eB sz.b),.int .i64 (lB sz.b),.int .i64 (cB sz.b)]]) (by clear f g j r Z a1;simp [results,Tryz.results6,go_sem,fr,fz]) rfl ?_;exact ⟨rfl,belQ f.out (by omega) (by omega)⟩
     | true=>
      have E:sz.b=none:=Option.isNone_iff_eq_none.1 hso
      have ai:rp=.ok dz rz:=by rw [ag];unfold endM;show (match sz.b with | none=>_ | some p=>_)=_;rw [E]
      clear ag;subst ai
      go_wp2_with (fail)
      clear I rc zc F;clear o;generalize a:World.setCell _ ⟨w.heap.size,1,none⟩ _=bk;replace f:=fN2 f a;replace g:=bS2 g a;replace j:=bF2 j a;replace Z:=yS2 Z a;replace a1:=yS2 a1 a;clear a;generalize a:World.setCell _ ⟨(w.heap.size+1),2,none⟩ _=w6;replace f:=fN3 f a;replace g:=bF3 g a;replace j:=bS3 j a;replace Z:=yS3 Z a;replace a1:=yS3 a1 a;clear a;clear hI
      go_wp2_with (fail)
      have fr:=kc2 g;have fz:=kc3 j;refine bodyPost_ret (v:=.tuple #[.agg #[.slice ad md cd,.slice ar mr cr],.agg #[.int .i64 0,.int .i64 0,.int .i64 0]]) (by clear f g j r Z a1;simp [results,Tryz.results6,go_sem,fr,fz]) rfl ?_;exact ⟨_,_,_,_,_,_,rfl,belQ f.out (by omega) (by omega),memS_nw Z.out (fun b E=>Nat.le_trans (by omega) E.1),memS_nw a1.out (fun b E=>Nat.le_trans (by omega) E.1)⟩
    | true=>
     have aq:(nowT C T.i).k≠0:=by simpa using t
     rw [if_pos (by rw [hok,decide_eq_false aq];rfl)] at N;have a2:=zz hok
     have bs:ds.length+rs.length+(C.length - T.i)≤C.length:=by have h:=be hok;rw [leftM_ok hok] at h;exact h
     have bv:ds.length+rs.length+1≤1048577:=by omega
     clear hok aq be
     go_wp2_with (fail)
     refine (mtake_any 1 ⟨#[]⟩ _ o.out (by decide)).mono ?_;rintro _ w6 ⟨rfl,m,hp⟩;replace g:=qB g m;replace j:=qB j m;replace r:=qB r m;replace z:=qxO z m;replace A:=qxO A m;replace f:=qF f m;have c2:=m.size;replace o:=zz hp;clear m hp
     go_wp2_with (fail)
     refine (mis_any 5 wData _ o.out).mono ?_;rintro _ Q ⟨rfl,E⟩;have m:=FarQ.of (q:=q) E;replace g:=qB g m;replace j:=qB j m;replace r:=qB r m;replace z:=qxO z m;replace A:=qxO A m;replace f:=qF f m;have c6:=m.size;replace o:=krP o E;clear m E;obtain ⟨s1,b2⟩:∃ s1,takeS C T 1 ⟨#[]⟩=s1:=⟨_,rfl⟩;have a4:Step 1 T s1:=b2 ▸ step_take T
     have a3:s1.ok=true→T.i<C.length:=fun h=>by
      rw [←b2] at h;unfold takeS at h
      split at h
      · rename_i hi;exact isT_lt (isS_parts hi).2 (by decide)
      · rw [fail_notok] at h;cases h
     rw [b2] at N o ⊢;clear b2 t
     cases hd:isS C s1 5 wData with
     | true=>
      rw [hd] at N;rw [if_pos rfl] at N;obtain ⟨Y,G,N⟩:=Option.bind_eq_some_iff.1 N;obtain ⟨y,sy⟩:=Y;go_upto_region 9 with (fail);have F:=kc2 r;have hI:=i01_q_q_0 w q H Q;refine wp_region_held_drew (S:=fun w'=>Far (fun b=>b=q∨b=H∨(Value.slice ad md cd).ownBlock=some b) (Q) w') (by kernel_rfl) (Far.of (below_drew _)) (fun b5=>?_);refine takeA 0 (v:=?_) rfl ?_ ?_;rotate_left
      · (intro w D;go_simp;try rfl)
      (try simp only [pu]);refine takeA 2 (v:=?_) rfl ?_ ?_;rotate_left
      · (intro w D;go_simp;try rfl)
      (try simp only [pu]);refine twoL 1 3 rfl rfl (by kernel_rfl) (by rfl) (by rfl) (fun K d=>?_) (fun K d=>?_)
      ·
       go_simp;refine d.out _ _ ?_ (fun ah=>?_);· exact b5
       clear d K;refine callA 3 rfl fun K d=>?_;clear F;have W:=z;have X:=A;go_simp;refine (data_any _ G o.out.drew).mono ?_;rintro e ae ⟨ay,my,cy,az,mz,cz,rfl,m,hp,hm,a8⟩;replace m:FarQ q Q ae:=(FarQ.of (below_drew _)).trans m;have bp:Q.heap.size≤ae.heap.size:=m.size;replace g:=qB g m;replace j:=qB j m;replace r:=qB r m;replace z:=qxO z m;replace A:=qxO A m;replace f:=qF f m;replace o:=zz hp;have aa:Hid (Mem (Nw 0 Q.heap.size _) _ _ _):=zz hm;have ab:Hid (Mem (Nw 0 Q.heap.size _) _ _ _):=zz a8;clear hm a8;simp only [daV];go_simp;refine d.out _ _ ?_ (fun a5=>?_);· exact Far.mono m (fun b e=>.inl e)
       clear d K hp m;refine callA 4 rfl fun K d=>?_;go_simp;refine d.out _ _ ?_ (fun a6=>?_);· exact Far.trans a5 (Far.of (below_new _ _))
       clear d K;refine callA 5 rfl fun K d=>?_
       have U:∀ k,_=some k→k<ae.heap.size:=fun k t=>(A.out.lt k t).2
       refine wp_append_S _ _ (by rfl) Tryz.underlying23 info_datM rfl (by decide) (by rfl) (by rfl) (z.out.alloc _).ow (by simp) (row_appX W.out (fun k t=>(X.out.lt k t).2) (by omega) (by omega) (da_mem (x:=y) aa.out ab.out) rfl) (by simp only [List.length_map,List.length_cons,List.length_nil];omega) (by simp only [List.length_map,List.length_cons,List.length_nil];omega) (by rw [World.size_alloc];omega) (fun v9 R M u P=>?_);obtain ⟨a9,m9,c9,rfl⟩:=mem_slice M.mem;refine d.out _ _ ?_ (fun a7=>?_);· exact Far.trans a6 ((grownFar u).mono (fun b e=>.inr (.inr e)))
       clear d K
       have av:ae.heap.size+1≤R.heap.size:=by have h:=u.size;rw [World.size_alloc] at h;exact h
       have B:∀ k,(Value.slice ad md cd).ownBlock=some k→B0≤k:=fun k t=>(z.out.lt k t).1
       replace o:=zz ((o.out.alloc _).grown u fun k t=>by have :=B k t;omega)
       replace f:=gFx f u B;replace g:=gOx g u B;replace j:=gOx j u B;replace r:=gOx r u B;have J:=zz ((z.out.alloc _).app M (fun k t=>Nat.lt_of_lt_of_le (U k t) (by rw [World.size_alloc];omega)) P);have L:=zz ((A.out.alloc _).other2 u P);clear M u B W X P U z A;refine takeA 6 (v:=?_) rfl ?_ ?_;rotate_left
       · (intro w D;go_simp;try rfl)
       (try simp only [pu]);refine callA 7 rfl fun K d=>?_;have F:=kc2 r;go_simp;refine d.out _ _ ?_ (fun ao=>?_);· exact Far.setCell a7 (.inr (.inl rfl)) _
       clear d K;refine wpAnyH_done (by kernel_rfl) ?_ _;clear F;generalize a:World.setCell R _ _=w8;have aw:=sizeS1 a;replace o:=rpO1 o a;replace f:=fN1 f a;replace g:=bF1 g a;replace j:=bF1 j a;replace r:=s2_0 r a;replace J:=oxS1 J a;replace L:=oxS1 L a;clear a;have hI:=i01_q_q_0 w q H w8;have hZ:=i01_q_q_0 w q H R
       go_wp2_with (fail)
       go_roundw
       case rel=>exact ⟨ds++[y],rs,sy,gg,a9,m9,c9,ar,mr,cr,N,o,f,g,j,r,(zz (by rw [List.map_append];exact J.out)),L,(fun O=>by have h1:leftM C sy≤leftM C T - 2:=leftM_step (ts:=C) (a4.trans (dataM_step G));have h2:=a3 ((dataM_step G).fwd O).1;rw [leftM_ok a2.out] at h1;rw [List.length_append,List.length_cons,List.length_nil];omega),(by rw [List.length_append,List.length_cons,List.length_nil];omega),by omega⟩
       case measure=>exact posM_step af.out o.out _ ((a4.trans (dataM_step G)).le (by decide)) a2.out fun O=>a3 ((dataM_step G).fwd O).1
      ·
       clear F;have W:=z;have X:=A;go_simp;refine (data_any _ G o.out.drew).mono ?_;rintro e V ⟨ay,my,cy,az,mz,cz,rfl,m,hp,hm,a8⟩;replace m:FarQ q Q V:=(FarQ.of (below_drew _)).trans m;have bn:Q.heap.size≤V.heap.size:=m.size;replace g:=qB g m;replace j:=qB j m;replace r:=qB r m;replace z:=qxO z m;replace A:=qxO A m;replace f:=qF f m;replace o:=zz hp;have aa:Hid (Mem (Nw 0 Q.heap.size _) _ _ _):=zz hm;have ab:Hid (Mem (Nw 0 Q.heap.size _) _ _ _):=zz a8;clear hm a8;simp only [daV];go_simp;refine d.out _ _ ?_ (fun ah=>?_);· exact Far.mono m (fun b e=>.inl e)
       clear d K hp m;refine twoL 1 4 rfl rfl (by kernel_rfl) (by rfl) (by rfl) (fun K d=>?_) (fun K d=>?_)
       ·
        have F:=kc2 r;have hI:=i01_q_q_0 w q H V;go_simp;refine d.out _ _ ?_ (fun a5=>?_);· exact ah
        clear d K;clear F;refine callA 4 rfl fun K d=>?_;go_simp;refine d.out _ _ ?_ (fun a6=>?_);· exact Far.trans a5 (Far.of (below_new _ _))
        clear d K;refine callA 5 rfl fun K d=>?_
        have U:∀ k,_=some k→k<V.heap.size:=fun k t=>(A.out.lt k t).2
        refine wp_append_S _ _ (by rfl) Tryz.underlying23 info_datM rfl (by decide) (by rfl) (by rfl) (z.out.alloc _).ow (by simp) (row_appX W.out (fun k t=>(X.out.lt k t).2) (by omega) (by omega) (da_mem (x:=y) aa.out ab.out) rfl) (by simp only [List.length_map,List.length_cons,List.length_nil];omega) (by simp only [List.length_map,List.length_cons,List.length_nil];omega) (by rw [World.size_alloc];omega) (fun v9 R M u P=>?_);obtain ⟨a9,m9,c9,rfl⟩:=mem_slice M.mem;refine d.out _ _ ?_ (fun a7=>?_);· exact Far.trans a6 ((grownFar u).mono (fun b e=>.inr (.inr e)))
        clear d K
        have av:V.heap.size+1≤R.heap.size:=by have h:=u.size;rw [World.size_alloc] at h;exact h
        have B:∀ k,(Value.slice ad md cd).ownBlock=some k→B0≤k:=fun k t=>(z.out.lt k t).1
        replace o:=zz ((o.out.alloc _).grown u fun k t=>by have :=B k t;omega)
        replace f:=gFx f u B;replace g:=gOx g u B;replace j:=gOx j u B;replace r:=gOx r u B;have J:=zz ((z.out.alloc _).app M (fun k t=>Nat.lt_of_lt_of_le (U k t) (by rw [World.size_alloc];omega)) P);have L:=zz ((A.out.alloc _).other2 u P);clear M u B W X P U z A;refine takeA 6 (v:=?_) rfl ?_ ?_;rotate_left
        · (intro w D;go_simp;try rfl)
        (try simp only [pu]);refine callA 7 rfl fun K d=>?_;have F:=kc2 r;go_simp;refine d.out _ _ ?_ (fun ao=>?_);· exact Far.setCell a7 (.inr (.inl rfl)) _
        clear d K;refine wpAnyH_done (by kernel_rfl) ?_ _;clear F;generalize a:World.setCell R _ _=w8;have aw:=sizeS1 a;replace o:=rpO1 o a;replace f:=fN1 f a;replace g:=bF1 g a;replace j:=bF1 j a;replace r:=s2_0 r a;replace J:=oxS1 J a;replace L:=oxS1 L a;clear a;have hI:=i01_q_q_0 w q H w8;have hZ:=i01_q_q_0 w q H R
        go_wp2_with (fail)
        go_roundw
        case rel=>exact ⟨ds++[y],rs,sy,gg,a9,m9,c9,ar,mr,cr,N,o,f,g,j,r,(zz (by rw [List.map_append];exact J.out)),L,(fun O=>by have h1:leftM C sy≤leftM C T - 2:=leftM_step (ts:=C) (a4.trans (dataM_step G));have h2:=a3 ((dataM_step G).fwd O).1;rw [leftM_ok a2.out] at h1;rw [List.length_append,List.length_cons,List.length_nil];omega),(by rw [List.length_append,List.length_cons,List.length_nil];omega),by omega⟩
        case measure=>exact posM_step af.out o.out _ ((a4.trans (dataM_step G)).le (by decide)) a2.out fun O=>a3 ((dataM_step G).fwd O).1
       ·
        go_simp;refine d.out _ _ ?_ (fun a5=>?_);· exact Far.trans ah (Far.of (below_new _ _))
        clear d K;have F:=kc2 r;have hI:=i01_q_q_0 w q H V;refine callA 1 rfl fun K d=>?_;go_simp;refine d.out _ _ ?_ (fun a6=>?_);· exact a5
        clear d K;clear F;refine callA 5 rfl fun K d=>?_
        have U:∀ k,_=some k→k<V.heap.size:=fun k t=>(A.out.lt k t).2
        refine wp_append_S _ _ (by rfl) Tryz.underlying23 info_datM rfl (by decide) (by rfl) (by rfl) (z.out.alloc _).ow (by simp) (row_appX W.out (fun k t=>(X.out.lt k t).2) (by omega) (by omega) (da_mem (x:=y) aa.out ab.out) rfl) (by simp only [List.length_map,List.length_cons,List.length_nil];omega) (by simp only [List.length_map,List.length_cons,List.length_nil];omega) (by rw [World.size_alloc];omega) (fun v9 R M u P=>?_);obtain ⟨a9,m9,c9,rfl⟩:=mem_slice M.mem;refine d.out _ _ ?_ (fun a7=>?_);· exact Far.trans a6 ((grownFar u).mono (fun b e=>.inr (.inr e)))
        clear d K
        have av:V.heap.size+1≤R.heap.size:=by have h:=u.size;rw [World.size_alloc] at h;exact h
        have B:∀ k,(Value.slice ad md cd).ownBlock=some k→B0≤k:=fun k t=>(z.out.lt k t).1
        replace o:=zz ((o.out.alloc _).grown u fun k t=>by have :=B k t;omega)
        replace f:=gFx f u B;replace g:=gOx g u B;replace j:=gOx j u B;replace r:=gOx r u B;have J:=zz ((z.out.alloc _).app M (fun k t=>Nat.lt_of_lt_of_le (U k t) (by rw [World.size_alloc];omega)) P);have L:=zz ((A.out.alloc _).other2 u P);clear M u B W X P U z A;refine takeA 6 (v:=?_) rfl ?_ ?_;rotate_left
        · (intro w D;go_simp;try rfl)
        (try simp only [pu]);refine callA 7 rfl fun K d=>?_;have F:=kc2 r;go_simp;refine d.out _ _ ?_ (fun ao=>?_);· exact Far.setCell a7 (.inr (.inl rfl)) _
        clear d K;refine wpAnyH_done (by kernel_rfl) ?_ _;clear F;generalize a:World.setCell R _ _=w8;have aw:=sizeS1 a;replace o:=rpO1 o a;replace f:=fN1 f a;replace g:=bF1 g a;replace j:=bF1 j a;replace r:=s2_0 r a;replace J:=oxS1 J a;replace L:=oxS1 L a;clear a;have hI:=i01_q_q_0 w q H w8;have hZ:=i01_q_q_0 w q H R
        go_wp2_with (fail)
        go_roundw
        case rel=>exact ⟨ds++[y],rs,sy,gg,a9,m9,c9,ar,mr,cr,N,o,f,g,j,r,(zz (by rw [List.map_append];exact J.out)),L,(fun O=>by have h1:leftM C sy≤leftM C T - 2:=leftM_step (ts:=C) (a4.trans (dataM_step G));have h2:=a3 ((dataM_step G).fwd O).1;rw [leftM_ok a2.out] at h1;rw [List.length_append,List.length_cons,List.length_nil];omega),(by rw [List.length_append,List.length_cons,List.length_nil];omega),by omega⟩
        case measure=>exact posM_step af.out o.out _ ((a4.trans (dataM_step G)).le (by decide)) a2.out fun O=>a3 ((dataM_step G).fwd O).1
     | false=>
      rw [hd] at N;rw [if_neg (by decide)] at N;obtain ⟨Y,G,N⟩:=Option.bind_eq_some_iff.1 N;obtain ⟨y,sy⟩:=Y;go_upto_region 10 with (fail);have F:=kc2 r;have hI:=i01_q_q_0 w q H Q;refine wp_region_held_drew (S:=fun w'=>Far (fun b=>b=q∨b=H∨(Value.slice ar mr cr).ownBlock=some b) (Q) w') (by kernel_rfl) (Far.of (below_drew _)) (fun b5=>?_);refine takeA 0 (v:=?_) rfl ?_ ?_;rotate_left
      · (intro w D;go_simp;try rfl)
      (try simp only [pu]);refine takeA 2 (v:=?_) rfl ?_ ?_;rotate_left
      · (intro w D;go_simp;try rfl)
      (try simp only [pu]);refine twoL 1 3 rfl rfl (by kernel_rfl) (by rfl) (by rfl) (fun K d=>?_) (fun K d=>?_)
      ·
       go_simp;refine d.out _ _ ?_ (fun ah=>?_);· exact b5
       clear d K;refine callA 3 rfl fun K d=>?_;clear F;have W:=A;have X:=z;go_simp;refine (rule_any _ G o.out.drew).mono ?_;rintro e ae ⟨ay,my,cy,az,mz,cz,b,kb,db,rfl,m,hp,hm,a8,au⟩;replace m:FarQ q Q ae:=(FarQ.of (below_drew _)).trans m;have bp:Q.heap.size≤ae.heap.size:=m.size;replace g:=qB g m;replace j:=qB j m;replace r:=qB r m;replace z:=qxO z m;replace A:=qxO A m;replace f:=qF f m;replace o:=zz hp;have aa:Hid (Mem (Nw 0 Q.heap.size _) _ _ _):=zz hm;have ab:Hid (Mem (Nw 0 Q.heap.size _) _ _ _):=zz a8;have ax:Hid (Mem (Nw 0 Q.heap.size _) _ _ _):=zz au;clear hm a8 au;go_simp;refine d.out _ _ ?_ (fun a5=>?_);· exact Far.mono m (fun b e=>.inl e)
       clear d K hp m;refine callA 4 rfl fun K d=>?_;go_simp;refine d.out _ _ ?_ (fun a6=>?_);· exact Far.trans a5 (Far.of (below_new _ _))
       clear d K;refine callA 5 rfl fun K d=>?_
       have U:∀ k,_=some k→k<ae.heap.size:=fun k t=>(z.out.lt k t).2
       refine wp_append_S _ _ (by rfl) Tryz.underlying24 info_rulM rfl (by decide) (by rfl) (by rfl) (A.out.alloc _).ow (by simp) (row_appX W.out (fun k t=>(X.out.lt k t).2) (by omega) (by omega) (ru_mem (x:=y) aa.out ab.out ax.out) rfl) (by simp only [List.length_map,List.length_cons,List.length_nil];omega) (by simp only [List.length_map,List.length_cons,List.length_nil];omega) (by rw [World.size_alloc];omega) (fun v9 R M u P=>?_);obtain ⟨a9,m9,c9,rfl⟩:=mem_slice M.mem;refine d.out _ _ ?_ (fun a7=>?_);· exact Far.trans a6 ((grownFar u).mono (fun b e=>.inr (.inr e)))
       clear d K
       have av:ae.heap.size+1≤R.heap.size:=by have h:=u.size;rw [World.size_alloc] at h;exact h
       have B:∀ k,(Value.slice ar mr cr).ownBlock=some k→B0≤k:=fun k t=>(A.out.lt k t).1
       replace o:=zz ((o.out.alloc _).grown u fun k t=>by have :=B k t;omega)
       replace f:=gFx f u B;replace g:=gOx g u B;replace j:=gOx j u B;replace r:=gOx r u B;have L:=zz ((A.out.alloc _).app M (fun k t=>Nat.lt_of_lt_of_le (U k t) (by rw [World.size_alloc];omega)) P);have J:=zz ((z.out.alloc _).other2 u P);clear M u B W X P U A z;refine takeA 6 (v:=?_) rfl ?_ ?_;rotate_left
       · (intro w D;go_simp;try rfl)
       (try simp only [pu]);refine callA 7 rfl fun K d=>?_;have F:=kc2 r;go_simp;refine d.out _ _ ?_ (fun ao=>?_);· exact Far.setCell a7 (.inr (.inl rfl)) _
       clear d K;refine wpAnyH_done (by kernel_rfl) ?_ _;clear F;generalize a:World.setCell R _ _=w8;have aw:=sizeS1 a;replace o:=rpO1 o a;replace f:=fN1 f a;replace g:=bF1 g a;replace j:=bF1 j a;replace r:=s2_1 r a;replace L:=oxS1 L a;replace J:=oxS1 J a;clear a;have hI:=i01_q_q_0 w q H w8;have hZ:=i01_q_q_0 w q H R
       go_wp2_with (fail)
       go_roundw
       case rel=>exact ⟨ds,rs++[y],sy,gg,ad,md,cd,a9,m9,c9,N,o,f,g,j,r,J,(zz (by rw [List.map_append];exact L.out)),(fun O=>by have h1:leftM C sy≤leftM C T - 2:=leftM_step (ts:=C) (a4.trans (ruleM_step G));have h2:=a3 ((ruleM_step G).fwd O).1;rw [leftM_ok a2.out] at h1;rw [List.length_append,List.length_cons,List.length_nil];omega),(by rw [List.length_append,List.length_cons,List.length_nil];omega),by omega⟩
       case measure=>exact posM_step af.out o.out _ ((a4.trans (ruleM_step G)).le (by decide)) a2.out fun O=>a3 ((ruleM_step G).fwd O).1
      ·
       clear F;have W:=A;have X:=z;go_simp;refine (rule_any _ G o.out.drew).mono ?_;rintro e V ⟨ay,my,cy,az,mz,cz,b,kb,db,rfl,m,hp,hm,a8,au⟩;replace m:FarQ q Q V:=(FarQ.of (below_drew _)).trans m;have bn:Q.heap.size≤V.heap.size:=m.size;replace g:=qB g m;replace j:=qB j m;replace r:=qB r m;replace z:=qxO z m;replace A:=qxO A m;replace f:=qF f m;replace o:=zz hp;have aa:Hid (Mem (Nw 0 Q.heap.size _) _ _ _):=zz hm;have ab:Hid (Mem (Nw 0 Q.heap.size _) _ _ _):=zz a8;have ax:Hid (Mem (Nw 0 Q.heap.size _) _ _ _):=zz au;clear hm a8 au;go_simp;refine d.out _ _ ?_ (fun ah=>?_);· exact Far.mono m (fun b e=>.inl e)
       clear d K hp m;refine twoL 1 4 rfl rfl (by kernel_rfl) (by rfl) (by rfl) (fun K d=>?_) (fun K d=>?_)
       ·
        have F:=kc2 r;have hI:=i01_q_q_0 w q H V;go_simp;refine d.out _ _ ?_ (fun a5=>?_);· exact ah
        clear d K;clear F;refine callA 4 rfl fun K d=>?_;go_simp;refine d.out _ _ ?_ (fun a6=>?_);· exact Far.trans a5 (Far.of (below_new _ _))
        clear d K;refine callA 5 rfl fun K d=>?_
        have U:∀ k,_=some k→k<V.heap.size:=fun k t=>(z.out.lt k t).2
        refine wp_append_S _ _ (by rfl) Tryz.underlying24 info_rulM rfl (by decide) (by rfl) (by rfl) (A.out.alloc _).ow (by simp) (row_appX W.out (fun k t=>(X.out.lt k t).2) (by omega) (by omega) (ru_mem (x:=y) aa.out ab.out ax.out) rfl) (by simp only [List.length_map,List.length_cons,List.length_nil];omega) (by simp only [List.length_map,List.length_cons,List.length_nil];omega) (by rw [World.size_alloc];omega) (fun v9 R M u P=>?_);obtain ⟨a9,m9,c9,rfl⟩:=mem_slice M.mem;refine d.out _ _ ?_ (fun a7=>?_);· exact Far.trans a6 ((grownFar u).mono (fun b e=>.inr (.inr e)))
        clear d K
        have av:V.heap.size+1≤R.heap.size:=by have h:=u.size;rw [World.size_alloc] at h;exact h
        have B:∀ k,(Value.slice ar mr cr).ownBlock=some k→B0≤k:=fun k t=>(A.out.lt k t).1
        replace o:=zz ((o.out.alloc _).grown u fun k t=>by have :=B k t;omega)
        replace f:=gFx f u B;replace g:=gOx g u B;replace j:=gOx j u B;replace r:=gOx r u B;have L:=zz ((A.out.alloc _).app M (fun k t=>Nat.lt_of_lt_of_le (U k t) (by rw [World.size_alloc];omega)) P);have J:=zz ((z.out.alloc _).other2 u P);clear M u B W X P U A z;refine takeA 6 (v:=?_) rfl ?_ ?_;rotate_left
        · (intro w D;go_simp;try rfl)
        (try simp only [pu]);refine callA 7 rfl fun K d=>?_;have F:=kc2 r;go_simp;refine d.out _ _ ?_ (fun ao=>?_);· exact Far.setCell a7 (.inr (.inl rfl)) _
        clear d K;refine wpAnyH_done (by kernel_rfl) ?_ _;clear F;generalize a:World.setCell R _ _=w8;have aw:=sizeS1 a;replace o:=rpO1 o a;replace f:=fN1 f a;replace g:=bF1 g a;replace j:=bF1 j a;replace r:=s2_1 r a;replace L:=oxS1 L a;replace J:=oxS1 J a;clear a;have hI:=i01_q_q_0 w q H w8;have hZ:=i01_q_q_0 w q H R
        go_wp2_with (fail)
        go_roundw
        case rel=>exact ⟨ds,rs++[y],sy,gg,ad,md,cd,a9,m9,c9,N,o,f,g,j,r,J,(zz (by rw [List.map_append];exact L.out)),(fun O=>by have h1:leftM C sy≤leftM C T - 2:=leftM_step (ts:=C) (a4.trans (ruleM_step G));have h2:=a3 ((ruleM_step G).fwd O).1;rw [leftM_ok a2.out] at h1;rw [List.length_append,List.length_cons,List.length_nil];omega),(by rw [List.length_append,List.length_cons,List.length_nil];omega),by omega⟩
        case measure=>exact posM_step af.out o.out _ ((a4.trans (ruleM_step G)).le (by decide)) a2.out fun O=>a3 ((ruleM_step G).fwd O).1
       ·
        go_simp;refine d.out _ _ ?_ (fun a5=>?_);· exact Far.trans ah (Far.of (below_new _ _))
        clear d K;have F:=kc2 r;have hI:=i01_q_q_0 w q H V;refine callA 1 rfl fun K d=>?_;go_simp;refine d.out _ _ ?_ (fun a6=>?_);· exact a5
        clear d K;clear F;refine callA 5 rfl fun K d=>?_
        have U:∀ k,_=some k→k<V.heap.size:=fun k t=>(z.out.lt k t).2
        refine wp_append_S _ _ (by rfl) Tryz.underlying24 info_rulM rfl (by decide) (by rfl) (by rfl) (A.out.alloc _).ow (by simp) (row_appX W.out (fun k t=>(X.out.lt k t).2) (by omega) (by omega) (ru_mem (x:=y) aa.out ab.out ax.out) rfl) (by simp only [List.length_map,List.length_cons,List.length_nil];omega) (by simp only [List.length_map,List.length_cons,List.length_nil];omega) (by rw [World.size_alloc];omega) (fun v9 R M u P=>?_);obtain ⟨a9,m9,c9,rfl⟩:=mem_slice M.mem;refine d.out _ _ ?_ (fun a7=>?_);· exact Far.trans a6 ((grownFar u).mono (fun b e=>.inr (.inr e)))
        clear d K
        have av:V.heap.size+1≤R.heap.size:=by have h:=u.size;rw [World.size_alloc] at h;exact h
        have B:∀ k,(Value.slice ar mr cr).ownBlock=some k→B0≤k:=fun k t=>(A.out.lt k t).1
        replace o:=zz ((o.out.alloc _).grown u fun k t=>by have :=B k t;omega)
        replace f:=gFx f u B;replace g:=gOx g u B;replace j:=gOx j u B;replace r:=gOx r u B;have L:=zz ((A.out.alloc _).app M (fun k t=>Nat.lt_of_lt_of_le (U k t) (by rw [World.size_alloc];omega)) P);have J:=zz ((z.out.alloc _).other2 u P);clear M u B W X P U A z;refine takeA 6 (v:=?_) rfl ?_ ?_;rotate_left
        · (intro w D;go_simp;try rfl)
        (try simp only [pu]);refine callA 7 rfl fun K d=>?_;have F:=kc2 r;go_simp;refine d.out _ _ ?_ (fun ao=>?_);· exact Far.setCell a7 (.inr (.inl rfl)) _
        clear d K;refine wpAnyH_done (by kernel_rfl) ?_ _;clear F;generalize a:World.setCell R _ _=w8;have aw:=sizeS1 a;replace o:=rpO1 o a;replace f:=fN1 f a;replace g:=bF1 g a;replace j:=bF1 j a;replace r:=s2_1 r a;replace L:=oxS1 L a;replace J:=oxS1 J a;clear a;have hI:=i01_q_q_0 w q H w8;have hZ:=i01_q_q_0 w q H R
        go_wp2_with (fail)
        go_roundw
        case rel=>exact ⟨ds,rs++[y],sy,gg,ad,md,cd,a9,m9,c9,N,o,f,g,j,r,J,(zz (by rw [List.map_append];exact L.out)),(fun O=>by have h1:leftM C sy≤leftM C T - 2:=leftM_step (ts:=C) (a4.trans (ruleM_step G));have h2:=a3 ((ruleM_step G).fwd O).1;rw [leftM_ok a2.out] at h1;rw [List.length_append,List.length_cons,List.length_nil];omega),(by rw [List.length_append,List.length_cons,List.length_nil];omega),by omega⟩
        case measure=>exact posM_step af.out o.out _ ((a4.trans (ruleM_step G)).le (by decide)) a2.out fun O=>a3 ((ruleM_step G).fwd O).1
end
section
open Go.RowKit
theorem da_at {S:Nat→Prop} {w:World} {l:List Da} {a:Option Addr} {m c:Nat} (h:Mem S w (.s 5 (l.map Da.row)) (.slice a m c)) (i:Nat) (t:i<l.length):
    ∃ b o x e p g f q j,a=some ⟨b,o,none⟩∧S b∧Hid (l[i]?=some x)∧w.cell? ⟨b,o+i * 5,none⟩=some (.string x.name)∧w.cell? ⟨b,o+i * 5+1,none⟩=some (.slice e p g)∧w.cell? ⟨b,o+i * 5+2,none⟩=some (.slice f q j)∧w.cell? ⟨b,o+i * 5+3,none⟩=some (.int .i64 x.l)∧w.cell? ⟨b,o+i * 5+4,none⟩=some (.int .i64 x.c)∧Mem S w (.s 1 (x.vars.map strRow)) (.slice e p g)∧Mem S w (.s 4 (x.cons.map Cn.row)) (.slice f q j):=by
  obtain ⟨b,o,C,B,_,D,r,d⟩:=Mem.at h i (by rw [List.length_map];exact t);rw [List.getElem_map] at r;obtain ⟨e,p,g,f,q,j,rfl,z,A⟩:=da_cells r;have u:=d 0 (by simp);have v:=d 1 (by simp);have y:=d 2 (by simp);have c3:=d 3 (by simp);have c4:=d 4 (by simp);exact ⟨b,o,l[i],e,p,g,f,q,j,C,B,zz (List.getElem?_eq_getElem t),u,v,y,c3,c4,z,A⟩
def cntD (ds:List Da):Nat:=(ds.map fun d=>d.cons.length).sum
theorem cntD_at {ds:List Da} {k:Nat} {x:Da} (h:ds[k]?=some x):cntD (ds.take (k+1))=cntD (ds.take k)+x.cons.length:=by
  unfold cntD;rw [take_at h,List.map_append,List.sum_append]
  simp
theorem cntD_le (ds:List Da) (k:Nat):cntD (ds.take k)≤cntD ds:=by
  have h:cntD ds=cntD (ds.take k)+cntD (ds.drop k):=by
    unfold cntD;rw [←List.sum_append, ←List.map_append,List.take_append_drop]
  omega
theorem msize_any (ds:List Da) (a:Option Addr) (m c:Nat) (D:Option Addr) (d E:Nat) (w:World) (q:MemW w (.s 5 (ds.map Da.row)) (.slice a m c)) (z:d+cntD ds≤1000000):
    Calls Tryz.prog 12 #[.agg #[.slice a m c,.slice D d E]] w fun e L=>e=.returned (.int .i64 ((d+cntD ds:Nat):Int))∧Below w.heap.size w L:=by
  have g:=q.len;rw [List.length_map] at g;have A:=zz g.1;have R:=g.2.1;have W:=g.2.2;have H:=zz q;have C:=zz z
  have J:d≤1000000:=by omega
  clear g q z;go_enter Tryz.func12,Tryz.ntmps12
  go_wp2_with (fail)
  go_loopw [3,12] (fun v i wr=>∃ (k s:Nat),k≤m∧i=.int .i64 k∧v=.int .i64 s∧s≤1000000∧Hid (s=d+cntD (ds.take k))∧Hid (Below w.heap.size w wr)) (fun _ i _=>m - (intOf i).toNat)
  case atStart=>exact ⟨0,d,Nat.zero_le _,rfl,rfl,J,zz (by rw [List.take_zero];rfl),zz (below_new _ _)⟩
  case round=>
    obtain ⟨k,s,S,rfl,rfl,X,t,f⟩:=hrel
    by_cases T:k<m
    · obtain ⟨b,o,x,M,Y,O,N,j,P,rfl,G,Hx,Z,x1,x2,x3,x4,_,r⟩:=da_at (Mem.mono H.out (fun _ h=>h) fun b F=>f.out.block b F) k (by have :=A.out;omega)
      have u:x.cons.length=j:=by have h:=r.len.1;rw [List.length_map] at h;exact h
      have p:=r.len;have U:=p.2.1;have V:=p.2.2;have HN':Hid (s+j=d+cntD (ds.take (k+1))):=zz (by rw [cntD_at Hx.out,t.out,u];omega)
      have K:s+j≤1000000:=by rw [HN'.out];have :=cntD_le ds (k+1);have :=C.out;omega
      have I:b<wr.heap.size:=Nat.lt_of_lt_of_le G f.out.size;have Q:b≠wr.heap.size:=Nat.ne_of_lt I;clear r u p
      go_wp2_with (fail)
      go_roundw
      case rel=>exact ⟨k+1,s+j,by omega,by go_num,by go_num,K,HN',zz (f.out.alloc f.out.size _)⟩
      case measure=>simp [intOf];omega
    · have B:Hid (s=d+cntD ds):=zz (by
        have y:=t.out
        rw [List.take_of_length_le (by rw [A.out];omega)] at y;exact y)
      go_wp2_with (fail)
      go_ret;exact ⟨by rw [B.out];rfl,f.out⟩
end
section
open Go.RowKit
theorem awake07_any (w:World):Calls Tryz.prog 5 #[] w fun e M=>e=.returned (.bool true)∧Below w.heap.size w M:=by
  obtain ⟨d,D,q⟩:=a7_mod;have u:=mparse_any aw7 w (by decide);rw [D] at u;have z:=zz u;clear u D;go_enter Tryz.func5,Tryz.ntmps5
  go_wp2_with (fail)
  refine z.out.mono ?_;rintro _ f ⟨a,m,c,H,K,A,rfl,B,g,E⟩;have v:=zz B
  have t:MemW f (.s 5 ([d].map Da.row)) (.slice a m c):=g.mono (fun _ h=>h.2) fun _ _=>rfl
  have G:=zz t
  obtain rfl:m=1:=by have h:=g.len.1;rw [List.length_map] at h;exact h.symm
  obtain rfl:K=0:=by have h:=E.len.1;exact h.symm
  have r:=g.len;have Z:=r.2.1;have a0:=r.2.2;obtain ⟨b,o,x,S,m1,U,T,L,V,rfl,I,Hx,N,O,P,Q,R,_,p⟩:=da_at t 0 (by simp)
  have J:x=d:=by have h:=Hx.out;simp at h;exact h.symm
  subst J
  obtain rfl:L=2:=by have h:=p.len.1;rw [List.length_map,q] at h;exact h.symm
  have j:=p.len;have X:=j.2.1;have Y:=j.2.2;have y:Hid (cntD [x]=2):=zz (by unfold cntD;simp [q]);simp only [Nat.zero_mul,Nat.add_zero] at N O P Q R;have W:b≠f.heap.size:=Nat.ne_of_lt I;clear B g E t r q Hx p j z
  go_wp2_with (fail)
  have i:Hid (Below f.heap.size f ((f.alloc (.cells #[.slice (some ⟨b,o,none⟩) 1 c,.slice H 0 A] 26)).alloc (.cells #[.int .i64 0,.int .i64 0,.int .i64 0] 31))):=zz ((below_new f _).alloc (by rw [World.size_alloc];omega) _);refine (msize_any [x] _ 1 c _ 0 A _ (G.out.keep i.out) (by rw [y.out];omega)).mono ?_;rintro _ w3 ⟨rfl,C⟩;rw [y.out];have F:=zz (v.out.trans ((i.out.trans (C.mono i.out.size)).mono v.out.size));clear C
  go_wp2_with (fail)
  go_ret;exact ⟨rfl,F.out⟩
end
section
open Go.RowKit
section
variable {ts:List Tk}
theorem consM_len {g:Nat} :∀ (f:Nat) (cs:List Cn) (s:MS) (r:List Cn × MS),consM ts g f cs s=some r→r.2.ok=true→r.1.length+s.i≤cs.length+r.2.i
  | 0,_,_,_,h,_=>by rw [consM] at h;cases h
  | f + 1, cs, s, r, h, hok => by
    rw [consM] at h
    split at h
    · obtain ⟨p,h1,h2⟩:=Option.bind_eq_some_iff.1 h
      have g1:=consM_len f _ _ _ h2 hok;have g2:=((conM_step h1).fwd ((consM_step _ _ _ _ _ h2).fwd hok).1).2;rw [List.length_append,List.length_cons,List.length_nil] at g1;have e:s.next.i=s.i+1:=rfl
      omega
    · cases h
      exact Nat.le_refl _
theorem dataM_len {f:Nat} {s:MS} {r:Da × MS} (h:dataM ts f s=some r) (a:r.2.ok=true):r.1.cons.length+s.i≤r.2.i:=by
  unfold dataM at h;obtain ⟨v,p,h⟩:=Option.bind_eq_some_iff.1 h;obtain ⟨c,q,h⟩:=Option.bind_eq_some_iff.1 h;obtain ⟨b,d,t⟩:=Option.map_eq_some_iff.1 h;cases t;replace a:b.2.ok=true:=a;have o:=consM_len _ _ _ _ d a;have u:=(consM_step _ _ _ _ _ d).fwd a;have e:=(conM_step q).fwd u.1;have g:=(step_take (ts:=ts) (k:=6) (x:=wEq) v.2).fwd e.1;have j:=(varsM_step _ _ _ _ p).fwd g.1;have m:=(step_name (ts:=ts) (k:=3) (takeS ts s 5 wData)).fwd j.1;have w:=(step_take (ts:=ts) (k:=5) (x:=wData) s).fwd m.1;rw [List.length_cons,List.length_nil] at o;have :=e.2;have :=g.2;have :=j.2;have :=m.2;have :=w.2
  show b.1.length+s.i≤b.2.i
  omega
theorem cntD_app (ds:List Da) (x:Da):cntD (ds++[x])=cntD ds+x.cons.length:=by
  unfold cntD;rw [List.map_append,List.sum_append]
  simp
theorem itemsM_len {F g:Nat} :∀ (f:Nat) (ds:List Da) (rs:List Ru) (s:MS) (r:List Da × List Ru × MS),itemsM ts F g f ds rs s=some r→r.2.2.ok=true→cntD r.1+r.2.1.length+s.i≤cntD ds+rs.length+r.2.2.i
  | 0,_,_,_,_,h,_=>by rw [itemsM] at h;cases h
  | f + 1, ds, rs, s, r, h, hok => by
    rw [itemsM] at h
    split at h
    · split at h
      · obtain ⟨p,h1,h2⟩:=Option.bind_eq_some_iff.1 h
        have g1:=itemsM_len f _ _ _ _ h2 hok;have k1:=(itemsM_step _ _ _ _ _ h2).fwd hok;have g2:=dataM_len h1 k1.1;have k2:=(dataM_step h1).fwd k1.1;have k3:=((step_take (ts:=ts) (k:=1) (x:=⟨#[]⟩) s).fwd k2.1).2;rw [cntD_app] at g1
        omega
      · obtain ⟨p,h1,h2⟩:=Option.bind_eq_some_iff.1 h
        have g1:=itemsM_len f _ _ _ _ h2 hok;have k1:=(itemsM_step _ _ _ _ _ h2).fwd hok;have k2:=(ruleM_step h1).fwd k1.1;have k3:=((step_take (ts:=ts) (k:=1) (x:=⟨#[]⟩) s).fwd k2.1).2;rw [List.length_append,List.length_cons,List.length_nil] at g1;have :=k2.2
        omega
    · cases h
      exact Nat.le_refl _
theorem itemsM_end {F g:Nat} :∀ (f:Nat) (ds:List Da) (rs:List Ru) (s:MS) (r:List Da × List Ru × MS),itemsM ts F g f ds rs s=some r→r.2.2.ok=true→r.2.2.i<ts.length
  | 0,_,_,_,_,h,_=>by rw [itemsM] at h;cases h
  | f + 1, ds, rs, s, r, h, hok => by
    rw [itemsM] at h
    split at h
    · split at h
      · obtain ⟨p,_,h2⟩:=Option.bind_eq_some_iff.1 h
        exact itemsM_end f _ _ _ _ h2 hok
      · obtain ⟨p,_,h2⟩:=Option.bind_eq_some_iff.1 h
        exact itemsM_end f _ _ _ _ h2 hok
    · rename_i hc
      cases h;replace hok:s.ok=true:=hok
      have hk:(nowT ts s.i).k=0:=by
        rw [hok] at hc
        simpa using hc
      exact now_lt (by rw [hk];decide)
end
theorem mod_len {s:ByteArray} {ds:List Da} {rs:List Ru} (h:modE s=.ok ds rs):cntD ds+rs.length≤2 * s.size+1:=by
  obtain ⟨_,f,b,d⟩:=mod_ok h;have a:=itemsM_len _ _ _ _ _ b d;have g:f.i<(toksA s).length:=itemsM_end _ _ _ _ _ b d;have j:=lexes_len s
  have m:(toksA s).length=(lexes s).2.2.2.length:=by unfold toksA;rw [List.length_map]
  have e:cntD []=0:=rfl;rw [e] at a;simp only [List.length_nil] at a
  omega
end
end Go.Proofs.YtcoiagfeoonpbaaGreat
