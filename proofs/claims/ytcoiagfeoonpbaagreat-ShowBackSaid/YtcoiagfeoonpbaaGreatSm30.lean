/-
  whimbrellaw08.awake: it answers true. No condition.
-/
import Derived.Test.YtcoiagfeoonpbaaGreatSm25
import Derived.Test.YtcoiagfeoonpbaaGreatSm28
import Derived.Test.YtcoiagfeoonpbaaGreatSm4
import Derived.Test.YtcoiagfeoonpbaaGreatSm27
import Derived.Test.YtcoiagfeoonpbaaGreatSm24
import Derived.Test.YtcoiagfeoonpbaaGreatSm19
import Derived.Test.YtcoiagfeoonpbaaGreatSm20
import Derived.Deep.Cut
set_option maxHeartbeats 20000000
set_option maxRecDepth 100000
namespace Go.Proofs.YtcoiagfeoonpbaaGreat
section
open Go.RowKit
theorem a8_ok1:okN [49]=true:=by
  have h:=okN_dec 1;rw [dec_eq] at h;exact h
theorem a8_ok2:okN [50]=true:=by
  have h:=okN_dec 2;rw [dec_eq] at h;exact h
theorem a8_n1:numN [49]=1:=by
  have h:=numN_dec 1 (by decide);rw [dec_eq] at h;exact h
theorem a8_n2:numN [50]=2:=by
  have h:=numN_dec 2 (by decide);rw [dec_eq] at h;exact h
theorem a8_t1:tokL [49,32,43,32,50,41,32,42,32,120]=some (4,[49],1):=by
  unfold tokL
  have h1: ¬(cls (49:UInt8).toNat=1∨cls (49:UInt8).toNat=2):=by decide
  have h2:cls (49:UInt8).toNat=3:=by decide
  simp only [if_neg h1,if_pos h2];rw [show List.takeWhile isDig [49,32,43,32,50,41,32,42,32,120]=[49] from by decide,if_pos a8_ok1,a8_n1]
theorem a8_t2:tokL [43,32,50,41,32,42,32,120]=some (6,[43],0):=by decide
theorem a8_t3:tokL [50,41,32,42,32,120]=some (4,[50],2):=by
  unfold tokL
  have h1: ¬(cls (50:UInt8).toNat=1∨cls (50:UInt8).toNat=2):=by decide
  have h2:cls (50:UInt8).toNat=3:=by decide
  simp only [if_neg h1,if_pos h2];rw [show List.takeWhile isDig [50,41,32,42,32,120]=[50] from by decide,if_pos a8_ok2,a8_n2]
theorem a8_t4:tokL [41,32,42,32,120]=some (6,[41],0):=by decide
theorem a8_t5:tokL [42,32,120]=some (6,[42],0):=by decide
theorem a8_t6:tokL [120]=some (2,[120],0):=by decide
def aw8:ByteArray:=⟨#[40,49,32,43,32,50,41,32,42,32,120]⟩
theorem a8_lex:lexes aw8=(0,0,0,[⟨1,str [],0,1,1⟩,⟨6,str [40],0,1,1⟩,⟨4,str [49],1,1,2⟩,⟨6,str [43],0,1,4⟩,⟨4,str [50],2,1,6⟩,⟨6,str [41],0,1,7⟩,⟨6,str [42],0,1,9⟩,⟨2,str [120],0,1,11⟩,⟨0,str [],0,1,12⟩]):=by
  refine lexes_ok aw8 (by decide) ?_
  have e0:skipG false aw8.data.toList 1 1=([40,49,32,43,32,50,41,32,42,32,120],1,1):=by decide
  have e1:skipG false ([40,49,32,43,32,50,41,32,42,32,120].drop 1) 1 2=([49,32,43,32,50,41,32,42,32,120],1,2):=by decide
  have e2:skipG false ([49,32,43,32,50,41,32,42,32,120].drop 1) 1 3=([43,32,50,41,32,42,32,120],1,4):=by decide
  have e3:skipG false ([43,32,50,41,32,42,32,120].drop 1) 1 5=([50,41,32,42,32,120],1,6):=by decide
  have e4:skipG false ([50,41,32,42,32,120].drop 1) 1 7=([41,32,42,32,120],1,7):=by decide
  have e5:skipG false ([41,32,42,32,120].drop 1) 1 8=([42,32,120],1,9):=by decide
  have e6:skipG false ([42,32,120].drop 1) 1 10=([120],1,11):=by decide
  have e7:skipG false ([120].drop 1) 1 12=([],1,12):=by decide
  rw [scanB,e0,scanS_tok 1 1 (tokL_openX _)];simp only [List.length_cons,List.length_nil,Nat.zero_add,Nat.reduceAdd];rw [scanB,e1,scanS_tok 1 2 a8_t1];simp only [List.length_cons,List.length_nil,Nat.zero_add,Nat.reduceAdd];rw [scanB,e2,scanS_tok 1 4 a8_t2];simp only [List.length_cons,List.length_nil,Nat.zero_add,Nat.reduceAdd];rw [scanB,e3,scanS_tok 1 6 a8_t3];simp only [List.length_cons,List.length_nil,Nat.zero_add,Nat.reduceAdd];rw [scanB,e4,scanS_tok 1 7 a8_t4];simp only [List.length_cons,List.length_nil,Nat.zero_add,Nat.reduceAdd];rw [scanB,e5,scanS_tok 1 9 a8_t5];simp only [List.length_cons,List.length_nil,Nat.zero_add,Nat.reduceAdd];rw [scanB,e6,scanS_tok 1 11 a8_t6];simp only [List.length_cons,List.length_nil,Nat.zero_add,Nat.reduceAdd];rw [scanB,e7,scanS_nil]
  rfl
def a8T:List Tk:=[⟨6,⟨#[40]⟩,0,1,1⟩,⟨4,⟨#[49]⟩,1,1,2⟩,⟨6,⟨#[43]⟩,0,1,4⟩,⟨4,⟨#[50]⟩,2,1,6⟩,⟨6,⟨#[41]⟩,0,1,7⟩,⟨6,⟨#[42]⟩,0,1,9⟩,⟨2,⟨#[120]⟩,0,1,11⟩,⟨0,⟨#[]⟩,0,1,12⟩]
theorem a8_toks:toksE aw8=a8T:=by unfold toksE;rw [a8_lex];rfl
def a8X:Ex:=.mk 5 ⟨#[42]⟩ 0 [.mk 5 ⟨#[43]⟩ 0 [.mk 3 .empty 1 [] 1 2,.mk 3 .empty 2 [] 1 6] 1 4,.mk 1 ⟨#[120]⟩ 0 [] 1 11] 1 9
theorem a8_read:readE a8T 72 .expr 0 0=some (.ok a8X 7):=by kernel_rfl
theorem a8_parse:parseE aw8=.ok a8X:=by
  unfold parseE;rw [a8_lex,if_pos rfl];unfold fuelE;rw [a8_toks,show 8 * a8T.length+8=72 from rfl,a8_read]
  rfl
theorem a8_digs:digs 1=[49]∧digs 2=[50]:=by
  have h1:=dec_eq 1;have h2:=dec_eq 2;exact ⟨h1,h2⟩
theorem a8_show:showX a8X=aw8:=by
  unfold a8X;simp only [showX,showXs];unfold formX;simp only [a8_digs]
  rfl
theorem awake08_any (w:World):Calls Tryz.prog 14 #[] w fun e w'=>e=.returned (.bool true)∧Below w.heap.size w w':=by
  have hp:=parse_any aw8 w (by decide);rw [a8_parse] at hp;have HP:=zz hp;clear hp;go_enter Tryz.func14,Tryz.ntmps14
  go_wp2_with (fail)
  refine HP.out.mono ?_;rintro _ w1 ⟨a,m,c,rfl,hb,hm⟩;have HB:=zz hb
  have HS:=zz (showX_any a8X a m c ((w1.alloc (.cells #[.int .i64 a8X.kind,.string a8X.name,.int .i64 a8X.n,.slice a m c,.int .i64 a8X.line,.int .i64 a8X.col] 60)).alloc (.cells #[.int .i64 0,.int .i64 0,.int .i64 0] 31))
    (MemW.alloc (MemW.alloc (hm.mono (fun _ hb=>hb.2) fun _ _=>rfl) _) _) (by simp [a8X,NumX,NumXs]) (by rw [a8_show];decide))
  have hs1:=hb.size;clear hb hm;simp only [exV]
  go_wp2_with (fail)
  refine HS.out.mono ?_;rintro _ w2 ⟨rfl,hb⟩;rw [a8_show]
  have t8:(aw8.toList==[40,49,32,43,32,50,41,32,42,32,120])=true:=by unfold aw8;simp
  have HB2:=zz hb;clear hb
  go_wp2_with (fail)
  go_ret;exact ⟨rfl,((HB.out.alloc HB.out.size _).alloc (by rw [World.size_alloc];omega) _).trans (HB2.out.mono (by rw [World.size_alloc,World.size_alloc];omega))⟩
end
section
open Go.RowKit
def ShowsTy (t:Tm):Prop:=∀ (a:Option Addr) (n c:Nat) (w:World),MemW w (.s 4 (Tm.rows t.args)) (.slice a n c)→(showTB t).length≤100000000→
  Calls Tryz.prog 114 #[.agg #[.int .i64 t.kind,.string t.name,.int .i64 t.n,.slice a n c]] w fun e w'=>e=.returned (.string (str (showTB t)))∧Below w.heap.size w w'
theorem showTB_eq (t:Tm):showTB t=if t.kind=1 then t.name.data.toList else if t.kind=2 then t.name.data.toList++argsTB t.args else [63]:=by cases t;rw [showTB];rfl
theorem ba_of {a:ByteArray} {l:List UInt8} (h:a.data.toList=l):a=str l:=by rw [←h,str_of_data]
theorem app_data (a b:ByteArray):(a++b).data.toList=a.data.toList++b.data.toList:=by simp
theorem argsTB_app (l m:List Tm):argsTB (l++m)=argsTB l++argsTB m:=by
  induction l with
  | nil=>rw [List.nil_append,argsTB,List.nil_append]
  | cons t l ih=>rw [List.cons_append,argsTB,argsTB,ih,List.cons_append,List.append_assoc]
def brT (t:Tm):List UInt8:=if t.kind=2∧t.args≠[] then 40::(showTB t++[41]) else showTB t
theorem argsTB_one (t:Tm):argsTB [t]=32::brT t:=by rw [argsTB,argsTB,List.append_nil];rfl
theorem argsTB_mem {l:List Tm} {t:Tm} (h:t∈l):(showTB t).length+3≤(argsTB l).length+2∧(brT t).length≤(argsTB l).length:=by
  induction l with
  | nil=>cases h
  | cons u l ih =>
    rw [argsTB,List.length_cons,List.length_append]
    rcases List.mem_cons.1 h with rfl | h
    · have e:(brT t).length=(if t.kind=2∧t.args≠[] then 40::(showTB t++[41]) else showTB t).length:=rfl
      rw [←e]
      have :(showTB t).length≤(brT t).length:=by unfold brT;split <;> simp;omega
      omega
    · have :=ih h
      omega
theorem argsTB_take (l:List Tm) (k:Nat):(argsTB (l.take k)).length≤(argsTB l).length:=by
  have e:argsTB l=argsTB (l.take k)++argsTB (l.drop k):=by rw [←argsTB_app,List.take_append_drop]
  rw [e,List.length_append];omega
theorem brT_brk (t:Tm) (b:Bool) (h:b=decide (t.kind=2∧t.args≠[])):brkX b (str (showTB t))=str (brT t):=by
  subst h;unfold brkX brT
  by_cases h:t.kind=2∧t.args≠[]
  · rw [if_pos h,decide_eq_true h,if_pos rfl]
    exact ba_of (by rw [app_data,app_data];rfl)
  · rw [if_neg h,decide_eq_false h,if_neg (by decide)]
theorem args_any {l:List Tm} (ih:∀ x∈l,ShowsTy x) (hz:(argsTB l).length≤100000000) (a:Option Addr) (n c:Nat) (w:World) (hm:MemW w (.s 4 (Tm.rows l)) (.slice a n c)):
  Calls Tryz.prog 80 #[.slice a n c] w fun e w'=>e=.returned (.string (str (argsTB l)))∧Below w.heap.size w w':=by
 have HF:Hid (FarB w.heap.size w.heap.size w w):=zz (FarB.refl _ _ _);have HM:=zz hm;have HI:=zz ih;have HZ:=zz hz
 have hln:l.length=n:=by have h:=hm.len.1;rw [show (Tm.rows l).length=l.length by rw [Tm.rows_eq,List.length_map]] at h;exact h
 have HLN:=zz hln;have hcap:n≤c∧c≤9223372036854775807:=hm.len.2;clear hm ih hz hln;go_enter Tryz.func80,Tryz.ntmps80
 go_wp2_with (fail)
 go_loopw [3,8] (fun v i wr=>∃ k:Nat,k≤n∧i=.int .i64 k∧v=.string (str (argsTB (l.take k)))∧Hid (FarB w.heap.size w.heap.size w wr)) (fun _ i _=>n - (intOf i).toNat)
 case atStart=>exact ⟨0,Nat.zero_le _,rfl,rfl,HF⟩
 case round=>
  clear HF;obtain ⟨k,hk,rfl,rfl,HF⟩:=hrel;have hws:=HF.out.size
  by_cases hlt:k<n
  rotate_left
  ·
   have hkn:l.take k=l:=List.take_of_length_le (by rw [HLN.out];omega);rw [hkn]
   go_wp2_with (fail)
   go_ret;exact ⟨rfl,refBelow HF.out⟩
  obtain ⟨b,o,x,ax,nx,cx,rfl,hbB,Hx,x0,x1,x2,x3,GX⟩:=(show Tms wr l a n c from HM.out.keep (refBelow HF.out)).at k hlt;have hxm:x∈l:=List.mem_of_getElem? Hx.out;have hmz:=argsTB_mem hxm;have hz0:=HZ.out
  have hz1:(showTB x).length≤100000000:=by omega
  have htk:=argsTB_take l k;have HXS:=zz (HI.out x hxm);have HXZ:=zz hz1;obtain ⟨S,hS⟩:∃ S,str (argsTB (l.take k))=S:=⟨_,rfl⟩;rw [hS]
  have hSs:S.size≤100000000:=by rw [←hS,str_size];omega
  obtain ⟨X,hX⟩:∃ X,str (showTB x)=X:=⟨_,rfl⟩
  have hXs:X.size≤100000000:=by rw [←hX,str_size];omega
  have HNX:Hid (str (argsTB (l.take (k+1)))=S++(⟨#[32]⟩++brkX (decide (x.kind=2∧x.args≠[])) X)):=zz (by
   rw [take_at Hx.out,argsTB_app,argsTB_one, ←hS, ←hX,brT_brk x _ rfl]
   exact (ba_of (by rw [app_data,app_data];rfl)).symm)
  have hbx:=brk_size (decide (x.kind=2∧x.args≠[])) X;have hax:x.args.length=nx:=(Tms.len GX.out).1;clear hxm hmz hz0 hz1 htk
  by_cases h2:x.kind=2
  ·
   have hbv:brkX (decide (x.kind=2∧x.args≠[])) X=brkX (decide (0<nx)) X:=by
    have e9:decide (x.kind=2∧x.args≠[])=decide (0<nx):=by
     rw [decide_eq_decide]
     exact ⟨fun h=>by have :=List.length_pos_iff.2 h.2;omega,fun h=>⟨h2,by intro h3;rw [h3] at hax;simp at hax;omega⟩⟩
    rw [e9]
   have e2:(x.kind==2)=true:=by simp [h2]
   clear h2 hax;go_upto_region 5 with (fail);have GXM:=zz (MemW.keep (w:=wr) GX.out (below_new wr (.cells #[.int .i64 x.kind,.string x.name,.int .i64 x.n,.slice ax nx cx] 83)));generalize ee:(wr.alloc (.cells #[.int .i64 x.kind,.string x.name,.int .i64 x.n,.slice ax nx cx] 83))=w1 at *;have hsa1:=sizeA ee;replace HF:=fA HF ee;have HBt:=nB ee (wr.heap.size);clear ee;have tc:=kc4 HBt;have hI:=i0_0 wr w1;have hZ:=i01 wr;refine wp_region_held_drew (S:=fun w'=>Far (fun _=>False) (w1) w') (by kernel_rfl) (Far.of (below_drew _)) (fun hS20=>?_);refine takeA 0 (v:=?_) rfl ?_ ?_;rotate_left;· intro w hSw;replace tc:=Far.c4z tc hSw (fun e=>e);go_simp;try rfl
   (try simp only [pu]);refine takeA 1 (v:=?_) rfl ?_ ?_;rotate_left;· intro w hSw;replace tc:=Far.c4z tc hSw (fun e=>e);go_simp;try rfl
   (try simp only [pu]);refine takeA 2 (v:=?_) rfl ?_ ?_;rotate_left;· intro w hSw;replace tc:=Far.c4z tc hSw (fun e=>e);go_simp;try rfl
   (try simp only [pu]);refine takeA 3 (v:=?_) rfl ?_ ?_;rotate_left;· intro w hSw;replace tc:=Far.c4z tc hSw (fun e=>e);go_simp;try rfl
   (try simp only [pu]);refine takeA 4 (v:=?_) rfl ?_ ?_;rotate_left;· intro w hSw;replace tc:=Far.c4z tc hSw (fun e=>e);go_simp;try rfl
   (try simp only [pu]);refine takeA 5 (v:=?_) rfl ?_ ?_;rotate_left;· intro w hSw;replace tc:=Far.c4z tc hSw (fun e=>e);go_simp;try rfl
   (try simp only [pu]);refine takeA 6 (v:=?_) rfl ?_ ?_;rotate_left;· intro w hSw;replace tc:=Far.c4z tc hSw (fun e=>e);go_simp;try rfl
   (try simp only [pu]);refine takeA 7 (v:=?_) rfl ?_ ?_;rotate_left;· intro w hSw;replace tc:=Far.c4z tc hSw (fun e=>e);go_simp;try rfl
   (try simp only [pu]);refine takeA 8 (v:=?_) rfl ?_ ?_;rotate_left;· intro w hSw;replace tc:=Far.c4z tc hSw (fun e=>e);go_simp;try rfl
   (try simp only [pu]);refine takeA 9 (v:=?_) rfl ?_ ?_;rotate_left;· intro w hSw;replace tc:=Far.c4z tc hSw (fun e=>e);go_simp;try rfl
   (try simp only [pu]);refine takeA 10 (v:=?_) rfl ?_ ?_;rotate_left;· intro w hSw;replace tc:=Far.c4z tc hSw (fun e=>e);go_simp;try rfl
   (try simp only [pu]);refine callA 11 rfl fun K hK=>?_;go_simp;refine (HXS.out _ _ _ _ (MemW.keep (w:=w1) GXM.out (below_drew _)) HXZ.out).mono ?_;rintro e wx21 ⟨rfl,hb⟩;clear tc;clear hI hZ;have hbk:=hb;replace hb:=Below.one hb;replace HBt:=kB HBt hb;replace HF:=kF HF hb;have hs21:=hb.size;clear hb;rw [hX];go_simp;refine hK.out _ _ (Far.trans hS20 (Far.of hbk)) (fun hS21=>?_);clear hK K;refine callA 12 rfl fun K hK=>?_;go_simp;refine (brackets_any (decide (0<nx)) X _ (by omega)).mono ?_;rintro e wx22 ⟨rfl,rfl⟩;rw [←hbv];generalize brkX (decide (x.kind=2∧x.args≠[])) X=Y at HNX hbx ⊢;go_simp;refine hK.out _ _ (Far.trans hS21 (Far.refl _ _)) (fun hS22=>?_);clear hK K
   have i1: ¬(9223372036854775807<1+Y.size):=by omega
   have i2: ¬(9223372036854775807<S.size+(1+Y.size)):=by omega
   refine takeA 13 (v:=?_) rfl ?_ ?_;rotate_left;· intros;go_simp;try rfl
   (try simp only [pu]);refine takeA 14 (v:=?_) rfl ?_ ?_;rotate_left;· intros;go_simp;try rfl
   (try simp only [pu]);refine takeA 15 (v:=?_) rfl ?_ ?_;rotate_left;· intros;go_simp;try rfl
   (try simp only [pu]);refine wpAnyH_done (by kernel_rfl) ?_ _
   go_wp2_with (fail)
   go_roundw
   case rel=>exact ⟨k+1,by omega,by go_num,by rw [HNX.out],HF⟩
   case measure=>simp [intOf];omega
  have hbv:brkX (decide (x.kind=2∧x.args≠[])) X=brkX false X:=by rw [decide_eq_false (fun h=>h2 h.1)]
  have e2:(x.kind==2)=false:=by simp [h2]
  clear h2 hax;go_upto_region 5 with (fail);have GXM:=zz (MemW.keep (w:=wr) GX.out (below_new wr (.cells #[.int .i64 x.kind,.string x.name,.int .i64 x.n,.slice ax nx cx] 83)));generalize ee:(wr.alloc (.cells #[.int .i64 x.kind,.string x.name,.int .i64 x.n,.slice ax nx cx] 83))=w1 at *;have hsa1:=sizeA ee;replace HF:=fA HF ee;have HBt:=nB ee (wr.heap.size);clear ee;have tc:=kc4 HBt;have hI:=i0_0 wr w1;have hZ:=i01 wr;refine wp_region_held_drew (S:=fun w'=>Far (fun _=>False) (w1) w') (by kernel_rfl) (Far.of (below_drew _)) (fun hS20=>?_);refine takeA 0 (v:=?_) rfl ?_ ?_;rotate_left;· intro w hSw;replace tc:=Far.c4z tc hSw (fun e=>e);go_simp;try rfl
  (try simp only [pu]);refine takeA 1 (v:=?_) rfl ?_ ?_;rotate_left;· intro w hSw;replace tc:=Far.c4z tc hSw (fun e=>e);go_simp;try rfl
  (try simp only [pu]);refine takeA 2 (v:=?_) rfl ?_ ?_;rotate_left;· intro w hSw;replace tc:=Far.c4z tc hSw (fun e=>e);go_simp;try rfl
  (try simp only [pu]);refine takeA 3 (v:=?_) rfl ?_ ?_;rotate_left;· intro w hSw;replace tc:=Far.c4z tc hSw (fun e=>e);go_simp;try rfl
  (try simp only [pu]);refine takeA 4 (v:=?_) rfl ?_ ?_;rotate_left;· intro w hSw;replace tc:=Far.c4z tc hSw (fun e=>e);go_simp;try rfl
  (try simp only [pu]);refine skipA 5 rfl ?_;(try simp only [pu]);refine skipA 6 rfl ?_;(try simp only [pu]);refine skipA 7 rfl ?_;(try simp only [pu]);refine skipA 8 rfl ?_;(try simp only [pu]);refine takeA 9 (v:=?_) rfl ?_ ?_;rotate_left;· intro w hSw;replace tc:=Far.c4z tc hSw (fun e=>e);go_simp;try rfl
  (try simp only [pu]);refine takeA 10 (v:=?_) rfl ?_ ?_;rotate_left;· intro w hSw;replace tc:=Far.c4z tc hSw (fun e=>e);go_simp;try rfl
  (try simp only [pu]);refine callA 11 rfl fun K hK=>?_;go_simp;refine (HXS.out _ _ _ _ (MemW.keep (w:=w1) GXM.out (below_drew _)) HXZ.out).mono ?_;rintro e wx21 ⟨rfl,hb⟩;clear tc;clear hI hZ;have hbk:=hb;replace hb:=Below.one hb;replace HBt:=kB HBt hb;replace HF:=kF HF hb;have hs21:=hb.size;clear hb;rw [hX];go_simp;refine hK.out _ _ (Far.trans hS20 (Far.of hbk)) (fun hS21=>?_);clear hK K;refine callA 12 rfl fun K hK=>?_;go_simp;refine (brackets_any false X _ (by omega)).mono ?_;rintro e wx22 ⟨rfl,rfl⟩;rw [←hbv];generalize brkX (decide (x.kind=2∧x.args≠[])) X=Y at HNX hbx ⊢;go_simp;refine hK.out _ _ (Far.trans hS21 (Far.refl _ _)) (fun hS22=>?_);clear hK K
  have i1: ¬(9223372036854775807<1+Y.size):=by omega
  have i2: ¬(9223372036854775807<S.size+(1+Y.size)):=by omega
  refine takeA 13 (v:=?_) rfl ?_ ?_;rotate_left;· intros;go_simp;try rfl
  (try simp only [pu]);refine takeA 14 (v:=?_) rfl ?_ ?_;rotate_left;· intros;go_simp;try rfl
  (try simp only [pu]);refine takeA 15 (v:=?_) rfl ?_ ?_;rotate_left;· intros;go_simp;try rfl
  (try simp only [pu]);refine wpAnyH_done (by kernel_rfl) ?_ _
  go_wp2_with (fail)
  go_roundw
  case rel=>exact ⟨k+1,by omega,by go_num,by rw [HNX.out],HF⟩
  case measure=>simp [intOf];omega
theorem ty_of {t:Tm} (ih:∀ x∈t.args,ShowsTy x):ShowsTy t:=by
 intro a n c w hm hz;have HM:=zz hm;have HI:=zz ih;have hz0:=hz;clear hm ih hz
 by_cases h1:t.kind=1
 ·
  have HF:Hid (FarB w.heap.size w.heap.size w w):=zz (FarB.refl _ _ _)
  have e1:(t.kind==1)=true:=by simp [h1]
  have HQ:Hid (str (showTB t)=t.name):=zz (by rw [showTB_eq,if_pos h1,str_of_data]);clear h1 HI hz0;go_enter Tryz.func114,Tryz.ntmps114;have hb9:=below_new w (.cells #[.int .i64 t.kind,.string t.name,.int .i64 t.n,.slice a n c] 83)
  go_wp2_with (fail)
  go_ret;exact ⟨congrArg (fun s=>Ending.returned (Value.string s)) HQ.out.symm,hb9⟩
 by_cases h2:t.kind=2
 ·
  have HF:Hid (FarB w.heap.size w.heap.size w w):=zz (FarB.refl _ _ _)
  have e1:(t.kind==1)=false:=by simp [h1]
  have e2:(t.kind==2)=true:=by simp [h2]
  have hsh:showTB t=t.name.data.toList++argsTB t.args:=by rw [showTB_eq,if_neg h1,if_pos h2]
  have hzz:t.name.size+(argsTB t.args).length≤100000000:=by rw [hsh,List.length_append,length_data] at hz0;exact hz0
  have hza:(argsTB t.args).length≤100000000:=by omega
  obtain ⟨Y,hY⟩:∃ Y,str (argsTB t.args)=Y:=⟨_,rfl⟩
  have hYs:Y.size≤(argsTB t.args).length:=by rw [←hY,str_size];exact Nat.le_refl _
  have HQ:Hid (str (showTB t)=t.name++Y):=zz (by rw [hsh, ←hY];exact (ba_of (by rw [app_data];rfl)).symm);clear h1 h2 hsh hz0;go_enter Tryz.func114,Tryz.ntmps114;go_upto_region 5 with (fail);generalize ee:World.alloc w _=w1;have hsa1:=sizeA ee;replace HF:=fA HF ee;have HBr:=nB ee (w.heap.size);clear ee;have rc:=kc4 HBr;have hI:=i0_0 w w1;have hZ:=i01 w;refine wp_region_held_drew (S:=fun w'=>Far (fun _=>False) (w1) w') (by kernel_rfl) (Far.of (below_drew _)) (fun hS20=>?_);refine takeA 0 (v:=?_) rfl ?_ ?_;rotate_left;· intro w hSw;replace rc:=Far.c4z rc hSw (fun e=>e);go_simp;try rfl
  (try simp only [pu]);refine takeA 1 (v:=?_) rfl ?_ ?_;rotate_left;· intro w hSw;replace rc:=Far.c4z rc hSw (fun e=>e);go_simp;try rfl
  (try simp only [pu]);refine takeA 2 (v:=?_) rfl ?_ ?_;rotate_left;· intro w hSw;replace rc:=Far.c4z rc hSw (fun e=>e);go_simp;try rfl
  (try simp only [pu]);refine takeA 3 (v:=?_) rfl ?_ ?_;rotate_left;· intro w hSw;replace rc:=Far.c4z rc hSw (fun e=>e);go_simp;try rfl
  (try simp only [pu]);refine callA 4 rfl fun K hK=>?_;go_simp;refine (args_any HI.out hza _ _ _ _ (MemW.keep (w:=w1) (HM.out.keep (refBelow HF.out)) (below_drew _))).mono ?_;rintro e wx21 ⟨rfl,hb⟩;clear rc;clear hI hZ;have hbk:=hb;replace hb:=Below.one hb;replace HBr:=kB HBr hb;replace HF:=kF HF hb;have hs21:=hb.size;clear hb;rw [hY];go_simp;refine hK.out _ _ (Far.trans hS20 (Far.of hbk)) (fun hS21=>?_);clear hK K
  have i1: ¬(9223372036854775807<t.name.size+Y.size):=by omega
  refine takeA 5 (v:=?_) rfl ?_ ?_;rotate_left;· intros;go_simp;try rfl
  (try simp only [pu]);refine takeA 6 (v:=?_) rfl ?_ ?_;rotate_left;· intros;go_simp;try rfl
  (try simp only [pu]);refine wpAnyH_done (by kernel_rfl) ?_ _
  go_wp2_with (fail)
  go_ret;exact ⟨congrArg (fun s=>Ending.returned (Value.string s)) HQ.out.symm,refBelow HF.out⟩
 have HF:Hid (FarB w.heap.size w.heap.size w w):=zz (FarB.refl _ _ _)
 have e1:(t.kind==1)=false:=by simp [h1]
 have e2:(t.kind==2)=false:=by simp [h2]
 have HQ:Hid (str (showTB t)=⟨#[63]⟩):=zz (by rw [showTB_eq,if_neg h1,if_neg h2];rfl);clear h1 h2 HI hz0;go_enter Tryz.func114,Tryz.ntmps114;have hb9:=below_new w (.cells #[.int .i64 t.kind,.string t.name,.int .i64 t.n,.slice a n c] 83)
 go_wp2_with (fail)
 go_ret;exact ⟨congrArg (fun s=>Ending.returned (Value.string s)) HQ.out.symm,hb9⟩
theorem ty_sz:∀ (m:Nat) (x:Tm),SizeOf.sizeOf x≤m→ShowsTy x
  | 0,x,h=>by cases x;simp at h
  | m + 1, x, h => ty_of fun z hz => ty_sz m z (by
    cases x with
    | mk k s n xs =>
      have h3:=List.sizeOf_lt_of_mem (show z∈xs from hz)
      simp at h
      omega)
theorem showTy_any (x:Tm):ShowsTy x:=ty_sz _ x (Nat.le_refl _)
end
section
open Go.RowKit
def RefsTy (t:Tm):Prop:=∀ (a:Option Addr) (n c:Nat) (w:World),MemW w (.s 4 (Tm.rows t.args)) (.slice a n c)→(showTB t).length≤100000000→
  Calls Tryz.prog 116 #[.agg #[.int .i64 t.kind,.string t.name,.int .i64 t.n,.slice a n c]] w fun e w'=>e=.returned (.string (str (showTB t)))∧Below w.heap.size w w'
theorem refArgs_any {l:List Tm} (ih:∀ x∈l,RefsTy x) (hz:(argsTB l).length≤100000000) (a:Option Addr) (n c:Nat) (w:World) (hm:MemW w (.s 4 (Tm.rows l)) (.slice a n c)):
  Calls Tryz.prog 82 #[.slice a n c] w fun e w'=>e=.returned (.string (str (argsTB l)))∧Below w.heap.size w w':=by
 have HF:Hid (FarB w.heap.size w.heap.size w w):=zz (FarB.refl _ _ _);have HM:=zz hm;have HI:=zz ih;have HZ:=zz hz
 have hln:l.length=n:=by have h:=hm.len.1;rw [show (Tm.rows l).length=l.length by rw [Tm.rows_eq,List.length_map]] at h;exact h
 have HLN:=zz hln;have hcap:n≤c∧c≤9223372036854775807:=hm.len.2;clear hm ih hz hln;go_enter Tryz.func82,Tryz.ntmps82
 go_wp2_with (fail)
 go_loopw [3,8] (fun v i wr=>∃ k:Nat,k≤n∧i=.int .i64 k∧v=.string (str (argsTB (l.take k)))∧Hid (FarB w.heap.size w.heap.size w wr)) (fun _ i _=>n - (intOf i).toNat)
 case atStart=>exact ⟨0,Nat.zero_le _,rfl,rfl,HF⟩
 case round=>
  clear HF;obtain ⟨k,hk,rfl,rfl,HF⟩:=hrel;have hws:=HF.out.size
  by_cases hlt:k<n
  rotate_left
  ·
   have hkn:l.take k=l:=List.take_of_length_le (by rw [HLN.out];omega);rw [hkn]
   go_wp2_with (fail)
   go_ret;exact ⟨rfl,refBelow HF.out⟩
  obtain ⟨b,o,x,ax,nx,cx,rfl,hbB,Hx,x0,x1,x2,x3,GX⟩:=(show Tms wr l a n c from HM.out.keep (refBelow HF.out)).at k hlt;have hxm:x∈l:=List.mem_of_getElem? Hx.out;have hmz:=argsTB_mem hxm;have hz0:=HZ.out
  have hz1:(showTB x).length≤100000000:=by omega
  have htk:=argsTB_take l k;have HXS:=zz (HI.out x hxm);have HXZ:=zz hz1;obtain ⟨S,hS⟩:∃ S,str (argsTB (l.take k))=S:=⟨_,rfl⟩;rw [hS]
  have hSs:S.size≤100000000:=by rw [←hS,str_size];omega
  obtain ⟨X,hX⟩:∃ X,str (showTB x)=X:=⟨_,rfl⟩
  have hXs:X.size≤100000000:=by rw [←hX,str_size];omega
  have HNX:Hid (str (argsTB (l.take (k+1)))=S++(⟨#[32]⟩++brkX (decide (x.kind=2∧x.args≠[])) X)):=zz (by
   rw [take_at Hx.out,argsTB_app,argsTB_one, ←hS, ←hX,brT_brk x _ rfl]
   exact (ba_of (by rw [app_data,app_data];rfl)).symm)
  have hbx:=brk_size (decide (x.kind=2∧x.args≠[])) X;have hax:x.args.length=nx:=(Tms.len GX.out).1;clear hxm hmz hz0 hz1 htk
  by_cases h2:x.kind=2
  ·
   have hbv:brkX (decide (x.kind=2∧x.args≠[])) X=brkX (decide (0<nx)) X:=by
    have e9:decide (x.kind=2∧x.args≠[])=decide (0<nx):=by
     rw [decide_eq_decide]
     exact ⟨fun h=>by have :=List.length_pos_iff.2 h.2;omega,fun h=>⟨h2,by intro h3;rw [h3] at hax;simp at hax;omega⟩⟩
    rw [e9]
   have e2:(x.kind==2)=true:=by simp [h2]
   clear h2 hax;go_upto_region 5 with (fail);have GXM:=zz (MemW.keep (w:=wr) GX.out (below_new wr (.cells #[.int .i64 x.kind,.string x.name,.int .i64 x.n,.slice ax nx cx] 83)));generalize ee:(wr.alloc (.cells #[.int .i64 x.kind,.string x.name,.int .i64 x.n,.slice ax nx cx] 83))=w1 at *;have hsa1:=sizeA ee;replace HF:=fA HF ee;have HBt:=nB ee (wr.heap.size);clear ee;have tc:=kc4 HBt;have hI:=i0_0 wr w1;have hZ:=i01 wr;refine wp_region_held_drew (S:=fun w'=>Far (fun _=>False) (w1) w') (by kernel_rfl) (Far.of (below_drew _)) (fun hS20=>?_);refine takeA 0 (v:=?_) rfl ?_ ?_;rotate_left;· intro w hSw;replace tc:=Far.c4z tc hSw (fun e=>e);go_simp;try rfl
   (try simp only [pu]);refine takeA 1 (v:=?_) rfl ?_ ?_;rotate_left;· intro w hSw;replace tc:=Far.c4z tc hSw (fun e=>e);go_simp;try rfl
   (try simp only [pu]);refine takeA 2 (v:=?_) rfl ?_ ?_;rotate_left;· intro w hSw;replace tc:=Far.c4z tc hSw (fun e=>e);go_simp;try rfl
   (try simp only [pu]);refine takeA 3 (v:=?_) rfl ?_ ?_;rotate_left;· intro w hSw;replace tc:=Far.c4z tc hSw (fun e=>e);go_simp;try rfl
   (try simp only [pu]);refine takeA 4 (v:=?_) rfl ?_ ?_;rotate_left;· intro w hSw;replace tc:=Far.c4z tc hSw (fun e=>e);go_simp;try rfl
   (try simp only [pu]);refine takeA 5 (v:=?_) rfl ?_ ?_;rotate_left;· intro w hSw;replace tc:=Far.c4z tc hSw (fun e=>e);go_simp;try rfl
   (try simp only [pu]);refine takeA 6 (v:=?_) rfl ?_ ?_;rotate_left;· intro w hSw;replace tc:=Far.c4z tc hSw (fun e=>e);go_simp;try rfl
   (try simp only [pu]);refine takeA 7 (v:=?_) rfl ?_ ?_;rotate_left;· intro w hSw;replace tc:=Far.c4z tc hSw (fun e=>e);go_simp;try rfl
   (try simp only [pu]);refine takeA 8 (v:=?_) rfl ?_ ?_;rotate_left;· intro w hSw;replace tc:=Far.c4z tc hSw (fun e=>e);go_simp;try rfl
   (try simp only [pu]);refine takeA 9 (v:=?_) rfl ?_ ?_;rotate_left;· intro w hSw;replace tc:=Far.c4z tc hSw (fun e=>e);go_simp;try rfl
   (try simp only [pu]);refine takeA 10 (v:=?_) rfl ?_ ?_;rotate_left;· intro w hSw;replace tc:=Far.c4z tc hSw (fun e=>e);go_simp;try rfl
   (try simp only [pu]);refine callA 11 rfl fun K hK=>?_;go_simp;refine (HXS.out _ _ _ _ (MemW.keep (w:=w1) GXM.out (below_drew _)) HXZ.out).mono ?_;rintro e wx21 ⟨rfl,hb⟩;clear tc;clear hI hZ;have hbk:=hb;replace hb:=Below.one hb;replace HBt:=kB HBt hb;replace HF:=kF HF hb;have hs21:=hb.size;clear hb;rw [hX];go_simp;refine hK.out _ _ (Far.trans hS20 (Far.of hbk)) (fun hS21=>?_);clear hK K;refine callA 12 rfl fun K hK=>?_;go_simp;refine (bracketR_any (decide (0<nx)) X _ (by omega)).mono ?_;rintro e wx22 ⟨rfl,rfl⟩;rw [←hbv];generalize brkX (decide (x.kind=2∧x.args≠[])) X=Y at HNX hbx ⊢;go_simp;refine hK.out _ _ (Far.trans hS21 (Far.refl _ _)) (fun hS22=>?_);clear hK K
   have i1: ¬(9223372036854775807<1+Y.size):=by omega
   have i2: ¬(9223372036854775807<S.size+(1+Y.size)):=by omega
   refine takeA 13 (v:=?_) rfl ?_ ?_;rotate_left;· intros;go_simp;try rfl
   (try simp only [pu]);refine takeA 14 (v:=?_) rfl ?_ ?_;rotate_left;· intros;go_simp;try rfl
   (try simp only [pu]);refine takeA 15 (v:=?_) rfl ?_ ?_;rotate_left;· intros;go_simp;try rfl
   (try simp only [pu]);refine wpAnyH_done (by kernel_rfl) ?_ _
   go_wp2_with (fail)
   go_roundw
   case rel=>exact ⟨k+1,by omega,by go_num,by rw [HNX.out],HF⟩
   case measure=>simp [intOf];omega
  have hbv:brkX (decide (x.kind=2∧x.args≠[])) X=brkX false X:=by rw [decide_eq_false (fun h=>h2 h.1)]
  have e2:(x.kind==2)=false:=by simp [h2]
  clear h2 hax;go_upto_region 5 with (fail);have GXM:=zz (MemW.keep (w:=wr) GX.out (below_new wr (.cells #[.int .i64 x.kind,.string x.name,.int .i64 x.n,.slice ax nx cx] 83)));generalize ee:(wr.alloc (.cells #[.int .i64 x.kind,.string x.name,.int .i64 x.n,.slice ax nx cx] 83))=w1 at *;have hsa1:=sizeA ee;replace HF:=fA HF ee;have HBt:=nB ee (wr.heap.size);clear ee;have tc:=kc4 HBt;have hI:=i0_0 wr w1;have hZ:=i01 wr;refine wp_region_held_drew (S:=fun w'=>Far (fun _=>False) (w1) w') (by kernel_rfl) (Far.of (below_drew _)) (fun hS20=>?_);refine takeA 0 (v:=?_) rfl ?_ ?_;rotate_left;· intro w hSw;replace tc:=Far.c4z tc hSw (fun e=>e);go_simp;try rfl
  (try simp only [pu]);refine takeA 1 (v:=?_) rfl ?_ ?_;rotate_left;· intro w hSw;replace tc:=Far.c4z tc hSw (fun e=>e);go_simp;try rfl
  (try simp only [pu]);refine takeA 2 (v:=?_) rfl ?_ ?_;rotate_left;· intro w hSw;replace tc:=Far.c4z tc hSw (fun e=>e);go_simp;try rfl
  (try simp only [pu]);refine takeA 3 (v:=?_) rfl ?_ ?_;rotate_left;· intro w hSw;replace tc:=Far.c4z tc hSw (fun e=>e);go_simp;try rfl
  (try simp only [pu]);refine takeA 4 (v:=?_) rfl ?_ ?_;rotate_left;· intro w hSw;replace tc:=Far.c4z tc hSw (fun e=>e);go_simp;try rfl
  (try simp only [pu]);refine skipA 5 rfl ?_;(try simp only [pu]);refine skipA 6 rfl ?_;(try simp only [pu]);refine skipA 7 rfl ?_;(try simp only [pu]);refine skipA 8 rfl ?_;(try simp only [pu]);refine takeA 9 (v:=?_) rfl ?_ ?_;rotate_left;· intro w hSw;replace tc:=Far.c4z tc hSw (fun e=>e);go_simp;try rfl
  (try simp only [pu]);refine takeA 10 (v:=?_) rfl ?_ ?_;rotate_left;· intro w hSw;replace tc:=Far.c4z tc hSw (fun e=>e);go_simp;try rfl
  (try simp only [pu]);refine callA 11 rfl fun K hK=>?_;go_simp;refine (HXS.out _ _ _ _ (MemW.keep (w:=w1) GXM.out (below_drew _)) HXZ.out).mono ?_;rintro e wx21 ⟨rfl,hb⟩;clear tc;clear hI hZ;have hbk:=hb;replace hb:=Below.one hb;replace HBt:=kB HBt hb;replace HF:=kF HF hb;have hs21:=hb.size;clear hb;rw [hX];go_simp;refine hK.out _ _ (Far.trans hS20 (Far.of hbk)) (fun hS21=>?_);clear hK K;refine callA 12 rfl fun K hK=>?_;go_simp;refine (bracketR_any false X _ (by omega)).mono ?_;rintro e wx22 ⟨rfl,rfl⟩;rw [←hbv];generalize brkX (decide (x.kind=2∧x.args≠[])) X=Y at HNX hbx ⊢;go_simp;refine hK.out _ _ (Far.trans hS21 (Far.refl _ _)) (fun hS22=>?_);clear hK K
  have i1: ¬(9223372036854775807<1+Y.size):=by omega
  have i2: ¬(9223372036854775807<S.size+(1+Y.size)):=by omega
  refine takeA 13 (v:=?_) rfl ?_ ?_;rotate_left;· intros;go_simp;try rfl
  (try simp only [pu]);refine takeA 14 (v:=?_) rfl ?_ ?_;rotate_left;· intros;go_simp;try rfl
  (try simp only [pu]);refine takeA 15 (v:=?_) rfl ?_ ?_;rotate_left;· intros;go_simp;try rfl
  (try simp only [pu]);refine wpAnyH_done (by kernel_rfl) ?_ _
  go_wp2_with (fail)
  go_roundw
  case rel=>exact ⟨k+1,by omega,by go_num,by rw [HNX.out],HF⟩
  case measure=>simp [intOf];omega
theorem refTy_of {t:Tm} (ih:∀ x∈t.args,RefsTy x):RefsTy t:=by
 intro a n c w hm hz;have HM:=zz hm;have HI:=zz ih;have hz0:=hz;clear hm ih hz
 by_cases h1:t.kind=1
 ·
  have HF:Hid (FarB w.heap.size w.heap.size w w):=zz (FarB.refl _ _ _)
  have e1:(t.kind==1)=true:=by simp [h1]
  have HQ:Hid (str (showTB t)=t.name):=zz (by rw [showTB_eq,if_pos h1,str_of_data]);clear h1 HI hz0;go_enter Tryz.func116,Tryz.ntmps116;have hb9:=below_new w (.cells #[.int .i64 t.kind,.string t.name,.int .i64 t.n,.slice a n c] 83)
  go_wp2_with (fail)
  go_ret;exact ⟨congrArg (fun s=>Ending.returned (Value.string s)) HQ.out.symm,hb9⟩
 by_cases h2:t.kind=2
 ·
  have HF:Hid (FarB w.heap.size w.heap.size w w):=zz (FarB.refl _ _ _)
  have e1:(t.kind==1)=false:=by simp [h1]
  have e2:(t.kind==2)=true:=by simp [h2]
  have hsh:showTB t=t.name.data.toList++argsTB t.args:=by rw [showTB_eq,if_neg h1,if_pos h2]
  have hzz:t.name.size+(argsTB t.args).length≤100000000:=by rw [hsh,List.length_append,length_data] at hz0;exact hz0
  have hza:(argsTB t.args).length≤100000000:=by omega
  obtain ⟨Y,hY⟩:∃ Y,str (argsTB t.args)=Y:=⟨_,rfl⟩
  have hYs:Y.size≤(argsTB t.args).length:=by rw [←hY,str_size];exact Nat.le_refl _
  have HQ:Hid (str (showTB t)=t.name++Y):=zz (by rw [hsh, ←hY];exact (ba_of (by rw [app_data];rfl)).symm);clear h1 h2 hsh hz0;go_enter Tryz.func116,Tryz.ntmps116;go_upto_region 6 with (fail);generalize ee:World.alloc w _=w1;have hsa1:=sizeA ee;replace HF:=fA HF ee;have HBr:=nB ee (w.heap.size);clear ee;have rc:=kc4 HBr;have hI:=i0_0 w w1;have hZ:=i01 w;refine wp_region_held_drew (S:=fun w'=>Far (fun _=>False) (w1) w') (by kernel_rfl) (Far.of (below_drew _)) (fun hS20=>?_);refine takeA 0 (v:=?_) rfl ?_ ?_;rotate_left;· intro w hSw;replace rc:=Far.c4z rc hSw (fun e=>e);go_simp;try rfl
  (try simp only [pu]);refine takeA 1 (v:=?_) rfl ?_ ?_;rotate_left;· intro w hSw;replace rc:=Far.c4z rc hSw (fun e=>e);go_simp;try rfl
  (try simp only [pu]);refine takeA 2 (v:=?_) rfl ?_ ?_;rotate_left;· intro w hSw;replace rc:=Far.c4z rc hSw (fun e=>e);go_simp;try rfl
  (try simp only [pu]);refine takeA 3 (v:=?_) rfl ?_ ?_;rotate_left;· intro w hSw;replace rc:=Far.c4z rc hSw (fun e=>e);go_simp;try rfl
  (try simp only [pu]);refine callA 4 rfl fun K hK=>?_;go_simp;refine (refArgs_any HI.out hza _ _ _ _ (MemW.keep (w:=w1) (HM.out.keep (refBelow HF.out)) (below_drew _))).mono ?_;rintro e wx21 ⟨rfl,hb⟩;clear rc;clear hI hZ;have hbk:=hb;replace hb:=Below.one hb;replace HBr:=kB HBr hb;replace HF:=kF HF hb;have hs21:=hb.size;clear hb;rw [hY];go_simp;refine hK.out _ _ (Far.trans hS20 (Far.of hbk)) (fun hS21=>?_);clear hK K
  have i1: ¬(9223372036854775807<t.name.size+Y.size):=by omega
  refine takeA 5 (v:=?_) rfl ?_ ?_;rotate_left;· intros;go_simp;try rfl
  (try simp only [pu]);refine takeA 6 (v:=?_) rfl ?_ ?_;rotate_left;· intros;go_simp;try rfl
  (try simp only [pu]);refine wpAnyH_done (by kernel_rfl) ?_ _
  go_wp2_with (fail)
  go_ret;exact ⟨congrArg (fun s=>Ending.returned (Value.string s)) HQ.out.symm,refBelow HF.out⟩
 have HF:Hid (FarB w.heap.size w.heap.size w w):=zz (FarB.refl _ _ _)
 have e1:(t.kind==1)=false:=by simp [h1]
 have e2:(t.kind==2)=false:=by simp [h2]
 have HQ:Hid (str (showTB t)=⟨#[63]⟩):=zz (by rw [showTB_eq,if_neg h1,if_neg h2];rfl);clear h1 h2 HI hz0;go_enter Tryz.func116,Tryz.ntmps116;have hb9:=below_new w (.cells #[.int .i64 t.kind,.string t.name,.int .i64 t.n,.slice a n c] 83)
 go_wp2_with (fail)
 go_ret;exact ⟨congrArg (fun s=>Ending.returned (Value.string s)) HQ.out.symm,hb9⟩
theorem refTy_sz:∀ (m:Nat) (x:Tm),SizeOf.sizeOf x≤m→RefsTy x
  | 0,x,h=>by cases x;simp at h
  | m + 1, x, h => refTy_of fun z hz => refTy_sz m z (by
    cases x with
    | mk k s n xs =>
      have h3:=List.sizeOf_lt_of_mem (show z∈xs from hz)
      simp at h
      omega)
theorem refTy_any (x:Tm):RefsTy x:=refTy_sz _ x (Nat.le_refl _)
end
end Go.Proofs.YtcoiagfeoonpbaaGreat
