/-
  The module reader's small steps: ok, fail, is, take, name, starts. No condition but how the reader and the tokens lie.
-/
import Derived.Test.YtcoiagfeoonpbaaGreatSm20
import Derived.Test.YtcoiagfeoonpbaaGreatSm7
import Derived.Test.YtcoiagfeoonpbaaGreatSm18
set_option maxHeartbeats 20000000
set_option maxRecDepth 100000
namespace Go.Proofs.YtcoiagfeoonpbaaGreat
section
open Go.RowKit
theorem fail_ok {ts:List Tk} {s:MS} (h:s.ok=true):failS ts s=⟨s.i,some ((nowT ts s.i).l,(nowT ts s.i).c)⟩:=by unfold failS;rw [if_pos h]
theorem fail_no {ts:List Tk} {s:MS} (h:s.ok=false):failS ts s=s:=by unfold failS;rw [if_neg (by rw [h];decide)]
section
variable {ts:List Tk} {aL:Option Addr} {n cap q:Nat} {s:MS} {d:Int}
attribute [local go_sem] tk_pos
theorem mok_any (w:World) (hp:RS ts aL n cap q s d w):
    Calls Tryz.prog 18 #[.pointer (some ⟨q,0,none⟩)] w fun e w'=>e=.returned (.bool s.ok)∧w=w':=by
  have c3:=(kcR (zz hp)).2.2.2.1;have he:=ok_eB s;have fz:=hp.bo.frozen;clear hp;go_enter Tryz.func18,Tryz.ntmps18
  go_wp2
  refine bodyPost_ret (results_tmp rfl _ _ _) rfl ?_;exact ⟨rfl,rfl⟩
theorem mfail_any (w:World) (hp:RS ts aL n cap q s d w):
    Calls Tryz.prog 54 #[.pointer (some ⟨q,0,none⟩)] w fun e w'=>e=.returned (.tuple #[])∧FarQ q w w'∧RS ts aL n cap q (failS ts s) d w':=by
  have HP:=zz hp;clear hp;go_enter Tryz.func54,Tryz.ntmps54
  go_wp2_with (fail)
  refine (mok_any _ HP.out).mono ?_;rintro _ _ ⟨rfl,rfl⟩
  cases hok:s.ok with
  | false =>
    go_wp2_with (fail)
    go_end0
    exact ⟨rfl,FarQ.refl _ _,by rw [fail_no hok];exact HP.out⟩
  | true =>
    go_wp2_with (fail)
    refine (mnow_any _ HP.out.bo HP.out.mem).mono ?_;rintro _ w2 ⟨rfl,hb⟩;have HB:=zz hb;have HP2:=krP HP hb;clear hb;simp only [tkV];have qc:=kcR HP2
    go_wp2_with (fail)
    go_end0
    exact ⟨rfl,(FarQ.of HB.out).trans ((FarQ.set _ _ _).trans ((FarQ.set _ _ _).trans (FarQ.set _ _ _))),by rw [fail_ok hok];exact HP2.out.of ((FarQ.set _ _ _).trans ((FarQ.set _ _ _).trans (FarQ.set _ _ _))) (((HP2.out.bo.set 3 _).set 4 _).set 5 _)⟩
theorem mis_any (k:Int) (x:ByteArray) (w:World) (hp:RS ts aL n cap q s d w):
    Calls Tryz.prog 21 #[.pointer (some ⟨q,0,none⟩),.int .i64 k,.string x] w fun e w'=>e=.returned (.bool (isS ts s k x))∧Below w.heap.size w w':=by
  have HP:=zz hp;clear hp;go_enter Tryz.func21,Tryz.ntmps21
  go_wp2_with (fail)
  refine (mnow_any _ HP.out.bo HP.out.mem).mono ?_;rintro _ w1 ⟨rfl,hb⟩;have HB1:=zz hb;have HP1:=zz ((krP HP hb).out.alloc (.cells #[.int .i64 (nowT ts s.i).k,.string (nowT ts s.i).s,.int .i64 (nowT ts s.i).n,.int .i64 (nowT ts s.i).l,.int .i64 (nowT ts s.i).c] 53));clear hb;simp only [tkV]
  go_wp2_with (fail)
  refine (mok_any _ HP1.out).mono ?_;rintro _ _ ⟨rfl,rfl⟩;have HE:Hid (Below w.heap.size w (w1.alloc (.cells #[.int .i64 (nowT ts s.i).k,.string (nowT ts s.i).s,.int .i64 (nowT ts s.i).n,.int .i64 (nowT ts s.i).l,.int .i64 (nowT ts s.i).c] 53))):=zz (HB1.out.trans ((below_new w1 _).mono HB1.out.size))
  cases hok:s.ok with
  | false =>
    go_wp2_with (fail)
    refine bodyPost_ret (results_tmp rfl _ _ _) rfl ?_;exact ⟨congrArg (fun b=>Ending.returned (.bool b)) (by unfold isS;rw [hok];rfl),HE.out⟩
  | true =>
    by_cases hk:(nowT ts s.i).k=k
    · subst hk
      have e1:((nowT ts s.i).k==(nowT ts s.i).k)=true:=by simp
      go_wp2_with (fail)
      refine bodyPost_ret (results_tmp rfl _ _ _) rfl ?_;refine ⟨congrArg (fun b=>Ending.returned (.bool b)) ?_,HE.out⟩;unfold isS isT;rw [hok,decide_eq_true rfl,Bool.true_and,Bool.true_and, ←ba_eq, ←toList_beq]
    · have e1:((nowT ts s.i).k==k)=false:=by simp [hk]
      go_wp2_with (fail)
      refine bodyPost_ret (results_tmp rfl _ _ _) rfl ?_;refine ⟨congrArg (fun b=>Ending.returned (.bool b)) ?_,HE.out⟩;unfold isS isT;rw [hok,decide_eq_false hk,Bool.false_and,Bool.true_and]
theorem mtake_any (k:Int) (x:ByteArray) (w:World) (hp:RS ts aL n cap q s d w) (hk1:k≠ -1):
    Calls Tryz.prog 20 #[.pointer (some ⟨q,0,none⟩),.int .i64 k,.string x] w fun e w'=>e=.returned (.tuple #[])∧FarQ q w w'∧RS ts aL n cap q (takeS ts s k x) d w':=by
  have HP:=zz hp;have hl:=hp.len;have hsm:=hp.sm;clear hp;go_enter Tryz.func20,Tryz.ntmps20
  go_wp2_with (fail)
  refine (mis_any k x _ HP.out).mono ?_;rintro _ w1 ⟨rfl,hb⟩;have HB1:=zz hb;have HP1:=krP HP hb;clear hb
  cases hi:isS ts s k x with
  | false =>
    go_wp2_with (fail)
    refine (mfail_any _ HP1.out).mono ?_;rintro _ w2 ⟨rfl,hf,hp⟩;have HF2:=zz hf;have HP2:=zz hp;clear hf hp
    go_wp2_with (fail)
    refine bodyPost_ret (results_none rfl _ _ _) rfl ?_;exact ⟨rfl,(FarQ.of HB1.out).trans HF2.out,by unfold takeS;rw [hi];exact HP2.out⟩
  | true =>
    have hlt:=isT_lt (isS_parts hi).2 hk1
    have hov:(s.i:Int)+1≤9223372036854775807:=by omega
    have qc:=kcR HP1
    go_wp2_with (fail)
    go_end0
    exact ⟨rfl,(FarQ.of HB1.out).trans (FarQ.set _ _ _),by unfold takeS;rw [hi];exact HP1.out.setI (by show _=((s.i+1:Nat):Int);omega)⟩
theorem mname_any (k:Int) (w:World) (hp:RS ts aL n cap q s d w) (hk1:k≠ -1):
    Calls Tryz.prog 55 #[.pointer (some ⟨q,0,none⟩),.int .i64 k] w fun e w'=>e=.returned (.string (nameS ts s k).1)∧FarQ q w w'∧RS ts aL n cap q (nameS ts s k).2 d w':=by
  have HP:=zz hp;have hl:=hp.len;have hsm:=hp.sm;clear hp;go_enter Tryz.func55,Tryz.ntmps55
  go_wp2_with (fail)
  refine (mnow_any _ HP.out.bo HP.out.mem).mono ?_;rintro _ w1 ⟨rfl,hb⟩;have HB1:=zz hb;have HP1:=krP HP hb;have HF:Hid (FarQ q w (w1.alloc (.cells #[.int .i64 (nowT ts s.i).k,.string (nowT ts s.i).s,.int .i64 (nowT ts s.i).n,.int .i64 (nowT ts s.i).l,.int .i64 (nowT ts s.i).c] 53))):=zz (FarQ.of (HB1.out.trans ((below_new w1 _).mono HB1.out.size)));have HP2:=zz (HP1.out.alloc (.cells #[.int .i64 (nowT ts s.i).k,.string (nowT ts s.i).s,.int .i64 (nowT ts s.i).n,.int .i64 (nowT ts s.i).l,.int .i64 (nowT ts s.i).c] 53));have hq1:=HP1.out.lt;have hqn:q≠w1.heap.size:=Nat.ne_of_lt hq1
  have hqn':w1.heap.size≠q:=fun e=>hqn e.symm
  clear hb;simp only [tkV]
  by_cases hk:(nowT ts s.i).k=k
  · subst hk
    have e1:((nowT ts s.i).k != (nowT ts s.i).k)=false:=by simp
    have hlt:s.i<ts.length:=now_lt hk1
    have hov:(s.i:Int)+1≤9223372036854775807:=by omega
    have qc:=kcR HP1
    go_wp2_with (fail)
    refine bodyPost_ret (results_tmp rfl _ _ _) rfl ?_;unfold nameS;rw [if_pos rfl];exact ⟨rfl,(FarQ.of HB1.out).trans ((FarQ.set _ _ _).trans (FarQ.of (below_new _ _))),(HP1.out.setI (k:=s.i+1) (v:=(s.i:Int)+1) (by omega)).alloc _⟩
  · have e1:((nowT ts s.i).k != k)=true:=by simp [hk]
    go_wp2_with (fail)
    refine (mfail_any _ HP2.out).mono ?_;rintro _ w2 ⟨rfl,hf,hp⟩;have HF2:=zz hf;have HP3:=zz hp;clear hf hp
    go_wp2_with (fail)
    refine bodyPost_ret (results_tmp rfl _ _ _) rfl ?_;unfold nameS;rw [if_neg hk];exact ⟨rfl,HF.out.trans HF2.out,HP3.out⟩
theorem mstarts_any (w:World) (hp:RS ts aL n cap q s d w):
    Calls Tryz.prog 125 #[.pointer (some ⟨q,0,none⟩)] w fun e w'=>e=.returned (.bool (startsS ts s))∧Below w.heap.size w w':=by
  have HP:=zz hp;clear hp;go_enter Tryz.func125,Tryz.ntmps125
  go_wp2_with (fail)
  refine (mnow_any _ HP.out.bo HP.out.mem).mono ?_;rintro _ w1 ⟨rfl,hb⟩;have HB1:=zz hb;have HP1:=zz ((krP HP hb).out.alloc (.cells #[.int .i64 (nowT ts s.i).k,.string (nowT ts s.i).s,.int .i64 (nowT ts s.i).n,.int .i64 (nowT ts s.i).l,.int .i64 (nowT ts s.i).c] 53));clear hb;simp only [tkV]
  go_wp2_with (fail)
  refine (mok_any _ HP1.out).mono ?_;rintro _ _ ⟨rfl,rfl⟩;have HE:Hid (Below w.heap.size w (w1.alloc (.cells #[.int .i64 (nowT ts s.i).k,.string (nowT ts s.i).s,.int .i64 (nowT ts s.i).n,.int .i64 (nowT ts s.i).l,.int .i64 (nowT ts s.i).c] 53))):=zz (HB1.out.trans ((below_new w1 _).mono HB1.out.size))
  cases hok:s.ok with
  | false =>
    go_wp2_with (fail)
    refine bodyPost_ret (results_tmp rfl _ _ _) rfl ?_;exact ⟨congrArg (fun b=>Ending.returned (.bool b)) (by unfold startsS;rw [hok];rfl),HE.out⟩
  | true =>
    by_cases h2:(nowT ts s.i).k=2
    · have e1:((nowT ts s.i).k==2)=true:=by simp [h2]
      go_wp2_with (fail)
      refine bodyPost_ret (results_tmp rfl _ _ _) rfl ?_;exact ⟨congrArg (fun b=>Ending.returned (.bool b)) (by unfold startsS;simp [hok,h2]),HB1.out.trans ((below_new w1 _).mono HB1.out.size)⟩
    · have e1:((nowT ts s.i).k==2)=false:=by simp [h2]
      by_cases h3:(nowT ts s.i).k=3
      · have e2:((nowT ts s.i).k==3)=true:=by simp [h3]
        go_wp2_with (fail)
        refine bodyPost_ret (results_tmp rfl _ _ _) rfl ?_;exact ⟨congrArg (fun b=>Ending.returned (.bool b)) (by unfold startsS;simp [hok,h3]),HB1.out.trans ((below_new w1 _).mono HB1.out.size)⟩
      · have e2:((nowT ts s.i).k==3)=false:=by simp [h3]
        go_wp2_with (fail)
        refine (mis_any 6 wOpen _ HP1.out).mono ?_;rintro _ w3 ⟨rfl,hb⟩;have HB3:=zz (HE.out.trans (hb.mono HE.out.size));clear hb
        go_wp2_with (fail)
        refine bodyPost_ret (results_tmp rfl _ _ _) rfl ?_;exact ⟨congrArg (fun b=>Ending.returned (.bool b)) (by unfold startsS;simp [hok,h2,h3]),HB3.out⟩
end
end
section
open Go.RowKit
theorem tk_kind (k n l c:Int) (s:ByteArray) (w:World):Sem.run Tryz.prog (Instr.field 53 (.agg #[.int .i64 k,.string s,.int .i64 n,.int .i64 l,.int .i64 c]) 0) w=.ok (.int .i64 k) w:=by kernel_rfl
attribute [local go_sem] tk_pos tk_kind
theorem Far.setS {g:Nat} {a w:World} (h:Far (fun b=>b=g) a w) (j:Nat) (v:Value):Far (fun b=>b=g) a (w.setCell ⟨g,j,none⟩ v):=h.setCell (p:=⟨g,j,none⟩) rfl v
theorem Far.drewC {Z:Nat→Prop} {a w:World} (h:Far Z a w):Far Z a w.drew:=Far.trans h (Far.of (below_drew _))
section
variable {ts:List Tk} {aL:Option Addr} {n cap q:Nat}
theorem pat_succ {f i deep:Nat} {r:Rd1} (hr:readE ts (f+1) .pat i deep=some r) (w:World) (hd:deep≤40) (H:∀ g,g<f+1→Reads ts aL n cap q 95 .pat g) (hp:PS ts aL n cap q i (deep:Int) w):
  Calls Tryz.prog 95 #[.pointer (some ⟨q,0,none⟩)] w (Ans ts aL n cap q r deep w):=by
 have HP:=zz hp;have hq0:=hp.lt;have HF:=zz (FarB.refl q w.heap.size w);clear hp;rw [readE] at hr
 go_enter_defers Tryz.func95,Tryz.ntmps95
 refine Code.wp_mono (doorQ_mono _ r deep w) ?_
 go_wp2_with (fail)
 generalize ee:(w.alloc (.cells #[.int .i64 0,.string ⟨#[]⟩,.int .i64 0,.slice none 0 0,.int .i64 0,.int .i64 0] 60))=w1 at *;have hsa1:=sizeA ee;replace HP:=pA HP ee;replace HF:=fA HF ee;have HBr:=nB ee (w.heap.size);clear ee;have qc:=kcP HP;have rc:=kc6 HBr;have hI:=iq_0_0 q w w1;have hZ:=iq_01 q w;clear qc rc;refine (now_any _ HP.out.bo HP.out.mem).mono ?_;rintro _ w2 ⟨rfl,hb⟩;have hf:=FarQ.of (q:=q) hb;replace HBr:=qB HBr hf;replace HF:=qF HF hf;have hs2:=hf.size;replace HP:=kP HP hb;clear hf hb;simp only [tkV];clear hI hZ;have qc:=kcP HP;have rc:=kc6 HBr;have hI:=iq_0_0 q w w2
 go_wp2_with (fail)
 clear qc rc;generalize ee:(w2.alloc (.cells #[.int .i64 (nowT ts i).l,.int .i64 (nowT ts i).c] 29))=w3 at *;have hsa3:=sizeA ee;replace HP:=pA HP ee;replace HF:=fA HF ee;replace HBr:=bA HBr ee;have HBp:=nB ee (w2.heap.size);clear ee;clear hI;have qc:=kcP HP;have rc:=kc6 HBr;have pc:=kc2 HBp;have hI:=iq_0_0_0 q w w2 w3;have hZ:=iq_0_01 q w w2
 rcases hwi:isT ts i 6 wWild
 rotate_left
 ·
  simp only [hwi,if_true] at hr;cases hr;clear qc rc pc;refine (is_any 6 wWild _ HP.out).mono ?_;rintro _ w4 ⟨rfl,hb⟩;have hf:=FarQ.of (q:=q) hb;replace HBr:=qB HBr hf;replace HBp:=qB HBp hf;replace HF:=qF HF hf;have hs4:=hf.size;replace HP:=kP HP hb;clear hf hb;rw [hwi];have hil:i<ts.length:=isT_lt hwi (by decide)
  have hoi:(i:Int)+1≤9223372036854775807:=by have :=HP.out.len;omega
  clear hI hZ;have qc:=kcP HP;have rc:=kc6 HBr;have pc:=kc2 HBp;have hI:=iq_0_0_0 q w w2 w4
  go_wp2_with (fail)
  clear qc rc pc;generalize ee:(w4.setCell ⟨q,1,none⟩ (.int .i64 ((i:Int)+1)))=w5_1 at *;have hq1:=sizeS1 ee;replace HP:=zz (HP.out.setIE (k:=(i+1)) ee (by omega));replace HF:=zz (HF.out.setQE ee);replace HBr:=bF1 HBr ee;replace HBp:=bF1 HBp ee;clear ee;generalize ee:((((((w5_1.setCell ⟨w.heap.size,0,none⟩ (.int .i64 9)).setCell ⟨w.heap.size,1,none⟩ (.string ⟨#[]⟩)).setCell ⟨w.heap.size,2,none⟩ (.int .i64 0)).setCell ⟨w.heap.size,3,none⟩ (.slice none 0 0)).setCell ⟨w.heap.size,4,none⟩ (.int .i64 (nowT ts i).l)).setCell ⟨w.heap.size,5,none⟩ (.int .i64 (nowT ts i).c))=w5 at *;have hq2:=sizeS6 ee;replace HP:=pO6 HP ee;replace HF:=fN6 HF ee;replace HBr:=bS6 HBr ee;replace HBp:=bF6 HBp ee;clear ee
  have hsz5:w5.heap.size=w4.heap.size:=by omega
  clear hq1 hq2;clear hI;refine door_plain ?_;have fc:=kc6 HBr;refine ⟨.agg #[.int .i64 9,.string ⟨#[]⟩,.int .i64 0,.slice none 0 0,.int .i64 (nowT ts i).l,.int .i64 (nowT ts i).c],(by clear HP HF HBr HBp;simp [results,Tryz.results95,go_sem,fc]),?_⟩;exact ⟨_,_,_,rfl,HF.out.out,HP.out,(memNone (x:=.mk 9 .empty 0 [] (nowT ts i).l (nowT ts i).c) rfl)⟩
 simp only [hwi,Bool.false_eq_true,if_false] at hr;clear qc rc pc;refine (is_any 6 wWild _ HP.out).mono ?_;rintro _ w4 ⟨rfl,hb⟩;have hf:=FarQ.of (q:=q) hb;replace HBr:=qB HBr hf;replace HBp:=qB HBp hf;replace HF:=qF HF hf;have hs4:=hf.size;replace HP:=kP HP hb;clear hf hb;rw [hwi];clear hI hZ;have qc:=kcP HP;have rc:=kc6 HBr;have pc:=kc2 HBp;have hI:=iq_0_0_0 q w w2 w4
 go_wp2_with (fail)
 cases hpl:plainE (nowT ts i) with
 | some x=>
  simp only [hpl] at hr;cases hr;clear qc rc pc;refine (plain_ok _ HP.out hpl).mono ?_;rintro _ w5 ⟨rfl,hf,hp⟩;replace HBr:=qB HBr hf;replace HBp:=qB HBp hf;replace HF:=qF HF hf;have hs5:=hf.size;replace HP:=zz hp;clear hf hp;simp only [exV];clear hI;have qc:=kcP HP;have rc:=kc6 HBr;have pc:=kc2 HBp;have hI:=iq_0_0_0 q w w2 w5
  go_wp2_with (fail)
  clear qc rc pc;generalize ee:((((((w5.setCell ⟨w.heap.size,0,none⟩ (.int .i64 x.kind)).setCell ⟨w.heap.size,1,none⟩ (.string x.name)).setCell ⟨w.heap.size,2,none⟩ (.int .i64 x.n)).setCell ⟨w.heap.size,3,none⟩ (.slice none 0 0)).setCell ⟨w.heap.size,4,none⟩ (.int .i64 x.line)).setCell ⟨w.heap.size,5,none⟩ (.int .i64 x.col))=w6_1 at *;have hq1:=sizeS6 ee;replace HP:=pO6 HP ee;replace HF:=fN6 HF ee;replace HBr:=bS6 HBr ee;replace HBp:=bF6 HBp ee;clear ee;generalize ee:(w6_1.alloc (.cells #[.int .i64 x.kind,.string x.name,.int .i64 x.n,.slice none 0 0,.int .i64 x.line,.int .i64 x.col] 60))=w6 at *;have hq2:=sizeA ee;replace HP:=pA HP ee;replace HF:=fA HF ee;replace HBr:=bA HBr ee;replace HBp:=bA HBp ee;have HBg:=nB ee (w5.heap.size);clear ee
  have hsa6:w6.heap.size=w5.heap.size+1:=by omega
  clear hq1 hq2;clear hI;refine door_plain ?_;have fc:=kc6 HBr;refine ⟨.agg #[.int .i64 x.kind,.string x.name,.int .i64 x.n,.slice none 0 0,.int .i64 x.line,.int .i64 x.col],(by clear HP HF HBr HBp HBg;simp [results,Tryz.results95,go_sem,fc]),?_⟩;exact ⟨_,_,_,rfl,HF.out.out,HP.out,memNone (plain_args hpl)⟩
 | none=>
  simp only [hpl] at hr;clear qc rc pc;refine (plain_bad _ HP.out hpl).mono ?_;rintro _ w5 ⟨⟨s_,l_,c_,rfl⟩,hf,hp⟩;replace HBr:=qB HBr hf;replace HBp:=qB HBp hf;replace HF:=qF HF hf;have hs5:=hf.size;replace HP:=zz hp;clear hf hp;clear hI;have qc:=kcP HP;have rc:=kc6 HBr;have pc:=kc2 HBp;have hI:=iq_0_0_0 q w w2 w5
  go_wp2_with (fail)
  clear qc rc pc;generalize ee:(w5.alloc (.cells #[.int .i64 0,.string s_,.int .i64 0,.slice none 0 0,.int .i64 l_,.int .i64 c_] 60))=w6 at *;have hsa6:=sizeA ee;replace HP:=pA HP ee;replace HF:=fA HF ee;replace HBr:=bA HBr ee;replace HBp:=bA HBp ee;have HBg:=nB ee (w5.heap.size);clear ee;clear hI;have qc:=kcP HP;have rc:=kc6 HBr;have pc:=kc2 HBp;have gc:=kc6 HBg;have hI:=iq_0_0_0_0 q w w2 w5 w6;have hZ:=iq_0_0_01 q w w2 w5
  rcases hop:isT ts i 6 wOpen
  ·
   simp only [hop,Bool.false_eq_true,if_false] at hr;cases hr;clear qc rc pc gc;refine (is_any 6 wOpen _ HP.out).mono ?_;rintro _ w7 ⟨rfl,hb⟩;have hf:=FarQ.of (q:=q) hb;replace HBr:=qB HBr hf;replace HBp:=qB HBp hf;replace HBg:=qB HBg hf;replace HF:=qF HF hf;have hs7:=hf.size;replace HP:=kP HP hb;clear hf hb;rw [hop];clear hI hZ;have qc:=kcP HP;have rc:=kc6 HBr;have pc:=kc2 HBp;have gc:=kc6 HBg;have hI:=iq_0_0_0_0 q w w2 w5 w7
   go_wp2_with (fail)
   clear qc rc pc gc;refine (fail_any _ HP.out.bo HP.out.mem).mono ?_;rintro _ w8 ⟨rfl,hb⟩;have hf:=FarQ.of (q:=q) hb;have hbo:=(HP.out.keep hb).any
   go_wp2_with (fail)
   exact ⟨_,_,rfl,rfl,.inl rfl,FarB.out (HF.out.farq hf),hbo⟩
  simp only [hop,if_true] at hr;clear qc rc pc gc;refine (is_any 6 wOpen _ HP.out).mono ?_;rintro _ w7 ⟨rfl,hb⟩;have hf:=FarQ.of (q:=q) hb;replace HBr:=qB HBr hf;replace HBp:=qB HBp hf;replace HBg:=qB HBg hf;replace HF:=qF HF hf;have hs7:=hf.size;replace HP:=kP HP hb;clear hf hb;rw [hop];clear hI hZ;have qc:=kcP HP;have rc:=kc6 HBr;have pc:=kc2 HBp;have gc:=kc6 HBg;have hI:=iq_0_0_0_0 q w w2 w5 w7
  go_wp2_with (fail)
  by_cases h40:deep=40
  ·
   rw [if_pos h40] at hr;cases hr;subst h40;clear qc rc pc gc;refine (down_bad _ (by exact HP.out)).mono ?_;rintro _ w8 ⟨rfl,hb⟩;have hf:=FarQ.of (q:=q) hb;have hbo:=(HP.out.keep hb).any
   go_wp2_with (fail)
   exact ⟨_,_,rfl,rfl,.inl rfl,FarB.out (HF.out.farq hf),hbo⟩
  rw [if_neg h40] at hr;have hil:i<ts.length:=isT_lt hop (by decide)
  have hd1:deep+1≤40:=by omega
  clear qc rc pc gc;refine (down_ok _ HP.out (by omega) (by omega) (by omega) hil).mono ?_;rintro _ w8 ⟨rfl,hf,hp⟩;replace HBr:=qB HBr hf;replace HBp:=qB HBp hf;replace HBg:=qB HBg hf;replace HF:=qF HF hf;have hs8:=hf.size;replace HP:=zz hp;clear hf hp
  replace HP:=zz (by have h:=HP.out;rw [show ((deep:Int)+1)=((deep+1:Nat):Int) by omega] at h;exact h)
  clear hI;have qc:=kcP HP;have rc:=kc6 HBr;have pc:=kc2 HBp;have gc:=kc6 HBg;have hI:=iq_0_0_0_0 q w w2 w5 w8
  go_wp2_with (fail)
  clear qc rc pc gc;refine (now_any _ HP.out.bo HP.out.mem).mono ?_;rintro _ w9 ⟨rfl,hb⟩;have hf:=FarQ.of (q:=q) hb;replace HBr:=qB HBr hf;replace HBp:=qB HBp hf;replace HBg:=qB HBg hf;replace HF:=qF HF hf;have hs9:=hf.size;replace HP:=kP HP hb;clear hf hb;simp only [tkV]
  by_cases hu:(nowT ts (i+1)).k=3
  rotate_left
  ·
   have eu:((nowT ts (i+1)).k==3)=false:=by simp [hu]
   rw [if_neg hu] at hr;clear hu;clear hI;have qc:=kcP HP;have rc:=kc6 HBr;have pc:=kc2 HBp;have gc:=kc6 HBg;have hI:=iq_0_0_0_0 q w w2 w5 w9
   go_wp2_with (fail)
   rcases hx:readE ts f .pat (i+1) (deep+1) with _ | ⟨x,j⟩ | ⟨l_,c_⟩
   · (rw [hx] at hr;cases hr)
   rotate_left
   ·
    rw [hx] at hr
    first | simp only at hr | simp only [andT] at hr
    cases hr;clear qc rc pc gc;refine ((H f (Nat.lt_succ_self f)) (i+1) (deep+1) _ _ hd1 hx HP.out).mono ?_;rintro _ w10 ⟨rfl,hf,hbo⟩
    go_wp2_with (fail)
    exact ⟨_,_,rfl,rfl,.inr rfl,FarB.out (HF.out.farq hf),hbo⟩
   rw [hx] at hr
   first | simp only at hr | simp only [andT] at hr
   clear qc rc pc gc;refine ((H f (Nat.lt_succ_self f)) (i+1) (deep+1) _ _ hd1 hx HP.out).mono ?_;rintro _ w10 ⟨ax,mx,cx,rfl,hf,hp,hm⟩;replace HBr:=qB HBr hf;replace HBp:=qB HBp hf;replace HBg:=qB HBg hf;replace HF:=qF HF hf;have hs10:=hf.size;replace HP:=zz hp;have HMx:=zz hm;clear hf hp hm;simp only [exV];have hfw:i+1<j∧j≤ts.length:=readE_fwd f .pat (i+1) (deep+1) x j hx;clear hI;have qc:=kcP HP;have rc:=kc6 HBr;have pc:=kc2 HBp;have gc:=kc6 HBg;have hI:=iq_0_0_0_0 q w w2 w5 w10
   go_wp2_with (fail)
   clear qc rc pc gc;generalize ee:(w10.alloc (.cells #[.int .i64 x.kind,.string x.name,.int .i64 x.n,.slice ax mx cx,.int .i64 x.line,.int .i64 x.col] 60))=w11 at *;have hsa11:=sizeA ee;have HNEW:=zz (builtE1E (base:=w9.heap.size) (memNw HMx.out (by omega)) ee (b:=w10.heap.size) (by omega) (by omega));replace HP:=pA HP ee;replace HF:=fA HF ee;replace HBr:=bA HBr ee;replace HBp:=bA HBp ee;replace HBg:=bA HBg ee;replace HMx:=mA HMx ee;have HOl:=HNEW;clear HNEW;clear ee;clear hI;clear HMx
   go_loopw [7] (fun v wr=>∃ (l:List Ex) (jj:Nat),(takeT ts jj 6 wClose (some (.ok (appE l) (jj+1)))=some r)∧Hid (PS ts aL n cap q jj ((deep+1:Nat):Int) wr)∧Hid (FarB q w.heap.size w wr)∧Hid (Bo wr w.heap.size 60 #[.int .i64 0,.string ⟨#[]⟩,.int .i64 0,.slice none 0 0,.int .i64 0,.int .i64 0])∧Hid (OwnD 0 w9.heap.size 60 6 wr v (Ex.rows l))∧l≠[]∧l.length≤jj∧jj≤ts.length∧w9.heap.size≤wr.heap.size) (fun v _=>ts.length+1 - lenV v)
   case atStart=>exact ⟨[x],j,hr,HP,HF,HBr,HOl,(by simp),(by simp only [List.length_cons,List.length_nil];omega),hfw.2,by omega⟩
   case round=>
    clear HP HF HBr HOl hr;obtain ⟨l,jj,hr,HP,HF,HBr,HOl,hl0,hl1,hl2,hws⟩:=hrel;clear HBp HBg;obtain ⟨a1,m1,c1,rfl,hm1,hm2,hm3⟩:=HOl.out.form2
    have hsm:m1≤1048576:=by have h1:=HP.out.len.1;have h2:=HP.out.sm;omega
    have HM1:=zz hm1;clear hm1 hm3;have qc:=kcP HP;have rc:=kc6 HBr;have hI:=iq_0_0 q w wr
    go_wp2_with (fail)
    clear qc rc;clear hI;have qc:=kcP HP;have rc:=kc6 HBr;have hI:=iq_0_0 q w wr
    go_wp2_with (fail)
    rcases hcl:isT ts jj 6 wClose
    ·
     first | simp only [hcl,Bool.false_eq_true,if_false] at hr | simp only [takeT,hcl,Bool.false_eq_true,if_false] at hr
     cases hr;clear qc rc;refine (take_bad 6 wClose _ HP.out hcl).mono ?_;rintro _ w12 ⟨rfl,hb⟩;have hf:=FarQ.of (q:=q) hb;have hbo:=(HP.out.keep hb).any
     go_wp2_with (fail)
     exact ⟨_,_,rfl,rfl,.inr rfl,FarB.out (HF.out.farq hf),hbo⟩
    first | simp only [hcl,if_true] at hr | simp only [takeT,hcl,if_true] at hr
    cases hr;clear qc rc;refine (take_ok 6 wClose _ HP.out hcl (by decide)).mono ?_;rintro _ w12 ⟨rfl,hf,hp⟩;replace HBr:=qB HBr hf;replace HOl:=qO HOl hf;replace HF:=qF HF hf;have hs12:=hf.size;replace HP:=zz hp;clear hf hp;have HML:Hid (Mem (Nw 0 w9.heap.size w12.heap.size) w12 (.s 6 (Ex.rows l)) (.slice a1 m1 c1)):=zz HOl.out.mem;obtain ⟨b2,o2,z,a2,m2,c2,rfl,hz,z0,z1,z2,z3,z4,z5,HMz⟩:=ex_at HML.out 0 (List.length_pos_iff.2 hl0);rw [Nat.zero_mul,Nat.add_zero] at z0 z1 z2 z3 z4 z5;have hbb:w9.heap.size≤b2:=(HOl.out.lt b2 rfl).1
    by_cases h1:l.length=1
    ·
     obtain rfl:m1=1:=by have :=HM1.out;omega
     have hm9:((1:Int)==1)=true:=rfl;have HZ:Hid (appE l=z):=zz (by match l,h1,hz.out with | [e],_,h=>simpa [appE] using h);clear hI;have qc:=kcP HP;have rc:=kc6 HBr;have hI:=iq_0_0 q w w12
     go_wp2_with (fail)
     clear HML;clear qc rc;generalize ee:((((((w12.setCell ⟨w.heap.size,0,none⟩ (.int .i64 z.kind)).setCell ⟨w.heap.size,1,none⟩ (.string z.name)).setCell ⟨w.heap.size,2,none⟩ (.int .i64 z.n)).setCell ⟨w.heap.size,3,none⟩ (.slice a2 m2 c2)).setCell ⟨w.heap.size,4,none⟩ (.int .i64 z.line)).setCell ⟨w.heap.size,5,none⟩ (.int .i64 z.col))=w13 at *;have hsz13:=sizeS6 ee;replace HP:=pO6 HP ee;replace HF:=fN6 HF ee;replace HBr:=bS6 HBr ee;replace HMz:=mS6 HMz ee;replace HOl:=oS6 HOl ee;clear ee;clear hI;rw [HZ.out];refine door_up HP.out.bo ?_;generalize ee:(w13.setCell ⟨q,2,none⟩ (.int .i64 (wrap64 (((deep+1:Nat):Int) - 1))))=w14 at *;have hsz14:=sizeS1 ee;replace HP:=zz (HP.out.setDE (k:=((deep:Int))) ee (wrap_up hd));replace HF:=zz (HF.out.setQE ee);replace HBr:=bF1 HBr ee;replace HMz:=mS1 HMz ee;replace HOl:=oS1 HOl ee;clear ee;have fc:=kc6 HBr;refine ⟨.agg #[.int .i64 z.kind,.string z.name,.int .i64 z.n,.slice a2 m2 c2,.int .i64 z.line,.int .i64 z.col],(by clear HP HF HBr HMz HOl;simp [results,Tryz.results95,go_sem,fc]),?_⟩;exact ⟨_,_,_,rfl,HF.out.out,HP.out,memNw HMz.out (by omega)⟩
    have hm9:((m1:Int)==1)=false:=by have :=HM1.out;have h0:=List.length_pos_iff.2 hl0;simp;omega
    have hm8:1<m1:=by have :=HM1.out;have h0:=List.length_pos_iff.2 hl0;omega
    have hm7:0<m1:=by omega
    clear hI;have qc:=kcP HP;have rc:=kc6 HBr;have hI:=iq_0_0 q w w12
    go_wp2_with (fail)
    clear HML HMz
    have HZ:Hid (appE l=.mk 4 .empty 0 l z.line z.col):=zz (by match l,h1,hl0,hz.out with | e::e2::es,_,_,h=>(have h2:e=z:=by simpa using h);rw [←h2];rfl)
    refine wp_region_held_drew (S:=fun w'=>Far (fun b=>b=w.heap.size) (w12) w') (by kernel_rfl) (Far.of (below_drew _)) (fun hS30=>?_);refine takeA 0 (v:=?_) rfl ?_ ?_;rotate_left;· intro w hSw;replace z0:=Far.cellZ z0 hSw (by intro e;have e:b2=_:=e;omega);replace z1:=Far.cellZ z1 hSw (by intro e;have e:b2=_:=e;omega);replace z2:=Far.cellZ z2 hSw (by intro e;have e:b2=_:=e;omega);replace z3:=Far.cellZ z3 hSw (by intro e;have e:b2=_:=e;omega);replace z4:=Far.cellZ z4 hSw (by intro e;have e:b2=_:=e;omega);replace z5:=Far.cellZ z5 hSw (by intro e;have e:b2=_:=e;omega);go_simp;try rfl
    (try simp only [pu]);refine takeA 1 (v:=?_) rfl ?_ ?_;rotate_left;· intro w hSw;replace z0:=Far.cellZ z0 hSw (by intro e;have e:b2=_:=e;omega);replace z1:=Far.cellZ z1 hSw (by intro e;have e:b2=_:=e;omega);replace z2:=Far.cellZ z2 hSw (by intro e;have e:b2=_:=e;omega);replace z3:=Far.cellZ z3 hSw (by intro e;have e:b2=_:=e;omega);replace z4:=Far.cellZ z4 hSw (by intro e;have e:b2=_:=e;omega);replace z5:=Far.cellZ z5 hSw (by intro e;have e:b2=_:=e;omega);go_simp;try rfl
    (try simp only [pu]);refine takeA 2 (v:=?_) rfl ?_ ?_;rotate_left;· intro w hSw;replace z0:=Far.cellZ z0 hSw (by intro e;have e:b2=_:=e;omega);replace z1:=Far.cellZ z1 hSw (by intro e;have e:b2=_:=e;omega);replace z2:=Far.cellZ z2 hSw (by intro e;have e:b2=_:=e;omega);replace z3:=Far.cellZ z3 hSw (by intro e;have e:b2=_:=e;omega);replace z4:=Far.cellZ z4 hSw (by intro e;have e:b2=_:=e;omega);replace z5:=Far.cellZ z5 hSw (by intro e;have e:b2=_:=e;omega);go_simp;try rfl
    (try simp only [pu]);refine takeA 3 (v:=?_) rfl ?_ ?_;rotate_left;· intro w hSw;replace z0:=Far.cellZ z0 hSw (by intro e;have e:b2=_:=e;omega);replace z1:=Far.cellZ z1 hSw (by intro e;have e:b2=_:=e;omega);replace z2:=Far.cellZ z2 hSw (by intro e;have e:b2=_:=e;omega);replace z3:=Far.cellZ z3 hSw (by intro e;have e:b2=_:=e;omega);replace z4:=Far.cellZ z4 hSw (by intro e;have e:b2=_:=e;omega);replace z5:=Far.cellZ z5 hSw (by intro e;have e:b2=_:=e;omega);go_simp;try rfl
    (try simp only [pu]);refine takeA 4 (v:=?_) rfl ?_ ?_;rotate_left;· intro w hSw;replace z0:=Far.cellZ z0 hSw (by intro e;have e:b2=_:=e;omega);replace z1:=Far.cellZ z1 hSw (by intro e;have e:b2=_:=e;omega);replace z2:=Far.cellZ z2 hSw (by intro e;have e:b2=_:=e;omega);replace z3:=Far.cellZ z3 hSw (by intro e;have e:b2=_:=e;omega);replace z4:=Far.cellZ z4 hSw (by intro e;have e:b2=_:=e;omega);replace z5:=Far.cellZ z5 hSw (by intro e;have e:b2=_:=e;omega);go_simp;try rfl
    (try simp only [pu]);refine callA 5 rfl fun K hK=>?_;go_simp;refine hK.out _ _ ?_ (fun hS31=>?_);· exact (by refine Far.drewC ?_;(iterate 6 (with_reducible refine Far.setS ?_ _ _));exact Far.refl _ _)
    clear hK K;clear qc rc;generalize ee:((((((w12.setCell ⟨w.heap.size,0,none⟩ (.int .i64 0)).setCell ⟨w.heap.size,1,none⟩ (.string ⟨#[]⟩)).setCell ⟨w.heap.size,2,none⟩ (.int .i64 0)).setCell ⟨w.heap.size,3,none⟩ (.slice none 0 0)).setCell ⟨w.heap.size,4,none⟩ (.int .i64 0)).setCell ⟨w.heap.size,5,none⟩ (.int .i64 0))=w13_1 at *;have hq1:=sizeS6 ee;replace HP:=pO6 HP ee;replace HF:=fN6 HF ee;replace HBr:=bS6 HBr ee;replace HOl:=oS6 HOl ee;clear ee;generalize ee:(w13_1.drew)=w13 at *;have hq2:=sizeD ee;replace HP:=pD HP ee;replace HF:=fD HF ee;replace HBr:=bD HBr ee;replace HOl:=oD HOl ee;clear ee
    have hsa13:w13.heap.size=w12.heap.size+0:=by omega
    clear hq1 hq2;clear hI;have qc:=kcP HP;have rc:=kc6 HBr;have hI:=iq_0_0 q w w13;have hZ:=iq_0_0 q w w12;refine takeA 6 (v:=?_) rfl ?_ ?_;rotate_left;· intros;go_simp;try rfl
    (try simp only [pu]);refine callA 7 rfl fun K hK=>?_;go_simp;refine hK.out _ _ (Far.setS hS31 _ _) (fun hS32=>?_);clear hK K;clear qc rc;generalize ee:(w13.setCell ⟨w.heap.size,0,none⟩ (.int .i64 4))=w14 at *;have hsz14:=sizeS1 ee;replace HP:=pO1 HP ee;replace HF:=fN1 HF ee;replace HBr:Hid (Bo w14 w.heap.size 60 #[.int .i64 4,.string ⟨#[]⟩,.int .i64 0,.slice none 0 0,.int .i64 0,.int .i64 0]):=zz (by rw [←ee];exact HBr.out.set 0 (.int .i64 4));replace HOl:=oS1 HOl ee;clear ee;clear hI hZ;have qc:=kcP HP;have rc:=kc6 HBr;have hI:=iq_0_0 q w w14;have hZ:=iq_0_0 q w w12;refine takeA 8 (v:=?_) rfl ?_ ?_;rotate_left;· intros;go_simp;try rfl
    (try simp only [pu]);refine callA 9 rfl fun K hK=>?_;go_simp;refine hK.out _ _ (Far.setS hS32 _ _) (fun hS33=>?_);clear hK K;clear qc rc;generalize ee:(w14.setCell ⟨w.heap.size,3,none⟩ (.slice (some ⟨b2,o2,none⟩) m1 c1))=w15 at *;have hsz15:=sizeS1 ee;replace HP:=pO1 HP ee;replace HF:=fN1 HF ee;replace HBr:Hid (Bo w15 w.heap.size 60 #[.int .i64 4,.string ⟨#[]⟩,.int .i64 0,.slice (some ⟨b2,o2,none⟩) m1 c1,.int .i64 0,.int .i64 0]):=zz (by rw [←ee];exact HBr.out.set 3 (.slice (some ⟨b2,o2,none⟩) m1 c1));replace HOl:=oS1 HOl ee;clear ee;clear hI hZ;have qc:=kcP HP;have rc:=kc6 HBr;have hI:=iq_0_0 q w w15;have hZ:=iq_0_0 q w w12;refine takeA 10 (v:=?_) rfl ?_ ?_;rotate_left;· intros;go_simp;try rfl
    (try simp only [pu]);refine callA 11 rfl fun K hK=>?_;go_simp;refine hK.out _ _ (Far.setS (Far.setS hS33 _ _) _ _) (fun hS34=>?_);clear hK K;refine wpAnyH_done (by kernel_rfl) ?_ _;clear qc rc;generalize ee:(w15.setCell ⟨w.heap.size,4,none⟩ (.int .i64 z.line))=w16_1 at *;have hq1:=sizeS1 ee;replace HP:=pO1 HP ee;replace HF:=fN1 HF ee;replace HBr:Hid (Bo w16_1 w.heap.size 60 #[.int .i64 4,.string ⟨#[]⟩,.int .i64 0,.slice (some ⟨b2,o2,none⟩) m1 c1,.int .i64 z.line,.int .i64 0]):=zz (by rw [←ee];exact HBr.out.set 4 (.int .i64 z.line));replace HOl:=oS1 HOl ee;clear ee;generalize ee:(w16_1.setCell ⟨w.heap.size,5,none⟩ (.int .i64 z.col))=w16 at *;have hq2:=sizeS1 ee;replace HP:=pO1 HP ee;replace HF:=fN1 HF ee;replace HBr:Hid (Bo w16 w.heap.size 60 #[.int .i64 4,.string ⟨#[]⟩,.int .i64 0,.slice (some ⟨b2,o2,none⟩) m1 c1,.int .i64 z.line,.int .i64 z.col]):=zz (by rw [←ee];exact HBr.out.set 5 (.int .i64 z.col));replace HOl:=oS1 HOl ee;clear ee
    have hsz16:w16.heap.size=w15.heap.size:=by omega
    clear hq1 hq2;clear hI hZ
    go_wp2_with (fail)
    rw [HZ.out];refine door_up HP.out.bo ?_;generalize ee:(w16.setCell ⟨q,2,none⟩ (.int .i64 (wrap64 (((deep+1:Nat):Int) - 1))))=w17 at *;have hsz17:=sizeS1 ee;replace HP:=zz (HP.out.setDE (k:=((deep:Int))) ee (wrap_up hd));replace HF:=zz (HF.out.setQE ee);replace HBr:=bF1 HBr ee;replace HOl:=oS1 HOl ee;clear ee;have fc:=kc6 HBr;refine ⟨.agg #[.int .i64 4,.string ⟨#[]⟩,.int .i64 0,.slice (some ⟨b2,o2,none⟩) m1 c1,.int .i64 z.line,.int .i64 z.col],(by clear HP HF HBr HOl;simp [results,Tryz.results95,go_sem,fc]),?_⟩;exact ⟨_,_,_,rfl,HF.out.out,HP.out,memNw HOl.out.mem (by omega)⟩
  have eu:((nowT ts (i+1)).k==3)=true:=by simp [hu]
  rw [if_pos hu] at hr;clear hu;clear hI;have qc:=kcP HP;have rc:=kc6 HBr;have pc:=kc2 HBp;have gc:=kc6 HBg;have hI:=iq_0_0_0_0 q w w2 w5 w9
  go_wp2_with (fail)
  rcases hx:readE ts f .pat (i+1) (deep+1) with _ | ⟨x,j⟩ | ⟨l_,c_⟩
  · (rw [hx] at hr;cases hr)
  rotate_left
  ·
   rw [hx] at hr
   first | simp only at hr | simp only [andT] at hr
   cases hr;clear qc rc pc gc;refine ((H f (Nat.lt_succ_self f)) (i+1) (deep+1) _ _ hd1 hx HP.out).mono ?_;rintro _ w10 ⟨rfl,hf,hbo⟩
   go_wp2_with (fail)
   exact ⟨_,_,rfl,rfl,.inr rfl,FarB.out (HF.out.farq hf),hbo⟩
  rw [hx] at hr
  first | simp only at hr | simp only [andT] at hr
  clear qc rc pc gc;refine ((H f (Nat.lt_succ_self f)) (i+1) (deep+1) _ _ hd1 hx HP.out).mono ?_;rintro _ w10 ⟨ax,mx,cx,rfl,hf,hp,hm⟩;replace HBr:=qB HBr hf;replace HBp:=qB HBp hf;replace HBg:=qB HBg hf;replace HF:=qF HF hf;have hs10:=hf.size;replace HP:=zz hp;have HMx:=zz hm;clear hf hp hm;simp only [exV];have hfw:i+1<j∧j≤ts.length:=readE_fwd f .pat (i+1) (deep+1) x j hx;clear hI;have qc:=kcP HP;have rc:=kc6 HBr;have pc:=kc2 HBp;have gc:=kc6 HBg;have hI:=iq_0_0_0_0 q w w2 w5 w10
  go_wp2_with (fail)
  clear qc rc pc gc;generalize ee:(w10.alloc (.cells #[.int .i64 x.kind,.string x.name,.int .i64 x.n,.slice ax mx cx,.int .i64 x.line,.int .i64 x.col] 60))=w11 at *;have hsa11:=sizeA ee;have HNEW:=zz (builtE1E (base:=w9.heap.size) (memNw HMx.out (by omega)) ee (b:=w10.heap.size) (by omega) (by omega));replace HP:=pA HP ee;replace HF:=fA HF ee;replace HBr:=bA HBr ee;replace HBp:=bA HBp ee;replace HBg:=bA HBg ee;replace HMx:=mA HMx ee;have HOl:=HNEW;clear HNEW;clear ee;clear hI;clear HMx
  go_loopw [7] (fun v wr=>∃ (l:List Ex) (jj:Nat),(∃ g,g≤f∧readE ts g (.pats l) jj (deep+1)=some r)∧Hid (PS ts aL n cap q jj ((deep+1:Nat):Int) wr)∧Hid (FarB q w.heap.size w wr)∧Hid (Bo wr w.heap.size 60 #[.int .i64 0,.string ⟨#[]⟩,.int .i64 0,.slice none 0 0,.int .i64 0,.int .i64 0])∧Hid (OwnD 0 w9.heap.size 60 6 wr v (Ex.rows l))∧l≠[]∧l.length≤jj∧jj≤ts.length∧w9.heap.size≤wr.heap.size) (fun v _=>ts.length+1 - lenV v)
  case atStart=>exact ⟨[x],j,⟨f,Nat.le_refl _,hr⟩,HP,HF,HBr,HOl,(by simp),(by simp only [List.length_cons,List.length_nil];omega),hfw.2,by omega⟩
  case round=>
   clear HP HF HBr HOl hr;obtain ⟨l,jj,hr,HP,HF,HBr,HOl,hl0,hl1,hl2,hws⟩:=hrel;clear HBp HBg;obtain ⟨a1,m1,c1,rfl,hm1,hm2,hm3⟩:=HOl.out.form2
   have hsm:m1≤1048576:=by have h1:=HP.out.len.1;have h2:=HP.out.sm;omega
   have HM1:=zz hm1;clear hm1 hm3;have qc:=kcP HP;have rc:=kc6 HBr;have hI:=iq_0_0 q w wr
   go_wp2_with (fail)
   obtain ⟨g,hg,hr⟩:=hr
   cases g with
   | zero=>rw [readE] at hr;cases hr
   | succ g=>
    rw [readE] at hr
    cases hce:isT ts jj 6 wClose with
    | true=>
     simp only [hce,if_true] at hr;clear qc rc;refine (is_any 6 wClose _ HP.out).mono ?_;rintro _ w12 ⟨rfl,hb⟩;have hf:=FarQ.of (q:=q) hb;replace HBr:=qB HBr hf;replace HOl:=qO HOl hf;replace HF:=qF HF hf;have hs12:=hf.size;replace HP:=kP HP hb;clear hf hb;rw [hce]
     have hr:takeT ts jj 6 wClose (some (.ok (appE l) (jj+1)))=some r:=by simp only [takeT,hce,if_true];exact hr
     clear hI;have qc:=kcP HP;have rc:=kc6 HBr;have hI:=iq_0_0 q w w12
     go_wp2_with (fail)
     rcases hcl:isT ts jj 6 wClose
     ·
      first | simp only [hcl,Bool.false_eq_true,if_false] at hr | simp only [takeT,hcl,Bool.false_eq_true,if_false] at hr
      cases hr;clear qc rc;refine (take_bad 6 wClose _ HP.out hcl).mono ?_;rintro _ w13 ⟨rfl,hb⟩;have hf:=FarQ.of (q:=q) hb;have hbo:=(HP.out.keep hb).any
      go_wp2_with (fail)
      exact ⟨_,_,rfl,rfl,.inr rfl,FarB.out (HF.out.farq hf),hbo⟩
     first | simp only [hcl,if_true] at hr | simp only [takeT,hcl,if_true] at hr
     cases hr;clear qc rc;refine (take_ok 6 wClose _ HP.out hcl (by decide)).mono ?_;rintro _ w13 ⟨rfl,hf,hp⟩;replace HBr:=qB HBr hf;replace HOl:=qO HOl hf;replace HF:=qF HF hf;have hs13:=hf.size;replace HP:=zz hp;clear hf hp;have HML:Hid (Mem (Nw 0 w9.heap.size w13.heap.size) w13 (.s 6 (Ex.rows l)) (.slice a1 m1 c1)):=zz HOl.out.mem;obtain ⟨b2,o2,z,a2,m2,c2,rfl,hz,z0,z1,z2,z3,z4,z5,HMz⟩:=ex_at HML.out 0 (List.length_pos_iff.2 hl0);rw [Nat.zero_mul,Nat.add_zero] at z0 z1 z2 z3 z4 z5;have hbb:w9.heap.size≤b2:=(HOl.out.lt b2 rfl).1
     by_cases h1:l.length=1
     ·
      obtain rfl:m1=1:=by have :=HM1.out;omega
      have hm9:((1:Int)==1)=true:=rfl;have HZ:Hid (appE l=z):=zz (by match l,h1,hz.out with | [e],_,h=>simpa [appE] using h);clear hI;have qc:=kcP HP;have rc:=kc6 HBr;have hI:=iq_0_0 q w w13
      go_wp2_with (fail)
      clear HML;clear qc rc;generalize ee:((((((w13.setCell ⟨w.heap.size,0,none⟩ (.int .i64 z.kind)).setCell ⟨w.heap.size,1,none⟩ (.string z.name)).setCell ⟨w.heap.size,2,none⟩ (.int .i64 z.n)).setCell ⟨w.heap.size,3,none⟩ (.slice a2 m2 c2)).setCell ⟨w.heap.size,4,none⟩ (.int .i64 z.line)).setCell ⟨w.heap.size,5,none⟩ (.int .i64 z.col))=w14 at *;have hsz14:=sizeS6 ee;replace HP:=pO6 HP ee;replace HF:=fN6 HF ee;replace HBr:=bS6 HBr ee;replace HMz:=mS6 HMz ee;replace HOl:=oS6 HOl ee;clear ee;clear hI;rw [HZ.out];refine door_up HP.out.bo ?_;generalize ee:(w14.setCell ⟨q,2,none⟩ (.int .i64 (wrap64 (((deep+1:Nat):Int) - 1))))=w15 at *;have hsz15:=sizeS1 ee;replace HP:=zz (HP.out.setDE (k:=((deep:Int))) ee (wrap_up hd));replace HF:=zz (HF.out.setQE ee);replace HBr:=bF1 HBr ee;replace HMz:=mS1 HMz ee;replace HOl:=oS1 HOl ee;clear ee;have fc:=kc6 HBr;refine ⟨.agg #[.int .i64 z.kind,.string z.name,.int .i64 z.n,.slice a2 m2 c2,.int .i64 z.line,.int .i64 z.col],(by clear HP HF HBr HMz HOl;simp [results,Tryz.results95,go_sem,fc]),?_⟩;exact ⟨_,_,_,rfl,HF.out.out,HP.out,memNw HMz.out (by omega)⟩
     have hm9:((m1:Int)==1)=false:=by have :=HM1.out;have h0:=List.length_pos_iff.2 hl0;simp;omega
     have hm8:1<m1:=by have :=HM1.out;have h0:=List.length_pos_iff.2 hl0;omega
     have hm7:0<m1:=by omega
     clear hI;have qc:=kcP HP;have rc:=kc6 HBr;have hI:=iq_0_0 q w w13
     go_wp2_with (fail)
     clear HML HMz
     have HZ:Hid (appE l=.mk 4 .empty 0 l z.line z.col):=zz (by match l,h1,hl0,hz.out with | e::e2::es,_,_,h=>(have h2:e=z:=by simpa using h);rw [←h2];rfl)
     refine wp_region_held_drew (S:=fun w'=>Far (fun b=>b=w.heap.size) (w13) w') (by kernel_rfl) (Far.of (below_drew _)) (fun hS30=>?_);refine takeA 0 (v:=?_) rfl ?_ ?_;rotate_left;· intro w hSw;replace z0:=Far.cellZ z0 hSw (by intro e;have e:b2=_:=e;omega);replace z1:=Far.cellZ z1 hSw (by intro e;have e:b2=_:=e;omega);replace z2:=Far.cellZ z2 hSw (by intro e;have e:b2=_:=e;omega);replace z3:=Far.cellZ z3 hSw (by intro e;have e:b2=_:=e;omega);replace z4:=Far.cellZ z4 hSw (by intro e;have e:b2=_:=e;omega);replace z5:=Far.cellZ z5 hSw (by intro e;have e:b2=_:=e;omega);go_simp;try rfl
     (try simp only [pu]);refine takeA 1 (v:=?_) rfl ?_ ?_;rotate_left;· intro w hSw;replace z0:=Far.cellZ z0 hSw (by intro e;have e:b2=_:=e;omega);replace z1:=Far.cellZ z1 hSw (by intro e;have e:b2=_:=e;omega);replace z2:=Far.cellZ z2 hSw (by intro e;have e:b2=_:=e;omega);replace z3:=Far.cellZ z3 hSw (by intro e;have e:b2=_:=e;omega);replace z4:=Far.cellZ z4 hSw (by intro e;have e:b2=_:=e;omega);replace z5:=Far.cellZ z5 hSw (by intro e;have e:b2=_:=e;omega);go_simp;try rfl
     (try simp only [pu]);refine takeA 2 (v:=?_) rfl ?_ ?_;rotate_left;· intro w hSw;replace z0:=Far.cellZ z0 hSw (by intro e;have e:b2=_:=e;omega);replace z1:=Far.cellZ z1 hSw (by intro e;have e:b2=_:=e;omega);replace z2:=Far.cellZ z2 hSw (by intro e;have e:b2=_:=e;omega);replace z3:=Far.cellZ z3 hSw (by intro e;have e:b2=_:=e;omega);replace z4:=Far.cellZ z4 hSw (by intro e;have e:b2=_:=e;omega);replace z5:=Far.cellZ z5 hSw (by intro e;have e:b2=_:=e;omega);go_simp;try rfl
     (try simp only [pu]);refine takeA 3 (v:=?_) rfl ?_ ?_;rotate_left;· intro w hSw;replace z0:=Far.cellZ z0 hSw (by intro e;have e:b2=_:=e;omega);replace z1:=Far.cellZ z1 hSw (by intro e;have e:b2=_:=e;omega);replace z2:=Far.cellZ z2 hSw (by intro e;have e:b2=_:=e;omega);replace z3:=Far.cellZ z3 hSw (by intro e;have e:b2=_:=e;omega);replace z4:=Far.cellZ z4 hSw (by intro e;have e:b2=_:=e;omega);replace z5:=Far.cellZ z5 hSw (by intro e;have e:b2=_:=e;omega);go_simp;try rfl
     (try simp only [pu]);refine takeA 4 (v:=?_) rfl ?_ ?_;rotate_left;· intro w hSw;replace z0:=Far.cellZ z0 hSw (by intro e;have e:b2=_:=e;omega);replace z1:=Far.cellZ z1 hSw (by intro e;have e:b2=_:=e;omega);replace z2:=Far.cellZ z2 hSw (by intro e;have e:b2=_:=e;omega);replace z3:=Far.cellZ z3 hSw (by intro e;have e:b2=_:=e;omega);replace z4:=Far.cellZ z4 hSw (by intro e;have e:b2=_:=e;omega);replace z5:=Far.cellZ z5 hSw (by intro e;have e:b2=_:=e;omega);go_simp;try rfl
     (try simp only [pu]);refine callA 5 rfl fun K hK=>?_;go_simp;refine hK.out _ _ ?_ (fun hS31=>?_);· exact (by refine Far.drewC ?_;(iterate 6 (with_reducible refine Far.setS ?_ _ _));exact Far.refl _ _)
     clear hK K;clear qc rc;generalize ee:((((((w13.setCell ⟨w.heap.size,0,none⟩ (.int .i64 0)).setCell ⟨w.heap.size,1,none⟩ (.string ⟨#[]⟩)).setCell ⟨w.heap.size,2,none⟩ (.int .i64 0)).setCell ⟨w.heap.size,3,none⟩ (.slice none 0 0)).setCell ⟨w.heap.size,4,none⟩ (.int .i64 0)).setCell ⟨w.heap.size,5,none⟩ (.int .i64 0))=w14_1 at *;have hq1:=sizeS6 ee;replace HP:=pO6 HP ee;replace HF:=fN6 HF ee;replace HBr:=bS6 HBr ee;replace HOl:=oS6 HOl ee;clear ee;generalize ee:(w14_1.drew)=w14 at *;have hq2:=sizeD ee;replace HP:=pD HP ee;replace HF:=fD HF ee;replace HBr:=bD HBr ee;replace HOl:=oD HOl ee;clear ee
     have hsa14:w14.heap.size=w13.heap.size+0:=by omega
     clear hq1 hq2;clear hI;have qc:=kcP HP;have rc:=kc6 HBr;have hI:=iq_0_0 q w w14;have hZ:=iq_0_0 q w w13;refine takeA 6 (v:=?_) rfl ?_ ?_;rotate_left;· intros;go_simp;try rfl
     (try simp only [pu]);refine callA 7 rfl fun K hK=>?_;go_simp;refine hK.out _ _ (Far.setS hS31 _ _) (fun hS32=>?_);clear hK K;clear qc rc;generalize ee:(w14.setCell ⟨w.heap.size,0,none⟩ (.int .i64 4))=w15 at *;have hsz15:=sizeS1 ee;replace HP:=pO1 HP ee;replace HF:=fN1 HF ee;replace HBr:Hid (Bo w15 w.heap.size 60 #[.int .i64 4,.string ⟨#[]⟩,.int .i64 0,.slice none 0 0,.int .i64 0,.int .i64 0]):=zz (by rw [←ee];exact HBr.out.set 0 (.int .i64 4));replace HOl:=oS1 HOl ee;clear ee;clear hI hZ;have qc:=kcP HP;have rc:=kc6 HBr;have hI:=iq_0_0 q w w15;have hZ:=iq_0_0 q w w13;refine takeA 8 (v:=?_) rfl ?_ ?_;rotate_left;· intros;go_simp;try rfl
     (try simp only [pu]);refine callA 9 rfl fun K hK=>?_;go_simp;refine hK.out _ _ (Far.setS hS32 _ _) (fun hS33=>?_);clear hK K;clear qc rc;generalize ee:(w15.setCell ⟨w.heap.size,3,none⟩ (.slice (some ⟨b2,o2,none⟩) m1 c1))=w16 at *;have hsz16:=sizeS1 ee;replace HP:=pO1 HP ee;replace HF:=fN1 HF ee;replace HBr:Hid (Bo w16 w.heap.size 60 #[.int .i64 4,.string ⟨#[]⟩,.int .i64 0,.slice (some ⟨b2,o2,none⟩) m1 c1,.int .i64 0,.int .i64 0]):=zz (by rw [←ee];exact HBr.out.set 3 (.slice (some ⟨b2,o2,none⟩) m1 c1));replace HOl:=oS1 HOl ee;clear ee;clear hI hZ;have qc:=kcP HP;have rc:=kc6 HBr;have hI:=iq_0_0 q w w16;have hZ:=iq_0_0 q w w13;refine takeA 10 (v:=?_) rfl ?_ ?_;rotate_left;· intros;go_simp;try rfl
     (try simp only [pu]);refine callA 11 rfl fun K hK=>?_;go_simp;refine hK.out _ _ (Far.setS (Far.setS hS33 _ _) _ _) (fun hS34=>?_);clear hK K;refine wpAnyH_done (by kernel_rfl) ?_ _;clear qc rc;generalize ee:(w16.setCell ⟨w.heap.size,4,none⟩ (.int .i64 z.line))=w17_1 at *;have hq1:=sizeS1 ee;replace HP:=pO1 HP ee;replace HF:=fN1 HF ee;replace HBr:Hid (Bo w17_1 w.heap.size 60 #[.int .i64 4,.string ⟨#[]⟩,.int .i64 0,.slice (some ⟨b2,o2,none⟩) m1 c1,.int .i64 z.line,.int .i64 0]):=zz (by rw [←ee];exact HBr.out.set 4 (.int .i64 z.line));replace HOl:=oS1 HOl ee;clear ee;generalize ee:(w17_1.setCell ⟨w.heap.size,5,none⟩ (.int .i64 z.col))=w17 at *;have hq2:=sizeS1 ee;replace HP:=pO1 HP ee;replace HF:=fN1 HF ee;replace HBr:Hid (Bo w17 w.heap.size 60 #[.int .i64 4,.string ⟨#[]⟩,.int .i64 0,.slice (some ⟨b2,o2,none⟩) m1 c1,.int .i64 z.line,.int .i64 z.col]):=zz (by rw [←ee];exact HBr.out.set 5 (.int .i64 z.col));replace HOl:=oS1 HOl ee;clear ee
     have hsz17:w17.heap.size=w16.heap.size:=by omega
     clear hq1 hq2;clear hI hZ
     go_wp2_with (fail)
     rw [HZ.out];refine door_up HP.out.bo ?_;generalize ee:(w17.setCell ⟨q,2,none⟩ (.int .i64 (wrap64 (((deep+1:Nat):Int) - 1))))=w18 at *;have hsz18:=sizeS1 ee;replace HP:=zz (HP.out.setDE (k:=((deep:Int))) ee (wrap_up hd));replace HF:=zz (HF.out.setQE ee);replace HBr:=bF1 HBr ee;replace HOl:=oS1 HOl ee;clear ee;have fc:=kc6 HBr;refine ⟨.agg #[.int .i64 4,.string ⟨#[]⟩,.int .i64 0,.slice (some ⟨b2,o2,none⟩) m1 c1,.int .i64 z.line,.int .i64 z.col],(by clear HP HF HBr HOl;simp [results,Tryz.results95,go_sem,fc]),?_⟩;exact ⟨_,_,_,rfl,HF.out.out,HP.out,memNw HOl.out.mem (by omega)⟩
    | false=>
     simp only [hce,Bool.false_eq_true,if_false] at hr;clear qc rc;refine (is_any 6 wClose _ HP.out).mono ?_;rintro _ w12 ⟨rfl,hb⟩;have hf:=FarQ.of (q:=q) hb;replace HBr:=qB HBr hf;replace HOl:=qO HOl hf;replace HF:=qF HF hf;have hs12:=hf.size;replace HP:=kP HP hb;clear hf hb;rw [hce];clear hI;have qc:=kcP HP;have rc:=kc6 HBr;have hI:=iq_0_0 q w w12
     go_wp2_with (fail)
     have hg1:g<f+1:=by omega
     rcases hy:readE ts g .pat jj (deep+1) with _ | ⟨y,k⟩ | ⟨l_,c_⟩
     · (rw [hy] at hr;cases hr)
     rotate_left
     ·
      rw [hy] at hr
      first | simp only at hr | simp only [andT] at hr
      cases hr;clear qc rc;refine ((H g hg1) jj (deep+1) _ _ hd1 hy HP.out).mono ?_;rintro _ w13 ⟨rfl,hf,hbo⟩
      go_wp2_with (fail)
      exact ⟨_,_,rfl,rfl,.inr rfl,FarB.out (HF.out.farq hf),hbo⟩
     rw [hy] at hr
     first | simp only at hr | simp only [andT] at hr
     have HOW:=HOl;clear qc rc;refine ((H g hg1) jj (deep+1) _ _ hd1 hy HP.out).mono ?_;rintro _ w13 ⟨ay,my,cy,rfl,hf,hp,hm⟩;replace HBr:=qB HBr hf;replace HOl:=qO HOl hf;replace HF:=qF HF hf;have hs13:=hf.size;replace HP:=zz hp;have HMy:=zz hm;clear hf hp hm;simp only [exV];have hfk:jj<k∧k≤ts.length:=readE_fwd g .pat jj (deep+1) y k hy;clear hI;have qc:=kcP HP;have rc:=kc6 HBr;have hI:=iq_0_0 q w w13
     go_wp2_with (first | (at_builtin;refine wpList_append_D rfl _ _ rfl Tryz.underlying58 info_ex rfl (by decide) rfl rfl (HOl.out.alloc _) (newRow HOW.out (by omega) (by omega) HMy.out) (by have :=HM1.out;simp only [Ex.rows_len,List.length_cons,List.length_nil];omega) (by have :=HM1.out;simp only [Ex.rows_len,List.length_cons,List.length_nil];omega) (by rw [World.size_alloc];omega) ?_;intro vA wA ho hgr;have HO9:=zz ho;clear ho;have HG9:=zz hgr;clear hgr))
     have hob:∀ k,(Value.slice a1 m1 c1).ownBlock=some k→w9.heap.size≤k:=fun k hk=>(HOl.out.lt k hk).1
     clear qc rc;have HO8:Hid (OwnD 0 w9.heap.size 60 6 wA vA (Ex.rows (l++[y]))):=zz (by rw [Ex.rows_app];exact HO9.out);obtain ⟨a2,m2,c2,rfl,hm4,_,_⟩:=HO8.out.form2;rw [List.length_append,List.length_cons,List.length_nil] at hm4
     have hsA:w13.heap.size+1≤wA.heap.size:=by have h:=HG9.out.size;rw [World.size_alloc] at h;exact h
     go_roundw
     case rel=>exact ⟨l++[y],k,⟨g,by omega,hr⟩,zz ((HP.out.alloc (.cells #[.int .i64 y.kind,.string y.name,.int .i64 y.n,.slice ay my cy,.int .i64 y.line,.int .i64 y.col] 60)).grown HG9.out fun k hk=>by have :=hob k hk;omega),zz ((HF.out.alloc (.cells #[.int .i64 y.kind,.string y.name,.int .i64 y.n,.slice ay my cy,.int .i64 y.line,.int .i64 y.col] 60)).grown HG9.out fun k hk=>by have :=hob k hk;omega),zz ((HBr.out.alloc (.cells #[.int .i64 y.kind,.string y.name,.int .i64 y.n,.slice ay my cy,.int .i64 y.line,.int .i64 y.col] 60)).grown HG9.out fun k hk=>by have :=hob k hk;omega),HO8,by simp,by rw [List.length_append,List.length_cons,List.length_nil];omega,hfk.2,by omega⟩
     case measure=>have :=HM1.out;simp only [lenV];omega
theorem pat_reads (F:Nat):∀ g,g≤F→Reads ts aL n cap q 95 .pat g:=by
  induction F with
  | zero =>
    intro g hg i deep r w hd hr hp
    obtain rfl:g=0:=by omega
    rw [readE] at hr;cases hr
  | succ F ih =>
    intro g hg i deep r w hd hr hp
    cases g with
    | zero=>rw [readE] at hr;cases hr
    | succ f=>exact pat_succ hr w hd (fun g2 h2=>ih g2 (by omega)) hp
end
end
section
open Go.RowKit
section
variable {ts:List Tk} {aL:Option Addr} {n cap q:Nat}
theorem pat1_any {F i:Nat} {r:Rd1} (hr:readE ts F .pat i 0=some r) (w:World) (hp:PS ts aL n cap q i ((0:Nat):Int) w):
  Calls Tryz.prog 94 #[.pointer (some ⟨q,0,none⟩)] w (Ans ts aL n cap q r 0 w):=by
 have HP:=zz hp;have hq0:=hp.lt;have HF:=zz (FarB.refl q w.heap.size w)
 have HA:=fun g (hg:g<F+1)=>pat_reads (ts:=ts) (aL:=aL) (n:=n) (cap:=cap) (q:=q) F g (by omega)
 clear hp;go_enter Tryz.func94,Tryz.ntmps94
 go_wp2_with (fail)
 generalize ee:(w.alloc (.cells #[.int .i64 0,.string ⟨#[]⟩,.int .i64 0,.slice none 0 0,.int .i64 0,.int .i64 0] 60))=w1 at *;have hsa1:=sizeA ee;replace HP:=pA HP ee;replace HF:=fA HF ee;have HBr:=nB ee (w.heap.size);clear ee;have qc:=kcP HP;have rc:=kc6 HBr;have hI:=iq_0_0 q w w1;have hZ:=iq_01 q w
 cases r with
 | bad l_ c_=>
  clear qc rc;refine (HA F (Nat.lt_succ_self F) i 0 _ _ (Nat.zero_le _) hr HP.out).mono ?_;rintro _ w2 ⟨rfl,hf,hbo⟩
  go_wp2_with (fail)
  exact ⟨rfl,rfl,FarB.out (HF.out.farq hf),hbo⟩
 | ok x j=>
  clear qc rc;refine (HA F (Nat.lt_succ_self F) i 0 _ _ (Nat.zero_le _) hr HP.out).mono ?_;rintro _ w2 ⟨ax,mx,cx,rfl,hf,hp,hm⟩;replace HBr:=qB HBr hf;replace HF:=qF HF hf;have hs2:=hf.size;replace HP:=zz hp;have HMx:=zz hm;clear hf hp hm;simp only [exV];clear hI hZ;have qc:=kcP HP;have rc:=kc6 HBr;have hI:=iq_0_0 q w w2
  go_wp2_with (fail)
  clear qc rc;generalize ee:((((((w2.setCell ⟨w.heap.size,0,none⟩ (.int .i64 x.kind)).setCell ⟨w.heap.size,1,none⟩ (.string x.name)).setCell ⟨w.heap.size,2,none⟩ (.int .i64 x.n)).setCell ⟨w.heap.size,3,none⟩ (.slice ax mx cx)).setCell ⟨w.heap.size,4,none⟩ (.int .i64 x.line)).setCell ⟨w.heap.size,5,none⟩ (.int .i64 x.col))=w3 at *;have hsz3:=sizeS6 ee;replace HP:=pO6 HP ee;replace HF:=fN6 HF ee;replace HBr:=bS6 HBr ee;replace HMx:=mS6 HMx ee;clear ee;clear hI;have fc:=kc6 HBr;refine bodyPost_ret (v:=.agg #[.int .i64 x.kind,.string x.name,.int .i64 x.n,.slice ax mx cx,.int .i64 x.line,.int .i64 x.col]) (by clear HP HF HBr HMx;simp [results,Tryz.results94,go_sem,fc]) rfl ?_;exact ⟨_,_,_,rfl,HF.out.out,HP.out,memNw HMx.out (by omega)⟩
theorem run_pat_neg {F:Nat} {i:Int} (hi:i<0) {r:Rd1} (w:World) (h:MemW w (.s 5 (tkRows ts)) (.slice aL n cap)) (hn:n≤1048576) (hr:readE ts F .pat 0 0=some r):
  Calls Tryz.prog 93 #[.slice aL n cap,.int .i64 i,.func (.func 94) #[] #[]] w (RunAns r w):=by
 have H:=zz h
 have hmf:∀ (fn:Fn) (first cap:Array Value) (w:World),(Instr.makeFunc fn first cap).run Tryz.prog w=.ok (.func fn first cap) w:=fun _ _ _ _=>rfl
 have hE:∀ args w,Sem.run Tryz.prog (callFunc 94 args) w=.ok (.enter 94 args) w:=fun _ _=>by kernel_rfl
 clear h
 go_enter_defers Tryz.func93,Tryz.ntmps93
 go_wp2_with (fail)
 have hs1:((((w.alloc (.cells #[.int .i64 0,.string ⟨#[]⟩,.int .i64 0,.slice none 0 0,.int .i64 0,.int .i64 0] 60)).alloc (.cells #[.int .i64 0] 3)).alloc (.cells #[.int .i64 0,.int .i64 0,.int .i64 0] 31)).alloc (.cells #[.slice aL n cap,.int .i64 0,.int .i64 0] 162)).heap.size=w.heap.size+1+1+1+1:=by simp only [World.size_alloc]
 have HBe:Hid (Bo ((((w.alloc (.cells #[.int .i64 0,.string ⟨#[]⟩,.int .i64 0,.slice none 0 0,.int .i64 0,.int .i64 0] 60)).alloc (.cells #[.int .i64 0] 3)).alloc (.cells #[.int .i64 0,.int .i64 0,.int .i64 0] 31)).alloc (.cells #[.slice aL n cap,.int .i64 0,.int .i64 0] 162)) w.heap.size 60 #[.int .i64 0,.string ⟨#[]⟩,.int .i64 0,.slice none 0 0,.int .i64 0,.int .i64 0]):=zz ((((Bo.new w 60 #[.int .i64 0,.string ⟨#[]⟩,.int .i64 0,.slice none 0 0,.int .i64 0,.int .i64 0]).alloc _).alloc _).alloc _)
 have HBn:Hid (Bo ((((w.alloc (.cells #[.int .i64 0,.string ⟨#[]⟩,.int .i64 0,.slice none 0 0,.int .i64 0,.int .i64 0] 60)).alloc (.cells #[.int .i64 0] 3)).alloc (.cells #[.int .i64 0,.int .i64 0,.int .i64 0] 31)).alloc (.cells #[.slice aL n cap,.int .i64 0,.int .i64 0] 162)) (w.heap.size+1) 3 #[.int .i64 0]):=zz ((((by have h:=Bo.new (w.alloc (.cells #[.int .i64 0,.string ⟨#[]⟩,.int .i64 0,.slice none 0 0,.int .i64 0,.int .i64 0] 60)) 3 #[.int .i64 0];rw [World.size_alloc] at h;exact h:Bo ((w.alloc (.cells #[.int .i64 0,.string ⟨#[]⟩,.int .i64 0,.slice none 0 0,.int .i64 0,.int .i64 0] 60)).alloc (.cells #[.int .i64 0] 3)) (w.heap.size+1) 3 #[.int .i64 0])).alloc _).alloc _)
 have HBf:Hid (Bo ((((w.alloc (.cells #[.int .i64 0,.string ⟨#[]⟩,.int .i64 0,.slice none 0 0,.int .i64 0,.int .i64 0] 60)).alloc (.cells #[.int .i64 0] 3)).alloc (.cells #[.int .i64 0,.int .i64 0,.int .i64 0] 31)).alloc (.cells #[.slice aL n cap,.int .i64 0,.int .i64 0] 162)) (w.heap.size+1+1) 31 #[.int .i64 0,.int .i64 0,.int .i64 0]):=zz (((by have h:=Bo.new ((w.alloc (.cells #[.int .i64 0,.string ⟨#[]⟩,.int .i64 0,.slice none 0 0,.int .i64 0,.int .i64 0] 60)).alloc (.cells #[.int .i64 0] 3)) 31 #[.int .i64 0,.int .i64 0,.int .i64 0];rw [World.size_alloc,World.size_alloc] at h;exact h:Bo (((w.alloc (.cells #[.int .i64 0,.string ⟨#[]⟩,.int .i64 0,.slice none 0 0,.int .i64 0,.int .i64 0] 60)).alloc (.cells #[.int .i64 0] 3)).alloc (.cells #[.int .i64 0,.int .i64 0,.int .i64 0] 31)) (w.heap.size+1+1) 31 #[.int .i64 0,.int .i64 0,.int .i64 0])).alloc _)
 have hbo:Bo ((((w.alloc (.cells #[.int .i64 0,.string ⟨#[]⟩,.int .i64 0,.slice none 0 0,.int .i64 0,.int .i64 0] 60)).alloc (.cells #[.int .i64 0] 3)).alloc (.cells #[.int .i64 0,.int .i64 0,.int .i64 0] 31)).alloc (.cells #[.slice aL n cap,.int .i64 0,.int .i64 0] 162)) (w.heap.size+1+1+1) 162 #[.slice aL n cap,.int .i64 0,.int .i64 0]:=by have h:=Bo.new (((w.alloc (.cells #[.int .i64 0,.string ⟨#[]⟩,.int .i64 0,.slice none 0 0,.int .i64 0,.int .i64 0] 60)).alloc (.cells #[.int .i64 0] 3)).alloc (.cells #[.int .i64 0,.int .i64 0,.int .i64 0] 31)) 162 #[.slice aL n cap,.int .i64 0,.int .i64 0];rw [World.size_alloc,World.size_alloc,World.size_alloc] at h;exact h
 have hbel:Below w.heap.size w ((((w.alloc (.cells #[.int .i64 0,.string ⟨#[]⟩,.int .i64 0,.slice none 0 0,.int .i64 0,.int .i64 0] 60)).alloc (.cells #[.int .i64 0] 3)).alloc (.cells #[.int .i64 0,.int .i64 0,.int .i64 0] 31)).alloc (.cells #[.slice aL n cap,.int .i64 0,.int .i64 0] 162)):=(((below_new w _).alloc (by simp) _).alloc (by simp only [World.size_alloc];omega) _).alloc (by simp only [World.size_alloc];omega) _;have htk:=H.out.keep hbel;generalize ((((w.alloc (.cells #[.int .i64 0,.string ⟨#[]⟩,.int .i64 0,.slice none 0 0,.int .i64 0,.int .i64 0] 60)).alloc (.cells #[.int .i64 0] 3)).alloc (.cells #[.int .i64 0,.int .i64 0,.int .i64 0] 31)).alloc (.cells #[.slice aL n cap,.int .i64 0,.int .i64 0] 162))=w1 at *;have htk2:Mem (· <w.heap.size+1+1+1) w1 (.s 5 (tkRows ts)) (.slice aL n cap):=(Mem.keep H.out (Nat.le_refl _) hbel).le (by omega);generalize hq:w.heap.size+1+1+1=q at *;have HP:Hid (PS ts aL n cap q 0 ((0:Nat):Int) w1):=zz ⟨hbo,htk2,hn⟩;have HF:Hid (FarB q w.heap.size w w1):=zz (Far.of hbel)
 have hq1:w.heap.size+1+1<q:=by omega
 have hs2:w1.heap.size=q+1:=by omega
 clear hq hs1 hbo htk htk2 hbel
 cases r with
 | bad l_ c_=>
  refine (pat1_any hr _ HP.out).mono ?_;rintro _ w2 ⟨rfl,hf,hbo⟩;replace HBe:=qB HBe hf;replace HBn:=qB HBn hf;replace HBf:=qB HBf hf;replace HF:=qF HF hf;have hs2:=hf.size
  go_wp2_with (fail)
  refine leaves_cons (f:=127) (args:=#[.pointer (some ⟨w.heap.size,0,none⟩),.pointer (some ⟨w.heap.size+1,0,none⟩),.pointer (some ⟨w.heap.size+1+1,0,none⟩)]) (by simp) (by simp [go_sem]) ?_;refine (caught_fault w2 l_ c_ (by omega) (by omega) HBe.out HBn.out HBf.out).mono ?_;rintro e u w3 ⟨rfl,hu,hf3,g0,g1,g2⟩
  show Leaves _ _ _ _ [] (settle u) w3
  rw [hu];have x0:=g0.cell (j:=0) rfl;have x1:=g0.cell (j:=1) rfl;have x2:=g0.cell (j:=2) rfl;have x3:=g0.cell (j:=3) rfl;have x4:=g0.cell (j:=4) rfl;have x5:=g0.cell (j:=5) rfl;have y0:=g1.cell (j:=0) rfl;have z0:=g2.cell (j:=0) rfl;have z1:=g2.cell (j:=1) rfl;have z2:=g2.cell (j:=2) rfl;refine ⟨_,?_,rfl,?_⟩
  · (clear HF HBe HBn HBf H g0 g1 g2 hf3;simp [results,Tryz.results93,go_sem,x0,x1,x2,x3,x4,x5,y0,z0,z1,z2])
  · exact Far.toB (Far.trans (Far.mono HF.out (fun b e=>by rcases e with e | e <;> omega)) (Far.mono hf3 (fun b e=>by rcases e with e | e | e <;> omega))) (Nat.le_refl _)
 | ok x j=>
  refine (pat1_any hr _ HP.out).mono ?_;rintro _ w2 ⟨ax,mx,cx,rfl,hf,hp,hm⟩;replace HBe:=qB HBe hf;replace HBn:=qB HBn hf;replace HBf:=qB HBf hf;replace HF:=qF HF hf;have hs2:=hf.size;replace HP:=zz hp;have HMx:=zz hm;clear hf hp hm;simp only [exV];have HBq:=zz HP.out.bo;clear HP;have ec:=kc6 HBe;have nc:=kc1 HBn;have fc:=kc3 HBf;have qc:=kc3 HBq;have hI:=i01_q_q_0 w (w.heap.size+1+1) q w2
  go_wp2_with (fail)
  clear ec nc fc qc;generalize ee:((((((w2.setCell ⟨w.heap.size,0,none⟩ (.int .i64 x.kind)).setCell ⟨w.heap.size,1,none⟩ (.string x.name)).setCell ⟨w.heap.size,2,none⟩ (.int .i64 x.n)).setCell ⟨w.heap.size,3,none⟩ (.slice ax mx cx)).setCell ⟨w.heap.size,4,none⟩ (.int .i64 x.line)).setCell ⟨w.heap.size,5,none⟩ (.int .i64 x.col))=w3 at *;have hsz3:=sizeS6 ee;replace HF:=fN6 HF ee;replace HBe:=bS6 HBe ee;replace HBn:=bF6 HBn ee;replace HBf:=bF6 HBf ee;replace HBq:=bF6 HBq ee;replace HMx:=mS6 HMx ee;clear ee;clear hI;have ec:=kc6 HBe;have nc:=kc1 HBn;have fc:=kc3 HBf;have qc:=kc3 HBq;have hI:=i01_q_q_0 w (w.heap.size+1+1) q w3;have hZ:=i01_q_q_0 w (w.heap.size+1+1) q w2;refine wp_nopanic ?_;refine wp_region_held_drew (S:=fun w'=>Far (fun b=>b=w.heap.size∨b=w.heap.size+1∨b=w.heap.size+1+1) (w3) w') (by kernel_rfl) (Far.of (below_drew _)) (fun hS10=>?_);refine takeA 1 (v:=?_) rfl ?_ ?_;rotate_left;· intro w hSw;replace qc:=Far.c3z qc hSw (by intro e;rcases e with e | e | e <;> omega);go_simp;try rfl
  (try simp only [pu]);refine takeA 2 (v:=?_) rfl ?_ ?_;rotate_left;· intro w hSw;replace qc:=Far.c3z qc hSw (by intro e;rcases e with e | e | e <;> omega);go_simp;try rfl
  (try simp only [pu]);refine takeA 3 (v:=?_) rfl ?_ ?_;rotate_left;· intro w hSw;replace qc:=Far.c3z qc hSw (by intro e;rcases e with e | e | e <;> omega);go_simp;try rfl
  (try simp only [pu]);refine takeA 4 (v:=?_) rfl ?_ ?_;rotate_left;· intro w hSw;replace qc:=Far.c3z qc hSw (by intro e;rcases e with e | e | e <;> omega);go_simp;try rfl
  (try simp only [pu]);refine takeA 5 (v:=?_) rfl ?_ ?_;rotate_left;· intro w hSw;replace qc:=Far.c3z qc hSw (by intro e;rcases e with e | e | e <;> omega);go_simp;try rfl
  (try simp only [pu]);refine callA 0 rfl fun K hK=>?_;go_simp;refine hK.out _ _ (hS10) (fun hS11=>?_);clear hK K;refine callA 6 rfl fun K hK=>?_;go_simp;refine hK.out _ _ ?_ (fun hS12=>?_);· exact (by refine Far.trans ?_ (Far.of (below_drew _));(iterate 6 (refine Far.setCell (p:=⟨w.heap.size,_,none⟩) ?_ (.inl rfl) _));exact Far.refl _ _)
  clear hK K;clear ec nc fc qc;generalize ee:((((((w3.setCell ⟨w.heap.size,0,none⟩ (.int .i64 x.kind)).setCell ⟨w.heap.size,1,none⟩ (.string x.name)).setCell ⟨w.heap.size,2,none⟩ (.int .i64 x.n)).setCell ⟨w.heap.size,3,none⟩ (.slice ax mx cx)).setCell ⟨w.heap.size,4,none⟩ (.int .i64 x.line)).setCell ⟨w.heap.size,5,none⟩ (.int .i64 x.col))=w4_1 at *;have hq1:=sizeS6 ee;replace HF:=fN6 HF ee;replace HBe:=bS6 HBe ee;replace HBn:=bF6 HBn ee;replace HBf:=bF6 HBf ee;replace HBq:=bF6 HBq ee;replace HMx:=mS6 HMx ee;clear ee;generalize ee:(w4_1.drew)=w4 at *;have hq2:=sizeD ee;replace HF:=fD HF ee;replace HBe:=bD HBe ee;replace HBn:=bD HBn ee;replace HBf:=bD HBf ee;replace HBq:=bD HBq ee;replace HMx:=mD HMx ee;clear ee
  have hsa4:w4.heap.size=w2.heap.size+0:=by omega
  clear hq1 hq2;clear hI hZ;have ec:=kc6 HBe;have nc:=kc1 HBn;have fc:=kc3 HBf;have qc:=kc3 HBq;have hI:=i01_q_q_0 w (w.heap.size+1+1) q w4;have hZ:=i01_q_q_0 w (w.heap.size+1+1) q w2;refine callA 7 rfl fun K hK=>?_;go_simp;refine hK.out _ _ (Far.setCell (p:=⟨w.heap.size+1,0,none⟩) hS12 (.inr (.inl rfl)) _) (fun hS13=>?_);clear hK K;clear ec nc fc qc;generalize ee:(w4.setCell ⟨(w.heap.size+1),0,none⟩ (.int .i64 (j:Int)))=w5 at *;have hsz5:=sizeS1 ee;replace HF:=fN1 HF ee;replace HBe:=bF1 HBe ee;replace HBn:Hid (Bo w5 (w.heap.size+1) 3 #[.int .i64 (j:Int)]):=zz (by rw [←ee];exact HBn.out.set 0 (.int .i64 (j:Int)));replace HBf:=bF1 HBf ee;replace HBq:=bF1 HBq ee;replace HMx:=mS1 HMx ee;clear ee;clear hI hZ;have ec:=kc6 HBe;have nc:=kc1 HBn;have fc:=kc3 HBf;have qc:=kc3 HBq;have hI:=i01_q_q_0 w (w.heap.size+1+1) q w5;have hZ:=i01_q_q_0 w (w.heap.size+1+1) q w2;refine callA 8 rfl fun K hK=>?_;go_simp;refine hK.out _ _ (Far.setCell (p:=⟨w.heap.size+1+1,2,none⟩) (Far.setCell (p:=⟨w.heap.size+1+1,1,none⟩) (Far.setCell (p:=⟨w.heap.size+1+1,0,none⟩) hS13 (.inr (.inr rfl)) _) (.inr (.inr rfl)) _) (.inr (.inr rfl)) _) (fun hS14=>?_);clear hK K;refine wpAnyH_done (by kernel_rfl) ?_ _;clear ec nc fc qc;generalize ee:(((w5.setCell ⟨(w.heap.size+1+1),0,none⟩ (.int .i64 0)).setCell ⟨(w.heap.size+1+1),1,none⟩ (.int .i64 0)).setCell ⟨(w.heap.size+1+1),2,none⟩ (.int .i64 0))=w6 at *;have hsz6:=sizeS3 ee;replace HF:=fN3 HF ee;replace HBe:=bF3 HBe ee;replace HBn:=bF3 HBn ee;replace HBf:=bS3 HBf ee;replace HBq:=bF3 HBq ee;replace HMx:=mS3 HMx ee;clear ee;clear hI hZ
  show Exit.then _ _ Exit.normal _ _
  go_wp2_with (fail)
  refine leaves_cons (f:=127) (args:=#[.pointer (some ⟨w.heap.size,0,none⟩),.pointer (some ⟨w.heap.size+1,0,none⟩),.pointer (some ⟨w.heap.size+1+1,0,none⟩)]) (by simp) (by simp [go_sem]) ?_;refine (caught_none _).mono ?_;rintro e u w9 ⟨rfl,rfl,rfl⟩;have x0:=HBe.out.cell (j:=0) rfl;have x1:=HBe.out.cell (j:=1) rfl;have x2:=HBe.out.cell (j:=2) rfl;have x3:=HBe.out.cell (j:=3) rfl;have x4:=HBe.out.cell (j:=4) rfl;have x5:=HBe.out.cell (j:=5) rfl;have y0:=HBn.out.cell (j:=0) rfl;have z0:=HBf.out.cell (j:=0) rfl;have z1:=HBf.out.cell (j:=1) rfl;have z2:=HBf.out.cell (j:=2) rfl;refine ⟨.tuple #[exV x ax mx cx,.int .i64 (j:Int),.agg #[.int .i64 0,.int .i64 0,.int .i64 0]],?_,ax,mx,cx,rfl,?_,memNw HMx.out (by omega)⟩
  · (clear HF HBe HBn HBf HBq HMx H;simp [results,Tryz.results93,go_sem,exV,x0,x1,x2,x3,x4,x5,y0,z0,z1,z2])
  · exact Far.toB (Far.mono HF.out (fun b e=>by rcases e with e | e <;> omega)) (Nat.le_refl _)
theorem run_pat_pos {F:Nat} {k:Nat} {r:Rd1} (w:World) (h:MemW w (.s 5 (tkRows ts)) (.slice aL n cap)) (hn:n≤1048576) (hr:readE ts F .pat k 0=some r):
  Calls Tryz.prog 93 #[.slice aL n cap,.int .i64 (k:Int),.func (.func 94) #[] #[]] w (RunAns r w):=by
 have H:=zz h
 have hmf:∀ (fn:Fn) (first cap:Array Value) (w:World),(Instr.makeFunc fn first cap).run Tryz.prog w=.ok (.func fn first cap) w:=fun _ _ _ _=>rfl
 have hE:∀ args w,Sem.run Tryz.prog (callFunc 94 args) w=.ok (.enter 94 args) w:=fun _ _=>by kernel_rfl
 clear h
 go_enter_defers Tryz.func93,Tryz.ntmps93
 go_wp2_with (fail)
 have hs1:((((w.alloc (.cells #[.int .i64 0,.string ⟨#[]⟩,.int .i64 0,.slice none 0 0,.int .i64 0,.int .i64 0] 60)).alloc (.cells #[.int .i64 0] 3)).alloc (.cells #[.int .i64 0,.int .i64 0,.int .i64 0] 31)).alloc (.cells #[.slice aL n cap,.int .i64 (k:Int),.int .i64 0] 162)).heap.size=w.heap.size+1+1+1+1:=by simp only [World.size_alloc]
 have HBe:Hid (Bo ((((w.alloc (.cells #[.int .i64 0,.string ⟨#[]⟩,.int .i64 0,.slice none 0 0,.int .i64 0,.int .i64 0] 60)).alloc (.cells #[.int .i64 0] 3)).alloc (.cells #[.int .i64 0,.int .i64 0,.int .i64 0] 31)).alloc (.cells #[.slice aL n cap,.int .i64 (k:Int),.int .i64 0] 162)) w.heap.size 60 #[.int .i64 0,.string ⟨#[]⟩,.int .i64 0,.slice none 0 0,.int .i64 0,.int .i64 0]):=zz ((((Bo.new w 60 #[.int .i64 0,.string ⟨#[]⟩,.int .i64 0,.slice none 0 0,.int .i64 0,.int .i64 0]).alloc _).alloc _).alloc _)
 have HBn:Hid (Bo ((((w.alloc (.cells #[.int .i64 0,.string ⟨#[]⟩,.int .i64 0,.slice none 0 0,.int .i64 0,.int .i64 0] 60)).alloc (.cells #[.int .i64 0] 3)).alloc (.cells #[.int .i64 0,.int .i64 0,.int .i64 0] 31)).alloc (.cells #[.slice aL n cap,.int .i64 (k:Int),.int .i64 0] 162)) (w.heap.size+1) 3 #[.int .i64 0]):=zz ((((by have h:=Bo.new (w.alloc (.cells #[.int .i64 0,.string ⟨#[]⟩,.int .i64 0,.slice none 0 0,.int .i64 0,.int .i64 0] 60)) 3 #[.int .i64 0];rw [World.size_alloc] at h;exact h:Bo ((w.alloc (.cells #[.int .i64 0,.string ⟨#[]⟩,.int .i64 0,.slice none 0 0,.int .i64 0,.int .i64 0] 60)).alloc (.cells #[.int .i64 0] 3)) (w.heap.size+1) 3 #[.int .i64 0])).alloc _).alloc _)
 have HBf:Hid (Bo ((((w.alloc (.cells #[.int .i64 0,.string ⟨#[]⟩,.int .i64 0,.slice none 0 0,.int .i64 0,.int .i64 0] 60)).alloc (.cells #[.int .i64 0] 3)).alloc (.cells #[.int .i64 0,.int .i64 0,.int .i64 0] 31)).alloc (.cells #[.slice aL n cap,.int .i64 (k:Int),.int .i64 0] 162)) (w.heap.size+1+1) 31 #[.int .i64 0,.int .i64 0,.int .i64 0]):=zz (((by have h:=Bo.new ((w.alloc (.cells #[.int .i64 0,.string ⟨#[]⟩,.int .i64 0,.slice none 0 0,.int .i64 0,.int .i64 0] 60)).alloc (.cells #[.int .i64 0] 3)) 31 #[.int .i64 0,.int .i64 0,.int .i64 0];rw [World.size_alloc,World.size_alloc] at h;exact h:Bo (((w.alloc (.cells #[.int .i64 0,.string ⟨#[]⟩,.int .i64 0,.slice none 0 0,.int .i64 0,.int .i64 0] 60)).alloc (.cells #[.int .i64 0] 3)).alloc (.cells #[.int .i64 0,.int .i64 0,.int .i64 0] 31)) (w.heap.size+1+1) 31 #[.int .i64 0,.int .i64 0,.int .i64 0])).alloc _)
 have hbo:Bo ((((w.alloc (.cells #[.int .i64 0,.string ⟨#[]⟩,.int .i64 0,.slice none 0 0,.int .i64 0,.int .i64 0] 60)).alloc (.cells #[.int .i64 0] 3)).alloc (.cells #[.int .i64 0,.int .i64 0,.int .i64 0] 31)).alloc (.cells #[.slice aL n cap,.int .i64 (k:Int),.int .i64 0] 162)) (w.heap.size+1+1+1) 162 #[.slice aL n cap,.int .i64 (k:Int),.int .i64 0]:=by have h:=Bo.new (((w.alloc (.cells #[.int .i64 0,.string ⟨#[]⟩,.int .i64 0,.slice none 0 0,.int .i64 0,.int .i64 0] 60)).alloc (.cells #[.int .i64 0] 3)).alloc (.cells #[.int .i64 0,.int .i64 0,.int .i64 0] 31)) 162 #[.slice aL n cap,.int .i64 (k:Int),.int .i64 0];rw [World.size_alloc,World.size_alloc,World.size_alloc] at h;exact h
 have hbel:Below w.heap.size w ((((w.alloc (.cells #[.int .i64 0,.string ⟨#[]⟩,.int .i64 0,.slice none 0 0,.int .i64 0,.int .i64 0] 60)).alloc (.cells #[.int .i64 0] 3)).alloc (.cells #[.int .i64 0,.int .i64 0,.int .i64 0] 31)).alloc (.cells #[.slice aL n cap,.int .i64 (k:Int),.int .i64 0] 162)):=(((below_new w _).alloc (by simp) _).alloc (by simp only [World.size_alloc];omega) _).alloc (by simp only [World.size_alloc];omega) _;have htk:=H.out.keep hbel;generalize ((((w.alloc (.cells #[.int .i64 0,.string ⟨#[]⟩,.int .i64 0,.slice none 0 0,.int .i64 0,.int .i64 0] 60)).alloc (.cells #[.int .i64 0] 3)).alloc (.cells #[.int .i64 0,.int .i64 0,.int .i64 0] 31)).alloc (.cells #[.slice aL n cap,.int .i64 (k:Int),.int .i64 0] 162))=w1 at *;have htk2:Mem (· <w.heap.size+1+1+1) w1 (.s 5 (tkRows ts)) (.slice aL n cap):=(Mem.keep H.out (Nat.le_refl _) hbel).le (by omega);generalize hq:w.heap.size+1+1+1=q at *;have HP:Hid (PS ts aL n cap q k ((0:Nat):Int) w1):=zz ⟨hbo,htk2,hn⟩;have HF:Hid (FarB q w.heap.size w w1):=zz (Far.of hbel)
 have hq1:w.heap.size+1+1<q:=by omega
 have hs2:w1.heap.size=q+1:=by omega
 clear hq hs1 hbo htk htk2 hbel
 cases r with
 | bad l_ c_=>
  refine (pat1_any hr _ HP.out).mono ?_;rintro _ w2 ⟨rfl,hf,hbo⟩;replace HBe:=qB HBe hf;replace HBn:=qB HBn hf;replace HBf:=qB HBf hf;replace HF:=qF HF hf;have hs2:=hf.size
  go_wp2_with (fail)
  refine leaves_cons (f:=127) (args:=#[.pointer (some ⟨w.heap.size,0,none⟩),.pointer (some ⟨w.heap.size+1,0,none⟩),.pointer (some ⟨w.heap.size+1+1,0,none⟩)]) (by simp) (by simp [go_sem]) ?_;refine (caught_fault w2 l_ c_ (by omega) (by omega) HBe.out HBn.out HBf.out).mono ?_;rintro e u w3 ⟨rfl,hu,hf3,g0,g1,g2⟩
  show Leaves _ _ _ _ [] (settle u) w3
  rw [hu];have x0:=g0.cell (j:=0) rfl;have x1:=g0.cell (j:=1) rfl;have x2:=g0.cell (j:=2) rfl;have x3:=g0.cell (j:=3) rfl;have x4:=g0.cell (j:=4) rfl;have x5:=g0.cell (j:=5) rfl;have y0:=g1.cell (j:=0) rfl;have z0:=g2.cell (j:=0) rfl;have z1:=g2.cell (j:=1) rfl;have z2:=g2.cell (j:=2) rfl;refine ⟨_,?_,rfl,?_⟩
  · (clear HF HBe HBn HBf H g0 g1 g2 hf3;simp [results,Tryz.results93,go_sem,x0,x1,x2,x3,x4,x5,y0,z0,z1,z2])
  · exact Far.toB (Far.trans (Far.mono HF.out (fun b e=>by rcases e with e | e <;> omega)) (Far.mono hf3 (fun b e=>by rcases e with e | e | e <;> omega))) (Nat.le_refl _)
 | ok x j=>
  refine (pat1_any hr _ HP.out).mono ?_;rintro _ w2 ⟨ax,mx,cx,rfl,hf,hp,hm⟩;replace HBe:=qB HBe hf;replace HBn:=qB HBn hf;replace HBf:=qB HBf hf;replace HF:=qF HF hf;have hs2:=hf.size;replace HP:=zz hp;have HMx:=zz hm;clear hf hp hm;simp only [exV];have HBq:=zz HP.out.bo;clear HP;have ec:=kc6 HBe;have nc:=kc1 HBn;have fc:=kc3 HBf;have qc:=kc3 HBq;have hI:=i01_q_q_0 w (w.heap.size+1+1) q w2
  go_wp2_with (fail)
  clear ec nc fc qc;generalize ee:((((((w2.setCell ⟨w.heap.size,0,none⟩ (.int .i64 x.kind)).setCell ⟨w.heap.size,1,none⟩ (.string x.name)).setCell ⟨w.heap.size,2,none⟩ (.int .i64 x.n)).setCell ⟨w.heap.size,3,none⟩ (.slice ax mx cx)).setCell ⟨w.heap.size,4,none⟩ (.int .i64 x.line)).setCell ⟨w.heap.size,5,none⟩ (.int .i64 x.col))=w3 at *;have hsz3:=sizeS6 ee;replace HF:=fN6 HF ee;replace HBe:=bS6 HBe ee;replace HBn:=bF6 HBn ee;replace HBf:=bF6 HBf ee;replace HBq:=bF6 HBq ee;replace HMx:=mS6 HMx ee;clear ee;clear hI;have ec:=kc6 HBe;have nc:=kc1 HBn;have fc:=kc3 HBf;have qc:=kc3 HBq;have hI:=i01_q_q_0 w (w.heap.size+1+1) q w3;have hZ:=i01_q_q_0 w (w.heap.size+1+1) q w2;refine wp_nopanic ?_;refine wp_region_held_drew (S:=fun w'=>Far (fun b=>b=w.heap.size∨b=w.heap.size+1∨b=w.heap.size+1+1) (w3) w') (by kernel_rfl) (Far.of (below_drew _)) (fun hS10=>?_);refine takeA 1 (v:=?_) rfl ?_ ?_;rotate_left;· intro w hSw;replace qc:=Far.c3z qc hSw (by intro e;rcases e with e | e | e <;> omega);go_simp;try rfl
  (try simp only [pu]);refine takeA 2 (v:=?_) rfl ?_ ?_;rotate_left;· intro w hSw;replace qc:=Far.c3z qc hSw (by intro e;rcases e with e | e | e <;> omega);go_simp;try rfl
  (try simp only [pu]);refine takeA 3 (v:=?_) rfl ?_ ?_;rotate_left;· intro w hSw;replace qc:=Far.c3z qc hSw (by intro e;rcases e with e | e | e <;> omega);go_simp;try rfl
  (try simp only [pu]);refine takeA 4 (v:=?_) rfl ?_ ?_;rotate_left;· intro w hSw;replace qc:=Far.c3z qc hSw (by intro e;rcases e with e | e | e <;> omega);go_simp;try rfl
  (try simp only [pu]);refine takeA 5 (v:=?_) rfl ?_ ?_;rotate_left;· intro w hSw;replace qc:=Far.c3z qc hSw (by intro e;rcases e with e | e | e <;> omega);go_simp;try rfl
  (try simp only [pu]);refine callA 0 rfl fun K hK=>?_;go_simp;refine hK.out _ _ (hS10) (fun hS11=>?_);clear hK K;refine callA 6 rfl fun K hK=>?_;go_simp;refine hK.out _ _ ?_ (fun hS12=>?_);· exact (by refine Far.trans ?_ (Far.of (below_drew _));(iterate 6 (refine Far.setCell (p:=⟨w.heap.size,_,none⟩) ?_ (.inl rfl) _));exact Far.refl _ _)
  clear hK K;clear ec nc fc qc;generalize ee:((((((w3.setCell ⟨w.heap.size,0,none⟩ (.int .i64 x.kind)).setCell ⟨w.heap.size,1,none⟩ (.string x.name)).setCell ⟨w.heap.size,2,none⟩ (.int .i64 x.n)).setCell ⟨w.heap.size,3,none⟩ (.slice ax mx cx)).setCell ⟨w.heap.size,4,none⟩ (.int .i64 x.line)).setCell ⟨w.heap.size,5,none⟩ (.int .i64 x.col))=w4_1 at *;have hq1:=sizeS6 ee;replace HF:=fN6 HF ee;replace HBe:=bS6 HBe ee;replace HBn:=bF6 HBn ee;replace HBf:=bF6 HBf ee;replace HBq:=bF6 HBq ee;replace HMx:=mS6 HMx ee;clear ee;generalize ee:(w4_1.drew)=w4 at *;have hq2:=sizeD ee;replace HF:=fD HF ee;replace HBe:=bD HBe ee;replace HBn:=bD HBn ee;replace HBf:=bD HBf ee;replace HBq:=bD HBq ee;replace HMx:=mD HMx ee;clear ee
  have hsa4:w4.heap.size=w2.heap.size+0:=by omega
  clear hq1 hq2;clear hI hZ;have ec:=kc6 HBe;have nc:=kc1 HBn;have fc:=kc3 HBf;have qc:=kc3 HBq;have hI:=i01_q_q_0 w (w.heap.size+1+1) q w4;have hZ:=i01_q_q_0 w (w.heap.size+1+1) q w2;refine callA 7 rfl fun K hK=>?_;go_simp;refine hK.out _ _ (Far.setCell (p:=⟨w.heap.size+1,0,none⟩) hS12 (.inr (.inl rfl)) _) (fun hS13=>?_);clear hK K;clear ec nc fc qc;generalize ee:(w4.setCell ⟨(w.heap.size+1),0,none⟩ (.int .i64 (j:Int)))=w5 at *;have hsz5:=sizeS1 ee;replace HF:=fN1 HF ee;replace HBe:=bF1 HBe ee;replace HBn:Hid (Bo w5 (w.heap.size+1) 3 #[.int .i64 (j:Int)]):=zz (by rw [←ee];exact HBn.out.set 0 (.int .i64 (j:Int)));replace HBf:=bF1 HBf ee;replace HBq:=bF1 HBq ee;replace HMx:=mS1 HMx ee;clear ee;clear hI hZ;have ec:=kc6 HBe;have nc:=kc1 HBn;have fc:=kc3 HBf;have qc:=kc3 HBq;have hI:=i01_q_q_0 w (w.heap.size+1+1) q w5;have hZ:=i01_q_q_0 w (w.heap.size+1+1) q w2;refine callA 8 rfl fun K hK=>?_;go_simp;refine hK.out _ _ (Far.setCell (p:=⟨w.heap.size+1+1,2,none⟩) (Far.setCell (p:=⟨w.heap.size+1+1,1,none⟩) (Far.setCell (p:=⟨w.heap.size+1+1,0,none⟩) hS13 (.inr (.inr rfl)) _) (.inr (.inr rfl)) _) (.inr (.inr rfl)) _) (fun hS14=>?_);clear hK K;refine wpAnyH_done (by kernel_rfl) ?_ _;clear ec nc fc qc;generalize ee:(((w5.setCell ⟨(w.heap.size+1+1),0,none⟩ (.int .i64 0)).setCell ⟨(w.heap.size+1+1),1,none⟩ (.int .i64 0)).setCell ⟨(w.heap.size+1+1),2,none⟩ (.int .i64 0))=w6 at *;have hsz6:=sizeS3 ee;replace HF:=fN3 HF ee;replace HBe:=bF3 HBe ee;replace HBn:=bF3 HBn ee;replace HBf:=bS3 HBf ee;replace HBq:=bF3 HBq ee;replace HMx:=mS3 HMx ee;clear ee;clear hI hZ
  show Exit.then _ _ Exit.normal _ _
  go_wp2_with (fail)
  refine leaves_cons (f:=127) (args:=#[.pointer (some ⟨w.heap.size,0,none⟩),.pointer (some ⟨w.heap.size+1,0,none⟩),.pointer (some ⟨w.heap.size+1+1,0,none⟩)]) (by simp) (by simp [go_sem]) ?_;refine (caught_none _).mono ?_;rintro e u w9 ⟨rfl,rfl,rfl⟩;have x0:=HBe.out.cell (j:=0) rfl;have x1:=HBe.out.cell (j:=1) rfl;have x2:=HBe.out.cell (j:=2) rfl;have x3:=HBe.out.cell (j:=3) rfl;have x4:=HBe.out.cell (j:=4) rfl;have x5:=HBe.out.cell (j:=5) rfl;have y0:=HBn.out.cell (j:=0) rfl;have z0:=HBf.out.cell (j:=0) rfl;have z1:=HBf.out.cell (j:=1) rfl;have z2:=HBf.out.cell (j:=2) rfl;refine ⟨.tuple #[exV x ax mx cx,.int .i64 (j:Int),.agg #[.int .i64 0,.int .i64 0,.int .i64 0]],?_,ax,mx,cx,rfl,?_,memNw HMx.out (by omega)⟩
  · (clear HF HBe HBn HBf HBq HMx H;simp [results,Tryz.results93,go_sem,exV,x0,x1,x2,x3,x4,x5,y0,z0,z1,z2])
  · exact Far.toB (Far.mono HF.out (fun b e=>by rcases e with e | e <;> omega)) (Nat.le_refl _)
theorem rpat_any {F:Nat} {i:Int} {r:Rd1} (w:World) (h:MemW w (.s 5 (tkRows ts)) (.slice aL n cap)) (hn:n≤1048576) (hr:readE ts F .pat i.toNat 0=some r):
  Calls Tryz.prog 93 #[.slice aL n cap,.int .i64 i,.func (.func 94) #[] #[]] w (RunAns r w):=by
 by_cases hi:i<0
 · (rw [Int.toNat_of_nonpos (by omega)] at hr;exact run_pat_neg hi w h hn hr)
 · (obtain ⟨k,rfl⟩:=Int.eq_ofNat_of_zero_le (show 0≤i by omega);exact run_pat_pos w h hn hr)
theorem pat_any {F:Nat} {i:Int} {r:Rd1} (w:World) (h:MemW w (.s 5 (tkRows ts)) (.slice aL n cap)) (hn:n≤1048576) (hr:readE ts F .pat i.toNat 0=some r):
  Calls Tryz.prog 58 #[.slice aL n cap,.int .i64 i] w (RunAns r w):=by
 have H:=zz h;clear h;go_enter Tryz.func58,Tryz.ntmps58
 go_wp2_with (fail)
 have hs1:((w.alloc (.cells #[.int .i64 0,.string ⟨#[]⟩,.int .i64 0,.slice none 0 0,.int .i64 0,.int .i64 0] 60)).alloc (.cells #[.int .i64 0,.int .i64 0,.int .i64 0] 31)).heap.size=w.heap.size+1+1:=by simp only [World.size_alloc]
 have HBe:Hid (Bo ((w.alloc (.cells #[.int .i64 0,.string ⟨#[]⟩,.int .i64 0,.slice none 0 0,.int .i64 0,.int .i64 0] 60)).alloc (.cells #[.int .i64 0,.int .i64 0,.int .i64 0] 31)) w.heap.size 60 #[.int .i64 0,.string ⟨#[]⟩,.int .i64 0,.slice none 0 0,.int .i64 0,.int .i64 0]):=zz ((Bo.new w 60 #[.int .i64 0,.string ⟨#[]⟩,.int .i64 0,.slice none 0 0,.int .i64 0,.int .i64 0]).alloc _)
 have HBf:Hid (Bo ((w.alloc (.cells #[.int .i64 0,.string ⟨#[]⟩,.int .i64 0,.slice none 0 0,.int .i64 0,.int .i64 0] 60)).alloc (.cells #[.int .i64 0,.int .i64 0,.int .i64 0] 31)) (w.heap.size+1) 31 #[.int .i64 0,.int .i64 0,.int .i64 0]):=zz (by have h:=Bo.new (w.alloc (.cells #[.int .i64 0,.string ⟨#[]⟩,.int .i64 0,.slice none 0 0,.int .i64 0,.int .i64 0] 60)) 31 #[.int .i64 0,.int .i64 0,.int .i64 0];rw [World.size_alloc] at h;exact h)
 have hbel:Below w.heap.size w ((w.alloc (.cells #[.int .i64 0,.string ⟨#[]⟩,.int .i64 0,.slice none 0 0,.int .i64 0,.int .i64 0] 60)).alloc (.cells #[.int .i64 0,.int .i64 0,.int .i64 0] 31)):=((below_new w _).alloc (by simp) _);have HM:=zz (H.out.keep hbel);have HB:=zz hbel;clear hbel;generalize ((w.alloc (.cells #[.int .i64 0,.string ⟨#[]⟩,.int .i64 0,.slice none 0 0,.int .i64 0,.int .i64 0] 60)).alloc (.cells #[.int .i64 0,.int .i64 0,.int .i64 0] 31))=w1 at *;refine (rpat_any w1 HM.out hn hr).mono ?_
 cases r with
 | bad l_ c_=>
  rintro _ w2 ⟨rfl,hb⟩;replace HBe:=kB HBe hb;replace HBf:=kB HBf hb;have hs2:=hb.size;have HF:Hid (Far (fun b=>w.heap.size≤b) w w2):=zz (Far.of (HB.out.trans (hb.mono (by omega))));clear hb;have ec:=kc6 HBe;have fc:=kc3 HBf;have hI:=i01_0 w w2
  go_wp2_with (fail)
  clear ec fc;replace HBe:=zz (HBe.out.set 0 (.int .i64 0));replace HBf:=zz (HBf.out.far 0 (.int .i64 0) (g:=w.heap.size) (by omega));replace HF:=zz (HF.out.setCell (p:=⟨w.heap.size,0,none⟩) (Nat.le_refl w.heap.size) (.int .i64 0));replace HBe:=zz (HBe.out.set 1 (.string ⟨#[]⟩));replace HBf:=zz (HBf.out.far 1 (.string ⟨#[]⟩) (g:=w.heap.size) (by omega));replace HF:=zz (HF.out.setCell (p:=⟨w.heap.size,1,none⟩) (Nat.le_refl w.heap.size) (.string ⟨#[]⟩));replace HBe:=zz (HBe.out.set 2 (.int .i64 0));replace HBf:=zz (HBf.out.far 2 (.int .i64 0) (g:=w.heap.size) (by omega));replace HF:=zz (HF.out.setCell (p:=⟨w.heap.size,2,none⟩) (Nat.le_refl w.heap.size) (.int .i64 0));replace HBe:=zz (HBe.out.set 3 (.slice none 0 0));replace HBf:=zz (HBf.out.far 3 (.slice none 0 0) (g:=w.heap.size) (by omega));replace HF:=zz (HF.out.setCell (p:=⟨w.heap.size,3,none⟩) (Nat.le_refl w.heap.size) (.slice none 0 0));replace HBe:=zz (HBe.out.set 4 (.int .i64 0));replace HBf:=zz (HBf.out.far 4 (.int .i64 0) (g:=w.heap.size) (by omega));replace HF:=zz (HF.out.setCell (p:=⟨w.heap.size,4,none⟩) (Nat.le_refl w.heap.size) (.int .i64 0));replace HBe:=zz (HBe.out.set 5 (.int .i64 0));replace HBf:=zz (HBf.out.far 5 (.int .i64 0) (g:=w.heap.size) (by omega));replace HF:=zz (HF.out.setCell (p:=⟨w.heap.size,5,none⟩) (Nat.le_refl w.heap.size) (.int .i64 0));replace HBf:=zz (HBf.out.set 0 (.int .i64 1));replace HBe:=zz (HBe.out.far 0 (.int .i64 1) (g:=(w.heap.size+1)) (by omega));replace HF:=zz (HF.out.setCell (p:=⟨(w.heap.size+1),0,none⟩) (Nat.le_succ w.heap.size) (.int .i64 1));replace HBf:=zz (HBf.out.set 1 (.int .i64 l_));replace HBe:=zz (HBe.out.far 1 (.int .i64 l_) (g:=(w.heap.size+1)) (by omega));replace HF:=zz (HF.out.setCell (p:=⟨(w.heap.size+1),1,none⟩) (Nat.le_succ w.heap.size) (.int .i64 l_));replace HBf:=zz (HBf.out.set 2 (.int .i64 c_));replace HBe:=zz (HBe.out.far 2 (.int .i64 c_) (g:=(w.heap.size+1)) (by omega));replace HF:=zz (HF.out.setCell (p:=⟨(w.heap.size+1),2,none⟩) (Nat.le_succ w.heap.size) (.int .i64 c_));replace HBe:Hid (Bo (((((((((w2.setCell ⟨w.heap.size,0,none⟩ (.int .i64 0)).setCell ⟨w.heap.size,1,none⟩ (.string ⟨#[]⟩)).setCell ⟨w.heap.size,2,none⟩ (.int .i64 0)).setCell ⟨w.heap.size,3,none⟩ (.slice none 0 0)).setCell ⟨w.heap.size,4,none⟩ (.int .i64 0)).setCell ⟨w.heap.size,5,none⟩ (.int .i64 0)).setCell ⟨(w.heap.size+1),0,none⟩ (.int .i64 1)).setCell ⟨(w.heap.size+1),1,none⟩ (.int .i64 l_)).setCell ⟨(w.heap.size+1),2,none⟩ (.int .i64 c_)) w.heap.size 60 #[.int .i64 0,.string ⟨#[]⟩,.int .i64 0,.slice none 0 0,.int .i64 0,.int .i64 0]):=HBe;replace HBf:Hid (Bo (((((((((w2.setCell ⟨w.heap.size,0,none⟩ (.int .i64 0)).setCell ⟨w.heap.size,1,none⟩ (.string ⟨#[]⟩)).setCell ⟨w.heap.size,2,none⟩ (.int .i64 0)).setCell ⟨w.heap.size,3,none⟩ (.slice none 0 0)).setCell ⟨w.heap.size,4,none⟩ (.int .i64 0)).setCell ⟨w.heap.size,5,none⟩ (.int .i64 0)).setCell ⟨(w.heap.size+1),0,none⟩ (.int .i64 1)).setCell ⟨(w.heap.size+1),1,none⟩ (.int .i64 l_)).setCell ⟨(w.heap.size+1),2,none⟩ (.int .i64 c_)) (w.heap.size+1) 31 #[.int .i64 1,.int .i64 l_,.int .i64 c_]):=HBf;generalize (((((((((w2.setCell ⟨w.heap.size,0,none⟩ (.int .i64 0)).setCell ⟨w.heap.size,1,none⟩ (.string ⟨#[]⟩)).setCell ⟨w.heap.size,2,none⟩ (.int .i64 0)).setCell ⟨w.heap.size,3,none⟩ (.slice none 0 0)).setCell ⟨w.heap.size,4,none⟩ (.int .i64 0)).setCell ⟨w.heap.size,5,none⟩ (.int .i64 0)).setCell ⟨(w.heap.size+1),0,none⟩ (.int .i64 1)).setCell ⟨(w.heap.size+1),1,none⟩ (.int .i64 l_)).setCell ⟨(w.heap.size+1),2,none⟩ (.int .i64 c_))=w3 at *;have x0:=HBe.out.cell (j:=0) rfl;have x1:=HBe.out.cell (j:=1) rfl;have x2:=HBe.out.cell (j:=2) rfl;have x3:=HBe.out.cell (j:=3) rfl;have x4:=HBe.out.cell (j:=4) rfl;have x5:=HBe.out.cell (j:=5) rfl;have z0:=HBf.out.cell (j:=0) rfl;have z1:=HBf.out.cell (j:=1) rfl;have z2:=HBf.out.cell (j:=2) rfl
  refine bodyPost_ret (v:=.tuple #[.agg #[.int .i64 0,.string ⟨#[]⟩,.int .i64 0,.slice none 0 0,.int .i64 0,.int .i64 0],.int .i64 0,.agg #[.int .i64 1,.int .i64 l_,.int .i64 c_]]) (by clear HF HBe HBf H HM HB;simp [results,Tryz.results58,go_sem,x0,x1,x2,x3,x4,x5,z0,z1,z2]) rfl ?_;exact ⟨rfl,Far.toB HF.out (Nat.le_refl _)⟩
 | ok x j=>
  rintro _ w2 ⟨a,m,c,rfl,hb,hm⟩;replace HBe:=kB HBe hb;replace HBf:=kB HBf hb;have hs2:=hb.size;have HF:Hid (Far (fun b=>w.heap.size≤b) w w2):=zz (Far.of (HB.out.trans (hb.mono (by omega))));clear hb;have HM2:=zz hm;clear hm;simp only [exV];have ec:=kc6 HBe;have fc:=kc3 HBf;have hI:=i01_0 w w2
  go_wp2_with (fail)
  clear ec fc;replace HBe:=zz (HBe.out.set 0 (.int .i64 x.kind));replace HBf:=zz (HBf.out.far 0 (.int .i64 x.kind) (g:=w.heap.size) (by omega));replace HF:=zz (HF.out.setCell (p:=⟨w.heap.size,0,none⟩) (Nat.le_refl w.heap.size) (.int .i64 x.kind));replace HM2:=zz (memSet HM2.out (g:=w.heap.size) (by omega) 0 (.int .i64 x.kind));replace HBe:=zz (HBe.out.set 1 (.string x.name));replace HBf:=zz (HBf.out.far 1 (.string x.name) (g:=w.heap.size) (by omega));replace HF:=zz (HF.out.setCell (p:=⟨w.heap.size,1,none⟩) (Nat.le_refl w.heap.size) (.string x.name));replace HM2:=zz (memSet HM2.out (g:=w.heap.size) (by omega) 1 (.string x.name));replace HBe:=zz (HBe.out.set 2 (.int .i64 x.n));replace HBf:=zz (HBf.out.far 2 (.int .i64 x.n) (g:=w.heap.size) (by omega));replace HF:=zz (HF.out.setCell (p:=⟨w.heap.size,2,none⟩) (Nat.le_refl w.heap.size) (.int .i64 x.n));replace HM2:=zz (memSet HM2.out (g:=w.heap.size) (by omega) 2 (.int .i64 x.n));replace HBe:=zz (HBe.out.set 3 (.slice a m c));replace HBf:=zz (HBf.out.far 3 (.slice a m c) (g:=w.heap.size) (by omega));replace HF:=zz (HF.out.setCell (p:=⟨w.heap.size,3,none⟩) (Nat.le_refl w.heap.size) (.slice a m c));replace HM2:=zz (memSet HM2.out (g:=w.heap.size) (by omega) 3 (.slice a m c));replace HBe:=zz (HBe.out.set 4 (.int .i64 x.line));replace HBf:=zz (HBf.out.far 4 (.int .i64 x.line) (g:=w.heap.size) (by omega));replace HF:=zz (HF.out.setCell (p:=⟨w.heap.size,4,none⟩) (Nat.le_refl w.heap.size) (.int .i64 x.line));replace HM2:=zz (memSet HM2.out (g:=w.heap.size) (by omega) 4 (.int .i64 x.line));replace HBe:=zz (HBe.out.set 5 (.int .i64 x.col));replace HBf:=zz (HBf.out.far 5 (.int .i64 x.col) (g:=w.heap.size) (by omega));replace HF:=zz (HF.out.setCell (p:=⟨w.heap.size,5,none⟩) (Nat.le_refl w.heap.size) (.int .i64 x.col));replace HM2:=zz (memSet HM2.out (g:=w.heap.size) (by omega) 5 (.int .i64 x.col));replace HBf:=zz (HBf.out.set 0 (.int .i64 0));replace HBe:=zz (HBe.out.far 0 (.int .i64 0) (g:=(w.heap.size+1)) (by omega));replace HF:=zz (HF.out.setCell (p:=⟨(w.heap.size+1),0,none⟩) (Nat.le_succ w.heap.size) (.int .i64 0));replace HM2:=zz (memSet HM2.out (g:=(w.heap.size+1)) (by omega) 0 (.int .i64 0));replace HBf:=zz (HBf.out.set 1 (.int .i64 0));replace HBe:=zz (HBe.out.far 1 (.int .i64 0) (g:=(w.heap.size+1)) (by omega));replace HF:=zz (HF.out.setCell (p:=⟨(w.heap.size+1),1,none⟩) (Nat.le_succ w.heap.size) (.int .i64 0));replace HM2:=zz (memSet HM2.out (g:=(w.heap.size+1)) (by omega) 1 (.int .i64 0));replace HBf:=zz (HBf.out.set 2 (.int .i64 0));replace HBe:=zz (HBe.out.far 2 (.int .i64 0) (g:=(w.heap.size+1)) (by omega));replace HF:=zz (HF.out.setCell (p:=⟨(w.heap.size+1),2,none⟩) (Nat.le_succ w.heap.size) (.int .i64 0));replace HM2:=zz (memSet HM2.out (g:=(w.heap.size+1)) (by omega) 2 (.int .i64 0));replace HBe:Hid (Bo (((((((((w2.setCell ⟨w.heap.size,0,none⟩ (.int .i64 x.kind)).setCell ⟨w.heap.size,1,none⟩ (.string x.name)).setCell ⟨w.heap.size,2,none⟩ (.int .i64 x.n)).setCell ⟨w.heap.size,3,none⟩ (.slice a m c)).setCell ⟨w.heap.size,4,none⟩ (.int .i64 x.line)).setCell ⟨w.heap.size,5,none⟩ (.int .i64 x.col)).setCell ⟨(w.heap.size+1),0,none⟩ (.int .i64 0)).setCell ⟨(w.heap.size+1),1,none⟩ (.int .i64 0)).setCell ⟨(w.heap.size+1),2,none⟩ (.int .i64 0)) w.heap.size 60 #[.int .i64 x.kind,.string x.name,.int .i64 x.n,.slice a m c,.int .i64 x.line,.int .i64 x.col]):=HBe;replace HBf:Hid (Bo (((((((((w2.setCell ⟨w.heap.size,0,none⟩ (.int .i64 x.kind)).setCell ⟨w.heap.size,1,none⟩ (.string x.name)).setCell ⟨w.heap.size,2,none⟩ (.int .i64 x.n)).setCell ⟨w.heap.size,3,none⟩ (.slice a m c)).setCell ⟨w.heap.size,4,none⟩ (.int .i64 x.line)).setCell ⟨w.heap.size,5,none⟩ (.int .i64 x.col)).setCell ⟨(w.heap.size+1),0,none⟩ (.int .i64 0)).setCell ⟨(w.heap.size+1),1,none⟩ (.int .i64 0)).setCell ⟨(w.heap.size+1),2,none⟩ (.int .i64 0)) (w.heap.size+1) 31 #[.int .i64 0,.int .i64 0,.int .i64 0]):=HBf
  generalize (((((((((w2.setCell ⟨w.heap.size,0,none⟩ (.int .i64 x.kind)).setCell ⟨w.heap.size,1,none⟩ (.string x.name)).setCell ⟨w.heap.size,2,none⟩ (.int .i64 x.n)).setCell ⟨w.heap.size,3,none⟩ (.slice a m c)).setCell ⟨w.heap.size,4,none⟩ (.int .i64 x.line)).setCell ⟨w.heap.size,5,none⟩ (.int .i64 x.col)).setCell ⟨(w.heap.size+1),0,none⟩ (.int .i64 0)).setCell ⟨(w.heap.size+1),1,none⟩ (.int .i64 0)).setCell ⟨(w.heap.size+1),2,none⟩ (.int .i64 0))=w3 at *;have x0:=HBe.out.cell (j:=0) rfl;have x1:=HBe.out.cell (j:=1) rfl;have x2:=HBe.out.cell (j:=2) rfl;have x3:=HBe.out.cell (j:=3) rfl;have x4:=HBe.out.cell (j:=4) rfl;have x5:=HBe.out.cell (j:=5) rfl;have z0:=HBf.out.cell (j:=0) rfl;have z1:=HBf.out.cell (j:=1) rfl;have z2:=HBf.out.cell (j:=2) rfl;refine bodyPost_ret (v:=.tuple #[.agg #[.int .i64 x.kind,.string x.name,.int .i64 x.n,.slice a m c,.int .i64 x.line,.int .i64 x.col],.int .i64 (j:Int),.agg #[.int .i64 0,.int .i64 0,.int .i64 0]]) (by clear HF HBe HBf H HM HB HM2;simp [results,Tryz.results58,go_sem,x0,x1,x2,x3,x4,x5,z0,z1,z2]) rfl ?_;exact ⟨_,_,_,rfl,Far.toB HF.out (Nat.le_refl _),memNw HM2.out (by omega)⟩
end
end
end Go.Proofs.YtcoiagfeoonpbaaGreat
