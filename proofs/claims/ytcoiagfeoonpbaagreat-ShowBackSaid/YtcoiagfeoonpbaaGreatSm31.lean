/-
 The module reader's atom, typ and atoms: types. Under what they do with less fuel. No condition but how the reader and the tokens lie.
-/
import Derived.Test.YtcoiagfeoonpbaaGreatSm21
import Derived.Deep.Cut
import Derived.Test.YtcoiagfeoonpbaaGreatSm19
set_option maxHeartbeats 20000000
set_option maxRecDepth 100000
namespace Go.Proofs.YtcoiagfeoonpbaaGreat
section
open Go.RowKit
theorem info_tyM:(Tryz.prog.info? 83).map (fun i=>(i.zero,i.size,i.bytes))=some (some (.agg #[.int .i64 0,.string ⟨#[]⟩,.int .i64 0,.slice none 0 0]),4,56):=by kernel_rfl
theorem rows_len4 (l:List Tm):(Tm.rows l).length=l.length:=by rw [Tm.rows_eq,List.length_map]
theorem rows_app4 (a b:List Tm):Tm.rows (a++b)=Tm.rows a++Tm.rows b:=by rw [Tm.rows_eq,Tm.rows_eq,Tm.rows_eq,List.map_append]
theorem form2T {base:Nat} {e:TypeId} {w:World} {y:Value} {l:List Tm} (h:OwnD 0 base e 4 w y (Tm.rows l)):∃ a m c,y=.slice a m c∧m=l.length∧m≤c∧c≤9223372036854775807:=by
 obtain ⟨a,m,c,rfl⟩:=mem_slice h.mem;have :=h.mem.len;rw [rows_len4] at this;exact ⟨a,m,c,rfl,this.1.symm,this.2.1,this.2.2⟩
theorem starts_ltM {ts:List Tk} {s:MS} (h:startsS ts s=true):s.i<ts.length:=by
 unfold startsS at h;simp only [Bool.and_eq_true,Bool.or_eq_true,decide_eq_true_eq] at h
 rcases h.2 with h2 | h2 | h2
 · exact now_lt (by rw [h2];decide)
 · exact now_lt (by rw [h2];decide)
 · exact isT_lt (isS_parts h2).2 (by decide)
def TAns (ts:List Tk) (aL:Option Addr) (n cap q:Nat) (x:Tm) (s':MS) (deep:Nat) (W:World) (e:Ending) (w':World):Prop:=
 ∃ a m c,e=.returned (tmV x a m c)∧FarQ q W w'∧RS ts aL n cap q s' (deep:Int) w'∧Mem (Nw 0 W.heap.size w'.heap.size) w' (.s 4 (Tm.rows x.args)) (.slice a m c)
def LAns (ts:List Tk) (aL:Option Addr) (n cap q:Nat) (l:List Tm) (s':MS) (deep:Nat) (W:World) (e:Ending) (w':World):Prop:=
 ∃ a m c,e=.returned (.slice a m c)∧FarQ q W w'∧RS ts aL n cap q s' (deep:Int) w'∧Mem (Nw 0 W.heap.size w'.heap.size) w' (.s 4 (Tm.rows l)) (.slice a m c)
section
variable (ts:List Tk) (aL:Option Addr) (n cap q:Nat)
def ReadsAt (f:Nat):Prop:=∀ (s:MS) (deep:Nat) (x:Tm) (s':MS) (w:World),deep≤40→typeM ts f .atom deep s=some (x,s')→RS ts aL n cap q s (deep:Int) w→Calls Tryz.prog 126 #[.pointer (some ⟨q,0,none⟩)] w (TAns ts aL n cap q x s' deep w)
def ReadsTy (f:Nat):Prop:=∀ (s:MS) (deep:Nat) (x:Tm) (s':MS) (w:World),deep≤40∨deep=41∧s.ok=false→typeM ts f .typ deep s=some (x,s')→RS ts aL n cap q s (deep:Int) w→Calls Tryz.prog 145 #[.pointer (some ⟨q,0,none⟩)] w (TAns ts aL n cap q x s' deep w)
def ReadsAs (f:Nat):Prop:=∀ (s:MS) (deep:Nat) (x:Tm) (s':MS) (w:World),deep≤40→typeM ts f (.atoms []) deep s=some (x,s')→RS ts aL n cap q s (deep:Int) w→Calls Tryz.prog 92 #[.pointer (some ⟨q,0,none⟩)] w (LAns ts aL n cap q x.args s' deep w)
end
section
variable {ts:List Tk} {aL:Option Addr} {n cap q:Nat}
theorem atomM_reads {f:Nat} (HT:ReadsTy ts aL n cap q f):ReadsAt ts aL n cap q (f+1):=by
 intro s deep x s' w hd hr hp;have HP:=zz hp;have hq0:=hp.lt;have HF:=zz (FarB.refl q w.heap.size w);have hsm:=hp.sm;have hlen:=hp.len;clear hp;rw [typeM] at hr;go_enter Tryz.func126,Tryz.ntmps126;go_upto_region 1 with (fail);generalize ee:World.alloc w _=w1;have hsa1:=sizeA ee;replace HP:=rpA HP ee;replace HF:=fA HF ee;have HBr:=nB ee (w.heap.size);clear ee;have qc:=kcR HP;have rc:=kc4 HBr;have hI:=iq_0_0 q w w1;have hZ:=iq_01 q w
 go_wp2_with (fail)
 clear qc rc;refine (mnow_any _ HP.out.bo HP.out.mem).mono ?_;rintro _ w2 ⟨rfl,hb⟩;have hf:=FarQ.of (q:=q) hb;replace HBr:=qB HBr hf;replace HF:=qF HF hf;have hs2:=hf.size;replace HP:=krP HP hb;clear hf hb;simp only [tkV];clear hI hZ;have qc:=kcR HP;have rc:=kc4 HBr;have hI:=iq_0_0 q w w2
 by_cases h2:(nowT ts s.i).k=2
 ·
  rw [if_pos h2] at hr;cases hr
  have e2:((nowT ts s.i).k==2)=true:=by simp [h2]
  have hlt:s.i<ts.length:=now_lt (by rw [h2];decide)
  have hov:(s.i:Int)+1≤9223372036854775807:=by omega
  clear h2;go_upto_region 5 with (fail);clear qc rc;generalize ee:World.setCell w2 _ _=w3_1;have hq1:=sizeS1 ee;replace HP:=zz (HP.out.setIE (k:=(s.i+1)) ee (by omega));replace HF:=zz (HF.out.setQE ee);replace HBr:=bF1 HBr ee;clear ee;generalize ee:World.alloc w3_1 _=w3;have hq2:=sizeA ee;replace HP:=rpA HP ee;replace HF:=fA HF ee;replace HBr:=bA HBr ee;have HBt:=nB ee (w2.heap.size);clear ee
  have hsa3:w3.heap.size=w2.heap.size+1:=by omega
  clear hq1 hq2;clear hI;have qc:=kcR HP;have rc:=kc4 HBr;have tc:=kc5 HBt;have hI:=iq_0_0_0 q w w2 w3;have hZ:=iq_0_01 q w w2
  go_wp2_with (fail)
  clear qc rc tc;generalize ee:World.setCell _ ⟨w.heap.size,3,none⟩ _=w4;have hsz4:=sizeS4 ee;replace HP:=rpO4 HP ee;replace HF:=fN4 HF ee;replace HBr:=bS4 HBr ee;replace HBt:=bF4 HBt ee;clear ee;clear hI hZ;have fc:=kc4 HBr;refine bodyPost_ret (v:=.agg #[.int .i64 1,.string (nowT ts s.i).s,.int .i64 0,.slice none 0 0]) (by clear HP HF HBr HBt;simp [results,Tryz.results126,go_sem,fc]) rfl ?_;exact ⟨_,_,_,rfl,HF.out.out,HP.out,(.e none 0 4 (by decide))⟩
 by_cases h3:(nowT ts s.i).k=3
 ·
  rw [if_neg h2,if_pos h3] at hr;cases hr
  have e2:((nowT ts s.i).k==2)=false:=by simp [h2]
  have e3:((nowT ts s.i).k==3)=true:=by simp [h3]
  have hlt:s.i<ts.length:=now_lt (by rw [h3];decide)
  have hov:(s.i:Int)+1≤9223372036854775807:=by omega
  clear h3 h2;go_upto_region 8 with (fail);clear qc rc;generalize ee:World.setCell w2 _ _=w3_1;have hq1:=sizeS1 ee;replace HP:=zz (HP.out.setIE (k:=(s.i+1)) ee (by omega));replace HF:=zz (HF.out.setQE ee);replace HBr:=bF1 HBr ee;clear ee;generalize ee:World.alloc w3_1 _=w3;have hq2:=sizeA ee;replace HP:=rpA HP ee;replace HF:=fA HF ee;replace HBr:=bA HBr ee;have HBt:=nB ee (w2.heap.size);clear ee
  have hsa3:w3.heap.size=w2.heap.size+1:=by omega
  clear hq1 hq2;clear hI;have qc:=kcR HP;have rc:=kc4 HBr;have tc:=kc5 HBt;have hI:=iq_0_0_0 q w w2 w3;have hZ:=iq_0_01 q w w2
  go_wp2_with (fail)
  clear qc rc tc;generalize ee:World.setCell _ ⟨w.heap.size,3,none⟩ _=w4;have hsz4:=sizeS4 ee;replace HP:=rpO4 HP ee;replace HF:=fN4 HF ee;replace HBr:=bS4 HBr ee;replace HBt:=bF4 HBt ee;clear ee;clear hI hZ;have fc:=kc4 HBr;refine bodyPost_ret (v:=.agg #[.int .i64 2,.string (nowT ts s.i).s,.int .i64 0,.slice none 0 0]) (by clear HP HF HBr HBt;simp [results,Tryz.results126,go_sem,fc]) rfl ?_;exact ⟨_,_,_,rfl,HF.out.out,HP.out,(.e none 0 4 (by decide))⟩
 rw [if_neg h2,if_neg h3] at hr
 have e2:((nowT ts s.i).k==2)=false:=by simp [h2]
 have e3:((nowT ts s.i).k==3)=false:=by simp [h3]
 obtain ⟨p,hr1,hr2⟩:=Option.map_eq_some_iff.1 hr;cases hr2;obtain ⟨z,sz⟩:=p
 by_cases h40:deep=40
 rotate_left
 ·
  rw [if_neg h40] at hr1
  have e4:((deep:Int)==40)=false:=by simp;omega
  go_upto_region 11 with (fail);clear qc rc;generalize ee:World.alloc w2 _=w3;have hsa3:=sizeA ee;replace HP:=rpA HP ee;replace HF:=fA HF ee;replace HBr:=bA HBr ee;have HBt:=nB ee (w2.heap.size);clear ee;clear hI;have qc:=kcR HP;have rc:=kc4 HBr;have tc:=kc5 HBt;have hI:=iq_0_0_0 q w w2 w3;have hZ:=iq_0_01 q w w2
  go_wp2_with (fail)
  clear qc rc tc;refine (mtake_any 6 wOpen _ HP.out (by decide)).mono ?_;rintro _ w4 ⟨rfl,hf,hp⟩;replace HBr:=qB HBr hf;replace HBt:=qB HBt hf;replace HF:=qF HF hf;have hs4:=hf.size;replace HP:=zz hp;clear hf hp;clear hI hZ;have qc:=kcR HP;have rc:=kc4 HBr;have tc:=kc5 HBt;have hI:=iq_0_0_0 q w w2 w4;go_upto_region 13 with (fail);clear qc rc tc;generalize ee:World.setCell w4 _ _=w5;have hsz5:=sizeS1 ee;replace HP:=zz (HP.out.setDE (k:=(((deep+1:Nat):Int))) ee (by omega));replace HF:=zz (HF.out.setQE ee);replace HBr:=bF1 HBr ee;replace HBt:=bF1 HBt ee;clear ee;clear hI;have qc:=kcR HP;have rc:=kc4 HBr;have tc:=kc5 HBt;have hI:=iq_0_0_0 q w w2 w5;have hZ:=iq_0_0_0 q w w2 w4
  go_wp2_with (fail)
  clear qc rc tc;refine (HT _ (deep+1) z sz _ (by omega) hr1 HP.out).mono ?_;rintro _ w6 ⟨az,mz,cz,rfl,hf,hp,hm⟩;replace HBr:=qB HBr hf;replace HBt:=qB HBt hf;replace HF:=qF HF hf;have hs6:=hf.size;replace HP:=zz hp;have HMz:=zz hm;clear hf hp hm;simp only [tmV];clear hI hZ;have qc:=kcR HP;have rc:=kc4 HBr;have tc:=kc5 HBt;have hI:=iq_0_0_0 q w w2 w6;go_upto_region 15 with (fail);clear qc rc tc;generalize ee:World.setCell w6 _ _=w7_1;have hq1:=sizeS1 ee;replace HP:=zz (HP.out.setDE (k:=((deep:Int))) ee (by omega));replace HF:=zz (HF.out.setQE ee);replace HBr:=bF1 HBr ee;replace HBt:=bF1 HBt ee;replace HMz:=mS1 HMz ee;clear ee;generalize ee:World.alloc w7_1 _=w7;have hq2:=sizeA ee;replace HP:=rpA HP ee;replace HF:=fA HF ee;replace HBr:=bA HBr ee;replace HBt:=bA HBt ee;replace HMz:=mA HMz ee;have HBx:=nB ee (w6.heap.size);clear ee
  have hsa7:w7.heap.size=w6.heap.size+1:=by omega
  clear hq1 hq2;clear hI;have qc:=kcR HP;have rc:=kc4 HBr;have tc:=kc5 HBt;have xc:=kc4 HBx;have hI:=iq_0_0_0_0 q w w2 w6 w7;have hZ:=iq_0_0_01 q w w2 w6
  go_wp2_with (fail)
  clear qc rc tc xc;refine (mtake_any 6 wClose _ HP.out (by decide)).mono ?_;rintro _ w8 ⟨rfl,hf,hp⟩;replace HBr:=qB HBr hf;replace HBt:=qB HBt hf;replace HBx:=qB HBx hf;replace HMz:=qM HMz hf;replace HF:=qF HF hf;have hs8:=hf.size;replace HP:=zz hp;clear hf hp;clear hI hZ;have qc:=kcR HP;have rc:=kc4 HBr;have tc:=kc5 HBt;have xc:=kc4 HBx;have hI:=iq_0_0_0_0 q w w2 w6 w8
  go_wp2_with (fail)
  clear qc rc tc xc;generalize ee:World.setCell _ ⟨w.heap.size,3,none⟩ _=w9;have hsz9:=sizeS4 ee;replace HP:=rpO4 HP ee;replace HF:=fN4 HF ee;replace HBr:=bS4 HBr ee;replace HBt:=bF4 HBt ee;replace HBx:=bF4 HBx ee;replace HMz:=mS4 HMz ee;clear ee;clear hI;have fc:=kc4 HBr;refine bodyPost_ret (v:=.agg #[.int .i64 z.kind,.string z.name,.int .i64 z.n,.slice az mz cz]) (by clear HP HF HBr HBt HBx HMz;simp [results,Tryz.results126,go_sem,fc]) rfl ?_;exact ⟨_,_,_,rfl,HF.out.out,HP.out,memNw HMz.out (by omega)⟩
 rw [if_pos h40] at hr1
 have e4:((deep:Int)==40)=true:=by simp;omega
 have H40:=zz h40;clear h40;go_upto_region 10 with (fail);clear qc rc;generalize ee:World.alloc w2 _=w3;have hsa3:=sizeA ee;replace HP:=rpA HP ee;replace HF:=fA HF ee;replace HBr:=bA HBr ee;have HBt:=nB ee (w2.heap.size);clear ee;clear hI;have qc:=kcR HP;have rc:=kc4 HBr;have tc:=kc5 HBt;have hI:=iq_0_0_0 q w w2 w3;have hZ:=iq_0_01 q w w2
 go_wp2_with (fail)
 clear qc rc tc;refine (mfail_any _ HP.out).mono ?_;rintro _ w4 ⟨rfl,hf,hp⟩;replace HBr:=qB HBr hf;replace HBt:=qB HBt hf;replace HF:=qF HF hf;have hs4:=hf.size;replace HP:=zz hp;clear hf hp;clear hI hZ;have qc:=kcR HP;have rc:=kc4 HBr;have tc:=kc5 HBt;have hI:=iq_0_0_0 q w w2 w4
 go_wp2_with (fail)
 clear qc rc tc;refine (mtake_any 6 wOpen _ HP.out (by decide)).mono ?_;rintro _ w5 ⟨rfl,hf,hp⟩;replace HBr:=qB HBr hf;replace HBt:=qB HBt hf;replace HF:=qF HF hf;have hs5:=hf.size;replace HP:=zz hp;clear hf hp;clear hI;have qc:=kcR HP;have rc:=kc4 HBr;have tc:=kc5 HBt;have hI:=iq_0_0_0 q w w2 w5;go_upto_region 13 with (fail);clear qc rc tc;generalize ee:World.setCell w5 _ _=w6;have hsz6:=sizeS1 ee;replace HP:=zz (HP.out.setDE (k:=(((deep+1:Nat):Int))) ee (by omega));replace HF:=zz (HF.out.setQE ee);replace HBr:=bF1 HBr ee;replace HBt:=bF1 HBt ee;clear ee;clear hI;have qc:=kcR HP;have rc:=kc4 HBr;have tc:=kc5 HBt;have hI:=iq_0_0_0 q w w2 w6;have hZ:=iq_0_0_0 q w w2 w5
 go_wp2_with (fail)
 clear qc rc tc
 refine (HT _ (deep+1) z sz _ (.inr ⟨by have :=H40.out;omega,(step_take (ts:=ts) _).bad (fail_notok s)⟩) hr1 HP.out).mono ?_
 rintro _ w7 ⟨az,mz,cz,rfl,hf,hp,hm⟩;replace HBr:=qB HBr hf;replace HBt:=qB HBt hf;replace HF:=qF HF hf;have hs7:=hf.size;replace HP:=zz hp;have HMz:=zz hm;clear hf hp hm;simp only [tmV];clear hI hZ;have qc:=kcR HP;have rc:=kc4 HBr;have tc:=kc5 HBt;have hI:=iq_0_0_0 q w w2 w7;go_upto_region 15 with (fail);clear qc rc tc;generalize ee:World.setCell w7 _ _=w8_1;have hq1:=sizeS1 ee;replace HP:=zz (HP.out.setDE (k:=((deep:Int))) ee (by omega));replace HF:=zz (HF.out.setQE ee);replace HBr:=bF1 HBr ee;replace HBt:=bF1 HBt ee;replace HMz:=mS1 HMz ee;clear ee;generalize ee:World.alloc w8_1 _=w8;have hq2:=sizeA ee;replace HP:=rpA HP ee;replace HF:=fA HF ee;replace HBr:=bA HBr ee;replace HBt:=bA HBt ee;replace HMz:=mA HMz ee;have HBx:=nB ee (w7.heap.size);clear ee
 have hsa8:w8.heap.size=w7.heap.size+1:=by omega
 clear hq1 hq2;clear hI;have qc:=kcR HP;have rc:=kc4 HBr;have tc:=kc5 HBt;have xc:=kc4 HBx;have hI:=iq_0_0_0_0 q w w2 w7 w8;have hZ:=iq_0_0_01 q w w2 w7
 go_wp2_with (fail)
 clear qc rc tc xc;refine (mtake_any 6 wClose _ HP.out (by decide)).mono ?_;rintro _ w9 ⟨rfl,hf,hp⟩;replace HBr:=qB HBr hf;replace HBt:=qB HBt hf;replace HBx:=qB HBx hf;replace HMz:=qM HMz hf;replace HF:=qF HF hf;have hs9:=hf.size;replace HP:=zz hp;clear hf hp;clear hI hZ;have qc:=kcR HP;have rc:=kc4 HBr;have tc:=kc5 HBt;have xc:=kc4 HBx;have hI:=iq_0_0_0_0 q w w2 w7 w9
 go_wp2_with (fail)
 clear qc rc tc xc;generalize ee:World.setCell _ ⟨w.heap.size,3,none⟩ _=w10;have hsz10:=sizeS4 ee;replace HP:=rpO4 HP ee;replace HF:=fN4 HF ee;replace HBr:=bS4 HBr ee;replace HBt:=bF4 HBt ee;replace HBx:=bF4 HBx ee;replace HMz:=mS4 HMz ee;clear ee;clear hI;have fc:=kc4 HBr;refine bodyPost_ret (v:=.agg #[.int .i64 z.kind,.string z.name,.int .i64 z.n,.slice az mz cz]) (by clear HP HF HBr HBt HBx HMz;simp [results,Tryz.results126,go_sem,fc]) rfl ?_;exact ⟨_,_,_,rfl,HF.out.out,HP.out,memNw HMz.out (by omega)⟩
theorem typM_reads {f:Nat} (HA:ReadsAt ts aL n cap q f) (HL:ReadsAs ts aL n cap q f):ReadsTy ts aL n cap q (f+1):=by
 intro s deep x s' w hd hr hp;have HP:=zz hp;have hq0:=hp.lt;have HF:=zz (FarB.refl q w.heap.size w);have hsm:=hp.sm;have hlen:=hp.len;clear hp;rw [typeM] at hr;go_enter Tryz.func145,Tryz.ntmps145;go_upto_region 1 with (fail);generalize ee:World.alloc w _=w1;have hsa1:=sizeA ee;replace HP:=rpA HP ee;replace HF:=fA HF ee;have HBr:=nB ee (w.heap.size);clear ee;have qc:=kcR HP;have rc:=kc4 HBr;have hI:=iq_0_0 q w w1;have hZ:=iq_01 q w
 go_wp2_with (fail)
 refine (mok_any _ HP.out).mono ?_;rintro _ _ ⟨rfl,rfl⟩
 by_cases hok:s.ok=false
 ·
  rw [if_pos hok] at hr;cases hr;rw [hok]
  go_wp2_with (fail)
  clear qc rc;generalize ee:World.setCell _ ⟨w.heap.size,3,none⟩ _=w2;have hsz2:=sizeS4 ee;replace HP:=rpO4 HP ee;replace HF:=fN4 HF ee;replace HBr:=bS4 HBr ee;clear ee;clear hI hZ;have fc:=kc4 HBr;refine bodyPost_ret (v:=.agg #[.int .i64 0,.string ⟨#[]⟩,.int .i64 0,.slice none 0 0]) (by clear HP HF HBr;simp [results,Tryz.results145,go_sem,fc]) rfl ?_;exact ⟨_,_,_,rfl,HF.out.out,HP.out,(.e none 0 4 (by decide))⟩
 rw [if_neg hok] at hr
 have hok1:s.ok=true:=by simpa using hok
 have hd4:deep≤40:=by rcases hd with h | h;exact h;exact absurd h.2 hok
 rw [hok1]
 go_wp2_with (fail)
 clear qc rc;refine (mnow_any _ HP.out.bo HP.out.mem).mono ?_;rintro _ w2 ⟨rfl,hb⟩;have hf:=FarQ.of (q:=q) hb;replace HBr:=qB HBr hf;replace HF:=qF HF hf;have hs2:=hf.size;replace HP:=krP HP hb;clear hf hb;simp only [tkV];clear hI hZ;have qc:=kcR HP;have rc:=kc4 HBr;have hI:=iq_0_0 q w w2
 by_cases h3:(nowT ts s.i).k=3
 rotate_left
 ·
  rw [if_neg h3] at hr
  have e3:((nowT ts s.i).k==3)=false:=by simp [h3]
  go_upto_region 7 with (fail);clear qc rc;generalize ee:World.alloc w2 _=w3;have hsa3:=sizeA ee;replace HP:=rpA HP ee;replace HF:=fA HF ee;replace HBr:=bA HBr ee;have HBt:=nB ee (w2.heap.size);clear ee;clear hI;have qc:=kcR HP;have rc:=kc4 HBr;have tc:=kc5 HBt;have hI:=iq_0_0_0 q w w2 w3;have hZ:=iq_0_01 q w w2
  go_wp2_with (fail)
  clear qc rc tc;refine (HA s deep x s' _ hd4 hr HP.out).mono ?_;rintro _ w4 ⟨az,mz,cz,rfl,hf,hp,hm⟩;replace HBr:=qB HBr hf;replace HBt:=qB HBt hf;replace HF:=qF HF hf;have hs4:=hf.size;replace HP:=zz hp;have HMz:=zz hm;clear hf hp hm;simp only [tmV];clear hI hZ;have qc:=kcR HP;have rc:=kc4 HBr;have tc:=kc5 HBt;have hI:=iq_0_0_0 q w w2 w4
  go_wp2_with (fail)
  clear qc rc tc;generalize ee:World.setCell _ ⟨w.heap.size,3,none⟩ _=w5;have hsz5:=sizeS4 ee;replace HP:=rpO4 HP ee;replace HF:=fN4 HF ee;replace HBr:=bS4 HBr ee;replace HBt:=bF4 HBt ee;replace HMz:=mS4 HMz ee;clear ee;clear hI;have fc:=kc4 HBr;refine bodyPost_ret (v:=.agg #[.int .i64 x.kind,.string x.name,.int .i64 x.n,.slice az mz cz]) (by clear HP HF HBr HBt HMz;simp [results,Tryz.results145,go_sem,fc]) rfl ?_;exact ⟨_,_,_,rfl,HF.out.out,HP.out,memNw HMz.out (by omega)⟩
 rw [if_pos h3] at hr
 have e3:((nowT ts s.i).k==3)=true:=by simp [h3]
 have hlt:s.i<ts.length:=now_lt (by rw [h3];decide)
 have hov:(s.i:Int)+1≤9223372036854775807:=by omega
 clear h3;obtain ⟨p,hr1,hr2⟩:=Option.map_eq_some_iff.1 hr;cases hr2;obtain ⟨z,sz⟩:=p;go_upto_region 6 with (fail);clear qc rc;generalize ee:World.setCell w2 _ _=w3_1;have hq1:=sizeS1 ee;replace HP:=zz (HP.out.setIE (k:=(s.i+1)) ee (by omega));replace HF:=zz (HF.out.setQE ee);replace HBr:=bF1 HBr ee;clear ee;generalize ee:World.alloc w3_1 _=w3;have hq2:=sizeA ee;replace HP:=rpA HP ee;replace HF:=fA HF ee;replace HBr:=bA HBr ee;have HBt:=nB ee (w2.heap.size);clear ee
 have hsa3:w3.heap.size=w2.heap.size+1:=by omega
 clear hq1 hq2;clear hI;have qc:=kcR HP;have rc:=kc4 HBr;have tc:=kc5 HBt;have hI:=iq_0_0_0 q w w2 w3;have hZ:=iq_0_01 q w w2
 go_wp2_with (fail)
 refine wp_region_held_drew (S:=fun w'=>Far (fun b=>b=q∨b=w.heap.size) (w3) w') (by kernel_rfl) (Far.of (below_drew _)) (fun hS10=>?_);refine takeA 0 (v:=?_) rfl ?_ ?_;rotate_left;· intro w hSw;replace tc:=Far.c5z tc hSw;go_simp;try rfl
 (try simp only [pu]);refine takeA 1 (v:=?_) rfl ?_ ?_;rotate_left;· intro w hSw;replace tc:=Far.c5z tc hSw;go_simp;try rfl
 (try simp only [pu]);refine takeA 2 (v:=?_) rfl ?_ ?_;rotate_left;· intro w hSw;replace tc:=Far.c5z tc hSw;go_simp;try rfl
 (try simp only [pu]);clear qc rc tc;refine callA 3 rfl fun K hK=>?_;go_simp;refine (HL s.next deep z sz _ hd4 hr1 HP.out.drew).mono ?_;rintro e wx11 ⟨az,mz,cz,rfl,hf,hp,hm⟩;have hswx11:w3.heap.size≤wx11.heap.size:=hf.size;replace hf:FarQ q w3 wx11:=(FarQ.of (below_drew _)).trans hf;replace HBr:=qB HBr hf;replace HBt:=qB HBt hf;replace HF:=qF HF hf;replace HP:=zz hp;have HMz:Hid (Mem (Nw 0 w3.heap.size _) _ _ _):=zz hm;clear hp hm;go_simp;refine hK.out _ _ ((Far.mono hf (fun b e=>.inl e))) (fun hS11=>?_);clear hK K;refine takeA 4 (v:=?_) rfl ?_ ?_;rotate_left;· intros;go_simp;try rfl
 (try simp only [pu]);clear hI hZ;have qc:=kcR HP;have rc:=kc4 HBr;have tc:=kc5 HBt;have hI:=iq_0_0_0 q w w2 wx11;refine callA 5 rfl fun K hK=>?_;go_simp;refine hK.out _ _ ?_ (fun hS12=>?_);· exact (by (iterate 4 (refine Far.setCell (p:=⟨w.heap.size,_,none⟩) ?_ (.inr rfl) _));exact hS11)
 clear hK K;refine wpAnyH_done (by kernel_rfl) ?_ _;clear qc rc tc;generalize ee:World.setCell _ ⟨w.heap.size,3,none⟩ _=w4;have hsz4:=sizeS4 ee;replace HP:=rpO4 HP ee;replace HF:=fN4 HF ee;replace HBr:=bS4 HBr ee;replace HBt:=bF4 HBt ee;replace HMz:=mS4 HMz ee;clear ee;clear hI;have qc:=kcR HP;have rc:=kc4 HBr;have tc:=kc5 HBt;have hI:=iq_0_0_0 q w w2 w4;have hZ:=iq_0_0_0 q w w2 wx11
 go_wp2_with (fail)
 clear qc rc tc;have fc:=kc4 HBr;refine bodyPost_ret (v:=.agg #[.int .i64 2,.string (nowT ts s.i).s,.int .i64 0,.slice az mz cz]) (by clear HP HF HBr HBt HMz;simp [results,Tryz.results145,go_sem,fc]) rfl ?_;exact ⟨_,_,_,rfl,HF.out.out,HP.out,memNw HMz.out (by omega)⟩
theorem atomsM_reads (f:Nat) (HA:∀ g,g<f→ReadsAt ts aL n cap q g):ReadsAs ts aL n cap q f:=by
 intro s0 deep x s' w hd hr hp;have HP:=zz hp;have hq0:=hp.lt;have HF:=zz (FarB.refl q w.heap.size w);have hsm:=hp.sm;have hlen:=hp.len;clear hp;go_enter Tryz.func92,Tryz.ntmps92
 go_wp2_with (fail)
 go_loopw [3] (fun v wr=>∃ (l:List Tm) (s:MS) (g:Nat),typeM ts g (.atoms l) deep s=some (x,s')∧g≤f∧Hid (RS ts aL n cap q s (deep:Int) wr)∧Hid (FarB q w.heap.size w wr)∧Hid (OwnD 0 w.heap.size 83 4 wr v (Tm.rows l))∧(l.length:Int)+leftM ts s≤ts.length∧w.heap.size≤wr.heap.size) (fun v _=>ts.length+1 - lenV v)
 case atStart=>exact ⟨[],s0,f,hr,Nat.le_refl _,HP,HF,zz (OwnD.nil _ _ _ _ _),(by have :=leftM_le (ts:=ts) s0;simp only [List.length_nil];omega),Nat.le_refl _⟩
 case round=>
  clear HP HF hr;obtain ⟨l,s,g,hr,hg,HP,HF,HOl,hl1,hws⟩:=hrel;obtain ⟨a1,m1,c1,rfl,hm1,hm2,hm3⟩:=form2T HOl.out
  have hsm1:m1≤1048576:=by omega
  have HM1:=zz hm1;clear hm1 hm3;have qc:=kcR HP;have hI:=chain2 q wr.heap.size
  go_wp2_with (fail)
  clear qc;refine (mstarts_any _ HP.out).mono ?_;rintro _ w1 ⟨rfl,hb⟩;have hf:=FarQ.of (q:=q) hb;replace HOl:=qO HOl hf;replace HF:=qF HF hf;have hs1:=hf.size;replace HP:=krP HP hb;clear hf hb
  cases g with
  | zero=>rw [typeM] at hr;cases hr
  | succ g=>
   rw [typeM] at hr
   cases hst:startsS ts s with
   | false=>
    simp only [hst,Bool.false_eq_true,if_false] at hr;cases hr;clear hI;have qc:=kcR HP;have hI:=chain2 q w1.heap.size
    go_wp2_with (fail)
    clear qc;go_ret;exact ⟨_,_,_,rfl,HF.out.out,HP.out,memNw HOl.out.mem (by omega)⟩
   | true=>
    simp only [hst,if_true] at hr;obtain ⟨p,hr1,hr2⟩:=Option.bind_eq_some_iff.1 hr;obtain ⟨z,sz⟩:=p;have HST:=zz hst;clear hst hr;clear hI;have qc:=kcR HP;have hI:=chain2 q w1.heap.size
    go_wp2_with (fail)
    have HOW:=HOl;clear qc;refine (HA g (by omega) s deep z sz _ hd hr1 HP.out).mono ?_;rintro _ w2 ⟨az,mz,cz,rfl,hf,hp,hm⟩;replace HOl:=qO HOl hf;replace HF:=qF HF hf;have hs2:=hf.size;replace HP:=zz hp;have HMz:=zz hm;clear hf hp hm;simp only [tmV];clear hI;have qc:=kcR HP;have hI:=chain2 q w2.heap.size
    have hlz:l.length+1≤1048576:=by
     have h1:=leftM_step (ts:=ts) (typeM_step _ _ _ _ _ _ hr1)
     have hok:s.ok=true:=by have h:=HST.out;unfold startsS at h;rw [Bool.and_eq_true] at h;exact h.1
     have hlt:s.i<ts.length:=starts_ltM HST.out;rw [leftM_ok hok] at hl1 h1;simp only [wMt] at h1
     omega
    go_wp2_with (first | (at_builtin;refine wpList_append_D rfl _ _ rfl Tryz.underlying73 info_tyM rfl (by decide) rfl rfl (HOl.out.alloc _) (row_app HOW.out (by omega) (by omega) (tm_mem HMz.out) rfl) (by have :=HM1.out;simp only [rows_len4,List.length_cons,List.length_nil];omega) (by have :=HM1.out;simp only [rows_len4,List.length_cons,List.length_nil];omega) (by rw [World.size_alloc];omega) ?_;intro v9 w9 ho hgr;have HO9:=zz ho;clear ho;have HG9:=zz hgr;clear hgr))
    have hob:∀ k,(Value.slice a1 m1 c1).ownBlock=some k→w.heap.size≤k:=fun k hk=>(HOl.out.lt k hk).1
    clear qc;have HO8:Hid (OwnD 0 w.heap.size 83 4 w9 v9 (Tm.rows (l++[z]))):=zz (by rw [rows_app4];exact HO9.out);obtain ⟨a2,m2,c2,rfl,hm4,_,_⟩:=form2T HO8.out;rw [List.length_append,List.length_cons,List.length_nil] at hm4
    have hs9:w2.heap.size+1≤w9.heap.size:=by have h:=HG9.out.size;rw [World.size_alloc] at h;exact h
    have hl9:((l++[z]).length:Int)+leftM ts sz≤ts.length:=by
     have h1:=leftM_step (ts:=ts) (typeM_step _ _ _ _ _ _ hr1)
     have hok:s.ok=true:=by have h:=HST.out;unfold startsS at h;rw [Bool.and_eq_true] at h;exact h.1
     have hlt:s.i<ts.length:=starts_ltM HST.out;rw [leftM_ok hok] at hl1 h1;simp only [wMt] at h1;rw [List.length_append,List.length_cons,List.length_nil]
     omega
    go_roundw
    case rel=>exact ⟨l++[z],sz,g,hr2,by omega,zz ((HP.out.alloc _).grown HG9.out fun k hk=>by have :=hob k hk;omega),zz ((HF.out.alloc _).grown HG9.out fun k hk=>by have :=hob k hk;omega),HO8,hl9,by omega⟩
    case measure=>have :=HM1.out;simp only [lenV];omega
end
theorem allT (ts:List Tk) (aL:Option Addr) (n cap q:Nat):∀ F g,g≤F→ReadsAt ts aL n cap q g∧ReadsTy ts aL n cap q g∧ReadsAs ts aL n cap q g
  | 0, g, h => by
    obtain rfl:g=0:=by omega
    exact ⟨fun s deep x s' w _ hr=>(by rw [typeM] at hr;cases hr),fun s deep x s' w _ hr=>(by rw [typeM] at hr;cases hr),fun s deep x s' w _ hr=>(by rw [typeM] at hr;cases hr)⟩
  | F + 1, g, h => by
    by_cases e:g=F+1
    · subst e
      have ih:=allT ts aL n cap q F;exact ⟨atomM_reads (ih F (Nat.le_refl _)).2.1,typM_reads (ih F (Nat.le_refl _)).1 (ih F (Nat.le_refl _)).2.2,atomsM_reads (F+1) fun g hg=>(ih g (by omega)).1⟩
    · exact allT ts aL n cap q F g (by omega)
end
section
open Go.RowKit
def CAns (ts:List Tk) (aL:Option Addr) (n cap q:Nat) (x:Cn) (s':MS) (W:World) (e:Ending) (w':World):Prop:=
 ∃ a m c,e=.returned (cnV x a m c)∧FarQ q W w'∧RS ts aL n cap q s' ((0:Nat):Int) w'∧Mem (Nw 0 W.heap.size w'.heap.size) w' (.s 4 (Tm.rows x.types)) (.slice a m c)
section
variable {ts:List Tk} {aL:Option Addr} {n cap q:Nat}
attribute [local go_sem] tk_pos
theorem con_any {f:Nat} {s s':MS} {x:Cn} (w:World) (hr:conM ts f s=some (x,s')) (hp:RS ts aL n cap q s ((0:Nat):Int) w):Calls Tryz.prog 56 #[.pointer (some ⟨q,0,none⟩)] w (CAns ts aL n cap q x s' w):=by
 have HL:=(allT ts aL n cap q f f (Nat.le_refl _)).2.2;have HP:=zz hp;have hq0:=hp.lt;have HF:=zz (FarB.refl q w.heap.size w);clear hp;unfold conM at hr;obtain ⟨p,hr1,hr2⟩:=Option.map_eq_some_iff.1 hr;cases hr2;obtain ⟨z,sz⟩:=p;go_enter Tryz.func56,Tryz.ntmps56;go_upto_region 1 with (fail);generalize ee:World.alloc w _=w1;have hsa1:=sizeA ee;replace HP:=rpA HP ee;replace HF:=fA HF ee;have HBr:=nB ee (w.heap.size);clear ee;have qc:=kcR HP;have rc:=kc4 HBr;have hI:=iq_0_0 q w w1;have hZ:=iq_01 q w
 go_wp2_with (fail)
 clear qc rc;refine (mnow_any _ HP.out.bo HP.out.mem).mono ?_;rintro _ w2 ⟨rfl,hb⟩;have hf:=FarQ.of (q:=q) hb;replace HBr:=qB HBr hf;replace HF:=qF HF hf;have hs2:=hf.size;replace HP:=krP HP hb;clear hf hb;simp only [tkV];clear hI hZ;have qc:=kcR HP;have rc:=kc4 HBr;have hI:=iq_0_0 q w w2;go_upto_region 2 with (fail);clear qc rc;generalize ee:World.alloc w2 _=w3;have hsa3:=sizeA ee;replace HP:=rpA HP ee;replace HF:=fA HF ee;replace HBr:=bA HBr ee;have HBp:=nB ee (w2.heap.size);clear ee;clear hI;have qc:=kcR HP;have rc:=kc4 HBr;have pc:=kc2 HBp;have hI:=iq_0_0_0 q w w2 w3;have hZ:=iq_0_01 q w w2;refine wp_region_held_drew (S:=fun w'=>Far (fun b=>b=q∨b=w.heap.size) (w3) w') (by kernel_rfl) (Far.of (below_drew _)) (fun hS10=>?_);refine takeA 0 (v:=?_) rfl ?_ ?_;rotate_left;· intro w hSw;replace pc:=Far.c2z pc hSw;go_simp;try rfl
 (try simp only [pu]);refine takeA 2 (v:=?_) rfl ?_ ?_;rotate_left;· intro w hSw;replace pc:=Far.c2z pc hSw;go_simp;try rfl
 (try simp only [pu]);refine takeA 4 (v:=?_) rfl ?_ ?_;rotate_left;· intro w hSw;replace pc:=Far.c2z pc hSw;go_simp;try rfl
 (try simp only [pu]);clear qc rc pc;refine callA 1 rfl fun K hK=>?_;go_simp;refine (mname_any 3 _ HP.out.drew (by decide)).mono ?_;rintro e wx11 ⟨rfl,hf,hp⟩;have hswx11:w3.heap.size≤wx11.heap.size:=hf.size;replace hf:FarQ q w3 wx11:=(FarQ.of (below_drew _)).trans hf;replace HBr:=qB HBr hf;replace HBp:=qB HBp hf;replace HF:=qF HF hf;replace HP:=zz hp;clear hp;go_simp;refine hK.out _ _ ((Far.mono hf (fun b e=>.inl e))) (fun hS11=>?_);clear hK K;refine callA 3 rfl fun K hK=>?_;go_simp;refine (HL (nameS ts s 3).2 0 z sz _ (by decide) hr1 HP.out).mono ?_;rintro e wx12 ⟨az,mz,cz,rfl,hf,hp,hm⟩;have hswx12:wx11.heap.size≤wx12.heap.size:=hf.size;replace HBr:=qB HBr hf;replace HBp:=qB HBp hf;replace HF:=qF HF hf;replace HP:=zz hp;have HMz:Hid (Mem (Nw 0 wx11.heap.size _) _ _ _):=zz hm;clear hm;clear hp;go_simp;refine hK.out _ _ (Far.trans hS11 (Far.mono hf (fun b e=>.inl e))) (fun hS12=>?_);clear hK K;refine takeA 5 (v:=?_) rfl ?_ ?_;rotate_left;· intros;go_simp;try rfl
 (try simp only [pu]);have qc:=kcR HP;have rc:=kc4 HBr;have pc:=kc2 HBp;have hI:=iq_0_0_0 q w w2 wx12;refine callA 6 rfl fun K hK=>?_;go_simp;refine hK.out _ _ ?_ (fun hS13=>?_);· exact (by (iterate 4 (refine Far.setCell (p:=⟨w.heap.size,_,none⟩) ?_ (.inr rfl) _));exact hS12)
 clear hK K;refine wpAnyH_done (by kernel_rfl) ?_ _;clear qc rc pc;generalize ee:World.setCell _ ⟨w.heap.size,3,none⟩ _=w4;have hsz4:=sizeS4 ee;replace HP:=rpO4 HP ee;replace HF:=fN4 HF ee;replace HBr:=bS4 HBr ee;replace HBp:=bF4 HBp ee;replace HMz:=mS4 HMz ee;clear ee;clear hI;have qc:=kcR HP;have rc:=kc4 HBr;have pc:=kc2 HBp;have hI:=iq_0_0_0 q w w2 w4;have hZ:=iq_0_0_0 q w w2 wx12
 go_wp2_with (fail)
 clear qc rc pc;have fc:=kc4 HBr;refine bodyPost_ret (v:=.agg #[.string (nameS ts s 3).1,.slice az mz cz,.int .i64 (nowT ts s.i).l,.int .i64 (nowT ts s.i).c]) (by clear HP HF HBr HBp HMz;simp [results,Tryz.results56,go_sem,fc]) rfl ?_;exact ⟨_,_,_,rfl,HF.out.out,HP.out,memNw HMz.out (by omega)⟩
end
end
section
open Go.RowKit
theorem info_strM:(Tryz.prog.info? 9).map (fun i=>(i.zero,i.size,i.bytes))=some (some (.string ⟨#[]⟩),1,16):=by kernel_rfl
theorem info_conM:(Tryz.prog.info? 75).map (fun i=>(i.zero,i.size,i.bytes))=some (some (.agg #[.string ⟨#[]⟩,.slice none 0 0,.int .i64 0,.int .i64 0]),4,56):=by kernel_rfl
theorem qYB {q a b:Nat} {x:At} {y:Value} {w w':World} (h:Hid (Mem (NwS (Bt a b) w.heap.size) w x y)) (hf:FarQ q w w') (hq:q<a:=by omega):Hid (Mem (NwS (Bt a b) w'.heap.size) w' x y):=
  zz (memS_far h.out hf fun b hb e=>by have :b=q:=e;unfold Bt at hb;omega)
theorem ownD_new {w w':World} {base b sz:Nat} {t:TypeId} {r:List At} {cs:Array Value} (e:w.alloc (.cells cs t)=w') (hr:All2 (Mem (Nw 0 base w.heap.size) w) r cs.toList) (hs:cs.toList.length=sz) (hb:base≤w.heap.size) (hk:w.heap.size=b):Hid (OwnD 0 base t sz w' (.slice (some ⟨b,0,none⟩) 1 1) [r]):=zz (e ▸ hk ▸ row_new hr hs hb)
def posM (L q:Nat) (w:World):Nat:=
  match w.cell? ⟨q,3,none⟩,w.cell? ⟨q,1,none⟩ with
  | some (.int _ e),some (.int _ i)=>if e=0 then (L - i.toNat)+2 else 0
  | _,_=>0
section
variable {ts:List Tk} {aL:Option Addr} {n cap q:Nat}
theorem posM_eq {s:MS} {d:Int} {w:World} (h:RS ts aL n cap q s d w) (L:Nat):posM L q w=if s.ok=true then (L - s.i)+2 else 0:=by
  have c:=kcR (zz h);unfold posM;rw [c.2.1,c.2.2.2.1];simp only;have e:=ok_eB s
  cases hok:s.ok with
  | true=>rw [hok] at e;rw [if_pos (by simpa using e),if_pos rfl];simp
  | false=>rw [hok] at e;rw [if_neg (by simpa using e)];rfl
theorem posM_step {s s':MS} {d d':Int} {w w':World} (h:RS ts aL n cap q s d w) (h':RS ts aL n cap q s' d' w') (L:Nat) (hs:Step 1 s s') (hok:s.ok=true) (hl:s'.ok=true→s.i<L):posM L q w'<posM L q w:=by
  rw [posM_eq h,posM_eq h',if_pos hok]
  split
  · rename_i h2
    have h3:=(hs.fwd h2).2;have h4:=hl h2
    omega
  · omega
def DAns (ts:List Tk) (aL:Option Addr) (n cap q:Nat) (x:Da) (s':MS) (W:World) (e:Ending) (w':World):Prop:=
  ∃ a m c a' m' c',e=.returned (daV x a m c a' m' c')∧FarQ q W w'∧RS ts aL n cap q s' ((0:Nat):Int) w'∧Mem (Nw 0 W.heap.size w'.heap.size) w' (.s 1 (x.vars.map strRow)) (.slice a m c)∧Mem (Nw 0 W.heap.size w'.heap.size) w' (.s 4 (x.cons.map Cn.row)) (.slice a' m' c')
theorem tk_kindM (k n l c:Int) (s:ByteArray) (w:World):Sem.run Tryz.prog (Instr.field 53 (.agg #[.int .i64 k,.string s,.int .i64 n,.int .i64 l,.int .i64 c]) 0) w=.ok (.int .i64 k) w:=by kernel_rfl
attribute [local go_sem] tk_pos tk_kindM
theorem data_any {f:Nat} {s s':MS} {x:Da} (w:World) (hr:dataM ts f s=some (x,s')) (hp:RS ts aL n cap q s ((0:Nat):Int) w):Calls Tryz.prog 22 #[.pointer (some ⟨q,0,none⟩)] w (DAns ts aL n cap q x s' w):=by
 have HP:=zz hp;have hq0:=hp.lt;have HF:=zz (FarB.refl q w.heap.size w);have hsm:=hp.sm;have hlen:=hp.len;clear hp;unfold dataM at hr;obtain ⟨V,hr1,hr⟩:=Option.bind_eq_some_iff.1 hr;obtain ⟨C,hr2,hr⟩:=Option.bind_eq_some_iff.1 hr;obtain ⟨E,hr3,hr4⟩:=Option.map_eq_some_iff.1 hr;cases hr4;obtain ⟨vs,sv⟩:=V;obtain ⟨cn,sc⟩:=C;obtain ⟨cs,se⟩:=E;have H3:=zz hr3;have H2:=zz hr2;clear hr hr3 hr2;go_enter Tryz.func22,Tryz.ntmps22;go_upto_region 1 with (fail);generalize ee:World.alloc w _=w1;have hsa1:=sizeA ee;replace HP:=rpA HP ee;replace HF:=fA HF ee;have HBr:=nB ee (w.heap.size);clear ee;have qc:=kcR HP;have rc:=kc5 HBr;have hI:=iq_0_0 q w w1;have hZ:=iq_01 q w
 go_wp2_with (fail)
 clear qc rc;refine (mnow_any _ HP.out.bo HP.out.mem).mono ?_;rintro _ w2 ⟨rfl,hb⟩;have hf:=FarQ.of (q:=q) hb;replace HBr:=qB HBr hf;replace HF:=qF HF hf;have hs2:=hf.size;replace HP:=krP HP hb;clear hf hb;simp only [tkV];clear hI hZ;have qc:=kcR HP;have rc:=kc5 HBr;have hI:=iq_0_0 q w w2;go_upto_region 2 with (fail);clear qc rc;generalize ee:World.alloc w2 _=w3;have hsa3:=sizeA ee;replace HP:=rpA HP ee;replace HF:=fA HF ee;replace HBr:=bA HBr ee;have HBd:=nB ee (w2.heap.size);clear ee;clear hI;have qc:=kcR HP;have rc:=kc5 HBr;have dc:=kc5 HBd;have hI:=iq_0_0_0 q w w2 w3;have hZ:=iq_0_01 q w w2
 go_wp2_with (fail)
 clear qc rc dc;refine (mtake_any 5 wData _ HP.out (by decide)).mono ?_;rintro _ w4 ⟨rfl,hf,hp⟩;replace HBr:=qB HBr hf;replace HBd:=qB HBd hf;replace HF:=qF HF hf;have hs4:=hf.size;replace HP:=zz hp;clear hf hp;clear hI hZ;have qc:=kcR HP;have rc:=kc5 HBr;have dc:=kc5 HBd;have hI:=iq_0_0_0 q w w2 w4
 go_wp2_with (fail)
 clear qc rc dc;refine (mname_any 3 _ HP.out (by decide)).mono ?_;rintro _ w5 ⟨rfl,hf,hp⟩;replace HBr:=qB HBr hf;replace HBd:=qB HBd hf;replace HF:=qF HF hf;have hs5:=hf.size;replace HP:=zz hp;clear hf hp;clear hI;have qc:=kcR HP;have rc:=kc5 HBr;have dc:=kc5 HBd;have hI:=iq_0_0_0 q w w2 w5
 go_wp2_with (fail)
 clear qc rc dc;generalize ee:World.setCell w5 _ _=w6;have hsz6:=sizeS1 ee;replace HP:=rpO1 HP ee;replace HF:=fN1 HF ee;replace HBr:=bF1 HBr ee;replace HBd:Hid (Bo w6 w2.heap.size 40 #[.string (nameS ts (takeS ts s 5 wData) 3).1,.slice none 0 0,.slice none 0 0,.int .i64 (nowT ts s.i).l,.int .i64 (nowT ts s.i).c]):=zz (by rw [←ee];exact HBd.out.set 0 (.string (nameS ts (takeS ts s 5 wData) 3).1));clear ee;clear hI
 have hb0:w.heap.size<w6.heap.size∧w2.heap.size<w6.heap.size:=by constructor <;> omega
 generalize hB0:w6.heap.size=B0 at *
 go_loopw [] (fun wr=>∃ (us:List ByteArray) (st:MS) (gg:Nat) (a1:Option Addr) (m1 c1:Nat),varsM ts gg us st=some (vs,sv)∧Hid (RS ts aL n cap q st ((0:Nat):Int) wr)∧Hid (FarB q w.heap.size w wr)∧Hid (Bo wr w.heap.size 40 #[.string ⟨#[]⟩,.slice none 0 0,.slice none 0 0,.int .i64 0,.int .i64 0])∧Hid (Bo wr w2.heap.size 40 #[.string (nameS ts (takeS ts s 5 wData) 3).1,.slice a1 m1 c1,.slice none 0 0,.int .i64 (nowT ts s.i).l,.int .i64 (nowT ts s.i).c])∧Hid (OwnD 0 B0 9 1 wr (.slice a1 m1 c1) (us.map strRow))∧us.length+leftM ts st≤ts.length∧B0≤wr.heap.size) (fun wr=>posM ts.length q wr)
 case atStart=>exact ⟨[],_,f,none,0,0,hr1,HP,HF,HBr,HBd,zz (OwnD.nil _ _ _ _ _),(by have :=leftM_le (ts:=ts) (nameS ts (takeS ts s 5 wData) 3).2;simp only [List.length_nil];omega),by omega⟩
 case round=>
  clear HP HF HBr HBd hr1;obtain ⟨us,st,gg,a1,m1,c1,hr1,HP,HF,HBr,HBd,HOv,hl1,hws⟩:=hrel;have HP1:=HP;have qc:=kcR HP;have rc:=kc5 HBr;have dc:=kc5 HBd;have hI:=iq_0_0_0 q w w2 wr
  go_wp2_with (fail)
  refine (mok_any _ HP.out).mono ?_;rintro _ _ ⟨rfl,rfl⟩
  cases gg with
  | zero=>rw [varsM] at hr1;cases hr1
  | succ gg=>
   rw [varsM] at hr1
   by_cases hc:(st.ok && decide ((nowT ts st.i).k=2))=true
   ·
    rw [if_pos hc] at hr1
    have hok:st.ok=true:=by rw [Bool.and_eq_true] at hc;exact hc.1
    have hk2:(nowT ts st.i).k=2:=by rw [Bool.and_eq_true,decide_eq_true_eq] at hc;exact hc.2
    have hlt:st.i<ts.length:=now_lt (by rw [hk2];decide);rw [hok];have HOK:=zz hok;clear hok hc
    go_wp2_with (fail)
    clear qc rc dc;refine (mnow_any _ HP.out.bo HP.out.mem).mono ?_;rintro _ w7 ⟨rfl,hb⟩;have hf:=FarQ.of (q:=q) hb;replace HBr:=qB HBr hf;replace HBd:=qB HBd hf;replace HOv:=qO HOv hf;replace HF:=qF HF hf;have hs7:=hf.size;replace HP:=krP HP hb;clear hf hb;simp only [tkV]
    have e2:((nowT ts st.i).k==2)=true:=by simp [hk2]
    have HK:=zz hk2;clear hk2;clear hI;have qc:=kcR HP;have rc:=kc5 HBr;have dc:=kc5 HBd;have hI:=iq_0_0_0 q w w2 w7;go_upto_region 5 with (fail)
    have hnm:nameS ts st 2=((nowT ts st.i).s,st.next):=by unfold nameS;rw [if_pos HK.out]
    have hlz:us.length+1≤1048576:=by rw [leftM_ok HOK.out] at hl1;omega
    clear qc rc dc;clear hI;have qc:=kcR HP;have rc:=kc5 HBr;have dc:=kc5 HBd;have hI:=iq_0_0_0 q w w2 w7;refine wp_region_held_drew (S:=fun w'=>Far (fun b=>b=q∨b=w2.heap.size∨(Value.slice a1 m1 c1).ownBlock=some b) (w7) w') (by kernel_rfl) (Far.of (below_drew _)) (fun hS10=>?_);refine takeA 0 (v:=?_) rfl ?_ ?_;rotate_left;· intros;go_simp;try rfl
    (try simp only [pu]);refine takeA 2 (v:=?_) rfl ?_ ?_;rotate_left;· intros;go_simp;try rfl
    (try simp only [pu]);refine twoL 1 3 rfl rfl (by kernel_rfl) (by rfl) (by rfl) (fun K hK=>?_) (fun K hK=>?_)
    ·
     go_simp;refine hK.out _ _ (hS10) (fun hS11=>?_);clear hK K;refine callA 3 rfl fun K hK=>?_;clear qc rc dc;have HOW:Hid (OwnD 0 (B0) 9 1 w7 (.slice a1 m1 c1) (us.map strRow)):=HOv;go_simp;refine (mname_any 2 _ HP.out.drew (by decide)).mono ?_;rintro e wx12 ⟨rfl,hf,hp⟩;replace hf:FarQ q w7 wx12:=(FarQ.of (below_drew _)).trans hf;have hswx12:w7.heap.size≤wx12.heap.size:=hf.size;replace HBr:=qB HBr hf;replace HBd:=qB HBd hf;replace HOv:=qO HOv hf;replace HF:=qF HF hf;replace HP:=zz hp;rw [hnm];rw [hnm] at HP;go_simp;refine hK.out _ _ (Far.mono hf (fun b e=>.inl e)) (fun hS12=>?_);clear hK K hp hf;refine callA 4 rfl fun K hK=>?_;go_simp;refine hK.out _ _ (Far.trans hS12 (Far.of (below_new _ _))) (fun hS13=>?_);clear hK K;refine callA 5 rfl fun K hK=>?_;refine wp_append_D2 _ _ (by rfl) Tryz.underlying37 info_strM rfl (by decide) (by rfl) (by rfl) (HOv.out.alloc _) (row_app HOW.out (by omega) (by omega) (str_mem) rfl) (by simp only [List.length_map,List.length_cons,List.length_nil];omega) (by simp only [List.length_map,List.length_cons,List.length_nil];omega) (by rw [World.size_alloc];omega) (fun v9 w9 ho hg=>?_);obtain ⟨a9,m9,c9,rfl⟩:=mem_slice ho.mem;refine hK.out _ _ (Far.trans hS13 ((grownFar hg).mono (fun b e=>.inr (.inr e)))) (fun hS14=>?_);clear hK K
     have hs9:wx12.heap.size+1≤w9.heap.size:=by have h:=hg.size;rw [World.size_alloc] at h;exact h
     have hob:∀ k,(Value.slice a1 m1 c1).ownBlock=some k→B0≤k:=fun k hk=>(HOv.out.lt k hk).1
     replace HP:=zz ((HP.out.alloc _).grown hg fun k hk=>by have :=hob k hk;omega)
     replace HF:=zz ((HF.out.alloc _).grown hg fun k hk=>by have :=hob k hk;omega)
     replace HBr:=zz ((HBr.out.alloc _).grown hg fun k hk=>by have :=hob k hk;omega)
     replace HBd:=zz ((HBd.out.alloc _).grown hg fun k hk=>by have :=hob k hk;omega)
     have HOv9:Hid (OwnD 0 (B0) 9 1 w9 (.slice a9 m9 c9) ((us++[(nowT ts st.i).s]).map strRow)):=zz (by rw [List.map_append];exact ho);clear ho hg hob HOW HOv;refine takeA 6 (v:=?_) rfl ?_ ?_;rotate_left;· intros;go_simp;try rfl
     (try simp only [pu]);refine callA 7 rfl fun K hK=>?_;have qc:=kcR HP;have rc:=kc5 HBr;have dc:=kc5 HBd;have hI:=iq_0_0_0 q w w2 w9;go_simp;refine hK.out _ _ (Far.setCell hS14 (.inr (.inl rfl)) _) (fun hS15=>?_);clear hK K;refine wpAnyH_done (by kernel_rfl) ?_ _;clear qc rc dc;generalize ee:World.setCell w9 _ _=w8;have hsz8:=sizeS1 ee;replace HP:=rpO1 HP ee;replace HF:=fN1 HF ee;replace HBr:=bF1 HBr ee;replace HBd:Hid (Bo w8 w2.heap.size 40 #[.string (nameS ts (takeS ts s 5 wData) 3).1,.slice a9 m9 c9,.slice none 0 0,.int .i64 (nowT ts s.i).l,.int .i64 (nowT ts s.i).c]):=zz (by rw [←ee];exact HBd.out.set 1 (.slice a9 m9 c9));replace HOv9:=oS1 HOv9 ee;clear ee;clear hI;have qc:=kcR HP;have rc:=kc5 HBr;have dc:=kc5 HBd;have hI:=iq_0_0_0 q w w2 w8;have hZ:=iq_0_0_0 q w w2 w9
     go_wp2_with (fail)
     clear qc rc dc
     go_roundw
     case rel=>exact ⟨us++[(nowT ts st.i).s],st.next,gg,a9,m9,c9,hr1,HP,HF,HBr,HBd,HOv9,(by rw [leftM_ok HOK.out] at hl1;have h1:=leftM_step (ts:=ts) (step_next st);rw [leftM_ok HOK.out] at h1;rw [List.length_append,List.length_cons,List.length_nil];omega),by omega⟩
     case measure=>exact posM_step HP1.out HP.out _ (step_next st) HOK.out fun _=>hlt
    ·
     clear qc rc dc;have HOW:Hid (OwnD 0 (B0) 9 1 w7 (.slice a1 m1 c1) (us.map strRow)):=HOv;go_simp;refine (mname_any 2 _ HP.out.drew (by decide)).mono ?_;rintro e wx11 ⟨rfl,hf,hp⟩;replace hf:FarQ q w7 wx11:=(FarQ.of (below_drew _)).trans hf;have hswx11:w7.heap.size≤wx11.heap.size:=hf.size;replace HBr:=qB HBr hf;replace HBd:=qB HBd hf;replace HOv:=qO HOv hf;replace HF:=qF HF hf;replace HP:=zz hp;rw [hnm];rw [hnm] at HP;go_simp;refine hK.out _ _ (Far.mono hf (fun b e=>.inl e)) (fun hS11=>?_);clear hK K hp hf;refine twoL 1 4 rfl rfl (by kernel_rfl) (by rfl) (by rfl) (fun K hK=>?_) (fun K hK=>?_)
     ·
      have qc:=kcR HP;have rc:=kc5 HBr;have dc:=kc5 HBd;have hI:=iq_0_0_0 q w w2 wx11;go_simp;refine hK.out _ _ (hS11) (fun hS12=>?_);clear hK K;clear qc rc dc;refine callA 4 rfl fun K hK=>?_;go_simp;refine hK.out _ _ (Far.trans hS12 (Far.of (below_new _ _))) (fun hS13=>?_);clear hK K;refine callA 5 rfl fun K hK=>?_;refine wp_append_D2 _ _ (by rfl) Tryz.underlying37 info_strM rfl (by decide) (by rfl) (by rfl) (HOv.out.alloc _) (row_app HOW.out (by omega) (by omega) (str_mem) rfl) (by simp only [List.length_map,List.length_cons,List.length_nil];omega) (by simp only [List.length_map,List.length_cons,List.length_nil];omega) (by rw [World.size_alloc];omega) (fun v9 w9 ho hg=>?_);obtain ⟨a9,m9,c9,rfl⟩:=mem_slice ho.mem;refine hK.out _ _ (Far.trans hS13 ((grownFar hg).mono (fun b e=>.inr (.inr e)))) (fun hS14=>?_);clear hK K
      have hs9:wx11.heap.size+1≤w9.heap.size:=by have h:=hg.size;rw [World.size_alloc] at h;exact h
      have hob:∀ k,(Value.slice a1 m1 c1).ownBlock=some k→B0≤k:=fun k hk=>(HOv.out.lt k hk).1
      replace HP:=zz ((HP.out.alloc _).grown hg fun k hk=>by have :=hob k hk;omega)
      replace HF:=zz ((HF.out.alloc _).grown hg fun k hk=>by have :=hob k hk;omega)
      replace HBr:=zz ((HBr.out.alloc _).grown hg fun k hk=>by have :=hob k hk;omega)
      replace HBd:=zz ((HBd.out.alloc _).grown hg fun k hk=>by have :=hob k hk;omega)
      have HOv9:Hid (OwnD 0 (B0) 9 1 w9 (.slice a9 m9 c9) ((us++[(nowT ts st.i).s]).map strRow)):=zz (by rw [List.map_append];exact ho);clear ho hg hob HOW HOv;refine takeA 6 (v:=?_) rfl ?_ ?_;rotate_left;· intros;go_simp;try rfl
      (try simp only [pu]);refine callA 7 rfl fun K hK=>?_;have qc:=kcR HP;have rc:=kc5 HBr;have dc:=kc5 HBd;have hI:=iq_0_0_0 q w w2 w9;go_simp;refine hK.out _ _ (Far.setCell hS14 (.inr (.inl rfl)) _) (fun hS15=>?_);clear hK K;refine wpAnyH_done (by kernel_rfl) ?_ _;clear qc rc dc;generalize ee:World.setCell w9 _ _=w8;have hsz8:=sizeS1 ee;replace HP:=rpO1 HP ee;replace HF:=fN1 HF ee;replace HBr:=bF1 HBr ee;replace HBd:Hid (Bo w8 w2.heap.size 40 #[.string (nameS ts (takeS ts s 5 wData) 3).1,.slice a9 m9 c9,.slice none 0 0,.int .i64 (nowT ts s.i).l,.int .i64 (nowT ts s.i).c]):=zz (by rw [←ee];exact HBd.out.set 1 (.slice a9 m9 c9));replace HOv9:=oS1 HOv9 ee;clear ee;clear hI;have qc:=kcR HP;have rc:=kc5 HBr;have dc:=kc5 HBd;have hI:=iq_0_0_0 q w w2 w8;have hZ:=iq_0_0_0 q w w2 w9
      go_wp2_with (fail)
      clear qc rc dc
      go_roundw
      case rel=>exact ⟨us++[(nowT ts st.i).s],st.next,gg,a9,m9,c9,hr1,HP,HF,HBr,HBd,HOv9,(by rw [leftM_ok HOK.out] at hl1;have h1:=leftM_step (ts:=ts) (step_next st);rw [leftM_ok HOK.out] at h1;rw [List.length_append,List.length_cons,List.length_nil];omega),by omega⟩
      case measure=>exact posM_step HP1.out HP.out _ (step_next st) HOK.out fun _=>hlt
     ·
      go_simp;refine hK.out _ _ (Far.trans hS11 (Far.of (below_new _ _))) (fun hS12=>?_);clear hK K;have qc:=kcR HP;have rc:=kc5 HBr;have dc:=kc5 HBd;have hI:=iq_0_0_0 q w w2 wx11;refine callA 1 rfl fun K hK=>?_;go_simp;refine hK.out _ _ (hS12) (fun hS13=>?_);clear hK K;clear qc rc dc;refine callA 5 rfl fun K hK=>?_;refine wp_append_D2 _ _ (by rfl) Tryz.underlying37 info_strM rfl (by decide) (by rfl) (by rfl) (HOv.out.alloc _) (row_app HOW.out (by omega) (by omega) (str_mem) rfl) (by simp only [List.length_map,List.length_cons,List.length_nil];omega) (by simp only [List.length_map,List.length_cons,List.length_nil];omega) (by rw [World.size_alloc];omega) (fun v9 w9 ho hg=>?_);obtain ⟨a9,m9,c9,rfl⟩:=mem_slice ho.mem;refine hK.out _ _ (Far.trans hS13 ((grownFar hg).mono (fun b e=>.inr (.inr e)))) (fun hS14=>?_);clear hK K
      have hs9:wx11.heap.size+1≤w9.heap.size:=by have h:=hg.size;rw [World.size_alloc] at h;exact h
      have hob:∀ k,(Value.slice a1 m1 c1).ownBlock=some k→B0≤k:=fun k hk=>(HOv.out.lt k hk).1
      replace HP:=zz ((HP.out.alloc _).grown hg fun k hk=>by have :=hob k hk;omega)
      replace HF:=zz ((HF.out.alloc _).grown hg fun k hk=>by have :=hob k hk;omega)
      replace HBr:=zz ((HBr.out.alloc _).grown hg fun k hk=>by have :=hob k hk;omega)
      replace HBd:=zz ((HBd.out.alloc _).grown hg fun k hk=>by have :=hob k hk;omega)
      have HOv9:Hid (OwnD 0 (B0) 9 1 w9 (.slice a9 m9 c9) ((us++[(nowT ts st.i).s]).map strRow)):=zz (by rw [List.map_append];exact ho);clear ho hg hob HOW HOv;refine takeA 6 (v:=?_) rfl ?_ ?_;rotate_left;· intros;go_simp;try rfl
      (try simp only [pu]);refine callA 7 rfl fun K hK=>?_;have qc:=kcR HP;have rc:=kc5 HBr;have dc:=kc5 HBd;have hI:=iq_0_0_0 q w w2 w9;go_simp;refine hK.out _ _ (Far.setCell hS14 (.inr (.inl rfl)) _) (fun hS15=>?_);clear hK K;refine wpAnyH_done (by kernel_rfl) ?_ _;clear qc rc dc;generalize ee:World.setCell w9 _ _=w8;have hsz8:=sizeS1 ee;replace HP:=rpO1 HP ee;replace HF:=fN1 HF ee;replace HBr:=bF1 HBr ee;replace HBd:Hid (Bo w8 w2.heap.size 40 #[.string (nameS ts (takeS ts s 5 wData) 3).1,.slice a9 m9 c9,.slice none 0 0,.int .i64 (nowT ts s.i).l,.int .i64 (nowT ts s.i).c]):=zz (by rw [←ee];exact HBd.out.set 1 (.slice a9 m9 c9));replace HOv9:=oS1 HOv9 ee;clear ee;clear hI;have qc:=kcR HP;have rc:=kc5 HBr;have dc:=kc5 HBd;have hI:=iq_0_0_0 q w w2 w8;have hZ:=iq_0_0_0 q w w2 w9
      go_wp2_with (fail)
      clear qc rc dc
      go_roundw
      case rel=>exact ⟨us++[(nowT ts st.i).s],st.next,gg,a9,m9,c9,hr1,HP,HF,HBr,HBd,HOv9,(by rw [leftM_ok HOK.out] at hl1;have h1:=leftM_step (ts:=ts) (step_next st);rw [leftM_ok HOK.out] at h1;rw [List.length_append,List.length_cons,List.length_nil];omega),by omega⟩
      case measure=>exact posM_step HP1.out HP.out _ (step_next st) HOK.out fun _=>hlt
   ·
    rw [if_neg hc] at hr1
    cases hok:st.ok with
    | false=>
     go_wp2_with (fail)
     cases hr1;obtain ⟨T0,hT0⟩:∃ k,k=wr.heap.size:=⟨_,rfl⟩;have HYv:Hid (Mem (NwS (Bt B0 T0) wr.heap.size) wr (.s 1 (vs.map strRow)) (.slice a1 m1 c1)):=zz (by rw [hT0];exact memS_bt HOv.out.mem (by omega));clear HOv;clear qc rc dc;clear hI;have qc:=kcR HP;have rc:=kc5 HBr;have dc:=kc5 HBd;have hI:=iq_0_0_0 q w w2 wr
     go_wp2_with (fail)
     clear qc rc dc;refine (mtake_any 6 wEq _ HP.out (by decide)).mono ?_;rintro _ w7 ⟨rfl,hf,hp⟩;replace HYv:=qYB HYv hf;replace HBr:=qB HBr hf;replace HBd:=qB HBd hf;replace HF:=qF HF hf;have hs7:=hf.size;replace HP:=zz hp;clear hf hp;clear hI;have qc:=kcR HP;have rc:=kc5 HBr;have dc:=kc5 HBd;have hI:=iq_0_0_0 q w w2 w7
     go_wp2_with (fail)
     clear qc rc dc;refine (con_any _ H2.out HP.out).mono ?_;rintro _ w8 ⟨ac,mc,cc,rfl,hf,hp,hm⟩;replace HYv:=qYB HYv hf;replace HBr:=qB HBr hf;replace HBd:=qB HBd hf;replace HF:=qF HF hf;have hs8:=hf.size;replace HP:=zz hp;have HMc:=zz hm;clear hf hp hm;simp only [cnV];clear hI;have qc:=kcR HP;have rc:=kc5 HBr;have dc:=kc5 HBd;have hI:=iq_0_0_0 q w w2 w8
     go_wp2_with (fail)
     clear qc rc dc;generalize ee:World.setCell w8 _ _=w9_1;have hq1:=sizeS1 ee;replace HP:=rpO1 HP ee;replace HF:=fN1 HF ee;replace HBr:=bF1 HBr ee;replace HBd:Hid (Bo w9_1 w2.heap.size 40 #[.string (nameS ts (takeS ts s 5 wData) 3).1,.slice a1 m1 c1,.slice (some ⟨w8.heap.size,0,none⟩) 1 1,.int .i64 (nowT ts s.i).l,.int .i64 (nowT ts s.i).c]):=zz (by rw [←ee];exact HBd.out.set 2 (.slice (some ⟨w8.heap.size,0,none⟩) 1 1));replace HMc:=mS1 HMc ee;replace HYv:=yS1 HYv ee;clear ee;generalize ee:World.alloc w9_1 _=w9;have hq2:=sizeA ee;have HNEW:=ownD_new ee (sz:=4) (b:=w8.heap.size) (cn_mem (x:=cn) HMc.out) rfl (by omega) (by omega);replace HP:=rpA HP ee;replace HF:=fA HF ee;replace HBr:=bA HBr ee;replace HBd:=bA HBd ee;replace HMc:=mA HMc ee;replace HYv:=yA HYv ee;have HOc:=HNEW;clear HNEW;clear ee
     have hsa9:w9.heap.size=w8.heap.size+1:=by omega
     clear hq1 hq2;clear hI;clear HMc
     go_loopw [] (fun wr=>∃ (us:List Cn) (st:MS) (gg:Nat) (a2:Option Addr) (m2 c2:Nat),consM ts f gg us st=some (cs,se)∧Hid (RS ts aL n cap q st ((0:Nat):Int) wr)∧Hid (FarB q w.heap.size w wr)∧Hid (Bo wr w.heap.size 40 #[.string ⟨#[]⟩,.slice none 0 0,.slice none 0 0,.int .i64 0,.int .i64 0])∧Hid (Bo wr w2.heap.size 40 #[.string (nameS ts (takeS ts s 5 wData) 3).1,.slice a1 m1 c1,.slice a2 m2 c2,.int .i64 (nowT ts s.i).l,.int .i64 (nowT ts s.i).c])∧Hid (OwnD 0 w7.heap.size 75 4 wr (.slice a2 m2 c2) (us.map Cn.row))∧Hid (Mem (NwS (Bt B0 T0) wr.heap.size) wr (.s 1 (vs.map strRow)) (.slice a1 m1 c1))∧us.length+leftM ts st≤ts.length+1∧w7.heap.size≤wr.heap.size) (fun wr=>posM ts.length q wr)
     case atStart=>exact ⟨[cn],sc,f,_,_,_,H3.out,HP,HF,HBr,HBd,HOc,HYv,(by have :=leftM_le (ts:=ts) sc;simp only [List.length_cons,List.length_nil];omega),by omega⟩
     case round=>
      clear HP HF HBr HBd HOc HYv HP1;obtain ⟨us,st,gg,a2,m2,c2,hr1,HP,HF,HBr,HBd,HOc,HYv,hl1,hws⟩:=hrel;have HP1:=HP;have qc:=kcR HP;have rc:=kc5 HBr;have dc:=kc5 HBd;have hI:=iq_0_0_0 q w w2 wr
      go_wp2_with (fail)
      clear qc rc dc;refine (mis_any 6 wBar _ HP.out).mono ?_;rintro _ w10 ⟨rfl,hb⟩;have hf:=FarQ.of (q:=q) hb;replace HYv:=qYB HYv hf;replace HBr:=qB HBr hf;replace HBd:=qB HBd hf;replace HOc:=qO HOc hf;replace HF:=qF HF hf;have hs10:=hf.size;replace HP:=krP HP hb;clear hf hb
      cases gg with
      | zero=>rw [consM] at hr1;cases hr1
      | succ gg=>
       rw [consM] at hr1
       cases hc:isS ts st 6 wBar with
       | false=>
        rw [if_neg (by rw [hc];decide)] at hr1;cases hr1;clear hI;have qc:=kcR HP;have rc:=kc5 HBr;have dc:=kc5 HBd;have hI:=iq_0_0_0 q w w2 w10
        go_wp2_with (fail)
        clear qc rc dc;generalize ee:World.setCell _ ⟨w.heap.size,4,none⟩ _=w11;have hsz11:=sizeS5 ee;replace HP:=rpO5 HP ee;replace HF:=fN5 HF ee;replace HBr:=bS5 HBr ee;replace HBd:=bF5 HBd ee;replace HOc:=oS5 HOc ee;replace HYv:=yS5 HYv ee;clear ee;clear hI;have fc:=kc5 HBr;refine bodyPost_ret (v:=.agg #[.string (nameS ts (takeS ts s 5 wData) 3).1,.slice a1 m1 c1,.slice a2 m2 c2,.int .i64 (nowT ts s.i).l,.int .i64 (nowT ts s.i).c]) (by clear HP HF HP1 HBr HBd HOc HYv;simp [results,Tryz.results22,go_sem,fc]) rfl ?_;exact ⟨_,_,_,_,_,_,rfl,HF.out.out,HP.out,memS_nw HYv.out (fun b hb=>Nat.le_trans (by omega) hb.1),memNw HOc.out.mem (by omega)⟩
       | true=>
        rw [if_pos hc] at hr1;have hok:st.ok=true:=(isS_parts hc).1;have hlt:st.i<ts.length:=isT_lt (isS_parts hc).2 (by decide);obtain ⟨Y,hy1,hr1⟩:=Option.bind_eq_some_iff.1 hr1;obtain ⟨y,sy⟩:=Y
        have hov:(st.i:Int)+1≤9223372036854775807:=by omega
        have HOK:=zz hok;clear hok hc;clear hI;have qc:=kcR HP;have rc:=kc5 HBr;have dc:=kc5 HBd;have hI:=iq_0_0_0 q w w2 w10;go_upto_region 11 with (fail);clear qc rc dc;generalize ee:World.setCell w10 _ _=w11;have hsz11:=sizeS1 ee;replace HP:=zz (HP.out.setIE (k:=(st.i+1)) ee (by omega));replace HF:=zz (HF.out.setQE ee);replace HBr:=bF1 HBr ee;replace HBd:=bF1 HBd ee;replace HOc:=oS1 HOc ee;replace HYv:=yS1 HYv ee;clear ee;clear hI;have qc:=kcR HP;have rc:=kc5 HBr;have dc:=kc5 HBd;have hI:=iq_0_0_0 q w w2 w11;have hZ:=iq_0_0_0 q w w2 w10
        have hlz:us.length+1≤1048577:=by rw [leftM_ok HOK.out] at hl1;omega
        clear qc rc dc;clear hI hZ;have qc:=kcR HP;have rc:=kc5 HBr;have dc:=kc5 HBd;have hI:=iq_0_0_0 q w w2 w11;have hZ:=iq_0_0_0 q w w2 w10;refine wp_region_held_drew (S:=fun w'=>Far (fun b=>b=q∨b=w2.heap.size∨(Value.slice a2 m2 c2).ownBlock=some b) (w11) w') (by kernel_rfl) (Far.of (below_drew _)) (fun hS30=>?_);refine takeA 0 (v:=?_) rfl ?_ ?_;rotate_left;· intros;go_simp;try rfl
        (try simp only [pu]);refine takeA 2 (v:=?_) rfl ?_ ?_;rotate_left;· intros;go_simp;try rfl
        (try simp only [pu]);refine twoL 1 3 rfl rfl (by kernel_rfl) (by rfl) (by rfl) (fun K hK=>?_) (fun K hK=>?_)
        ·
         go_simp;refine hK.out _ _ (hS30) (fun hS31=>?_);clear hK K;refine callA 3 rfl fun K hK=>?_;clear qc rc dc;have HOW:Hid (OwnD 0 (w7.heap.size) 75 4 w11 (.slice a2 m2 c2) (us.map Cn.row)):=HOc;go_simp;refine (con_any _ hy1 HP.out.drew).mono ?_;rintro e wx32 ⟨ay,my,cy,rfl,hf,hp,hm⟩;replace hf:FarQ q w11 wx32:=(FarQ.of (below_drew _)).trans hf;have hswx32:w11.heap.size≤wx32.heap.size:=hf.size;replace HBr:=qB HBr hf;replace HBd:=qB HBd hf;replace HOc:=qO HOc hf;replace HYv:=qYB HYv hf;replace HF:=qF HF hf;replace HP:=zz hp;have HMy:Hid (Mem (Nw 0 w11.heap.size _) _ _ _):=zz hm;clear hm;simp only [cnV];go_simp;refine hK.out _ _ (Far.mono hf (fun b e=>.inl e)) (fun hS32=>?_);clear hK K hp hf;refine callA 4 rfl fun K hK=>?_;go_simp;refine hK.out _ _ (Far.trans hS32 (Far.of (below_new _ _))) (fun hS33=>?_);clear hK K;refine callA 5 rfl fun K hK=>?_;refine wp_append_D2 _ _ (by rfl) Tryz.underlying38 info_conM rfl (by decide) (by rfl) (by rfl) (HOc.out.alloc _) (row_app HOW.out (by omega) (by omega) (cn_mem (x:=y) HMy.out) rfl) (by simp only [List.length_map,List.length_cons,List.length_nil];omega) (by simp only [List.length_map,List.length_cons,List.length_nil];omega) (by rw [World.size_alloc];omega) (fun v9 w9 ho hg=>?_);obtain ⟨a9,m9,c9,rfl⟩:=mem_slice ho.mem;refine hK.out _ _ (Far.trans hS33 ((grownFar hg).mono (fun b e=>.inr (.inr e)))) (fun hS34=>?_);clear hK K
         have hs9:wx32.heap.size+1≤w9.heap.size:=by have h:=hg.size;rw [World.size_alloc] at h;exact h
         have hob:∀ k,(Value.slice a2 m2 c2).ownBlock=some k→w7.heap.size≤k:=fun k hk=>(HOc.out.lt k hk).1
         replace HP:=zz ((HP.out.alloc _).grown hg fun k hk=>by have :=hob k hk;omega)
         replace HF:=zz ((HF.out.alloc _).grown hg fun k hk=>by have :=hob k hk;omega)
         replace HBr:=zz ((HBr.out.alloc _).grown hg fun k hk=>by have :=hob k hk;omega)
         replace HBd:=zz ((HBd.out.alloc _).grown hg fun k hk=>by have :=hob k hk;omega)
         replace HYv:=zz (memS_grown (memS_alloc HYv.out _) hg fun k hk=>by have :=hob k hk;unfold Bt;omega)
         have HOc9:Hid (OwnD 0 (w7.heap.size) 75 4 w9 (.slice a9 m9 c9) ((us++[y]).map Cn.row)):=zz (by rw [List.map_append];exact ho);clear ho hg hob HOW HOc;refine takeA 6 (v:=?_) rfl ?_ ?_;rotate_left;· intros;go_simp;try rfl
         (try simp only [pu]);refine callA 7 rfl fun K hK=>?_;have qc:=kcR HP;have rc:=kc5 HBr;have dc:=kc5 HBd;have hI:=iq_0_0_0 q w w2 w9;go_simp;refine hK.out _ _ (Far.setCell hS34 (.inr (.inl rfl)) _) (fun hS35=>?_);clear hK K;refine wpAnyH_done (by kernel_rfl) ?_ _;clear qc rc dc;generalize ee:World.setCell w9 _ _=w12;have hsz12:=sizeS1 ee;replace HP:=rpO1 HP ee;replace HF:=fN1 HF ee;replace HBr:=bF1 HBr ee;replace HBd:Hid (Bo w12 w2.heap.size 40 #[.string (nameS ts (takeS ts s 5 wData) 3).1,.slice a1 m1 c1,.slice a9 m9 c9,.int .i64 (nowT ts s.i).l,.int .i64 (nowT ts s.i).c]):=zz (by rw [←ee];exact HBd.out.set 2 (.slice a9 m9 c9));replace HOc9:=oS1 HOc9 ee;replace HYv:=yS1 HYv ee;clear ee;clear hI;have qc:=kcR HP;have rc:=kc5 HBr;have dc:=kc5 HBd;have hI:=iq_0_0_0 q w w2 w12;have hZ:=iq_0_0_0 q w w2 w9
         go_wp2_with (fail)
         clear qc rc dc
         go_roundw
         case rel=>exact ⟨us++[y],sy,gg,a9,m9,c9,hr1,HP,HF,HBr,HBd,HOc9,HYv,(by rw [leftM_ok HOK.out] at hl1;have h1:leftM ts sy≤leftM ts st - 2:=leftM_step (ts:=ts) ((step_next st).trans (conM_step hy1));rw [leftM_ok HOK.out] at h1;rw [List.length_append,List.length_cons,List.length_nil];omega),by omega⟩
         case measure=>exact posM_step HP1.out HP.out _ (((step_next st).trans (conM_step hy1)).le (by decide)) HOK.out fun _=>hlt
        ·
         clear qc rc dc;have HOW:Hid (OwnD 0 (w7.heap.size) 75 4 w11 (.slice a2 m2 c2) (us.map Cn.row)):=HOc;go_simp;refine (con_any _ hy1 HP.out.drew).mono ?_;rintro e wx31 ⟨ay,my,cy,rfl,hf,hp,hm⟩;replace hf:FarQ q w11 wx31:=(FarQ.of (below_drew _)).trans hf;have hswx31:w11.heap.size≤wx31.heap.size:=hf.size;replace HBr:=qB HBr hf;replace HBd:=qB HBd hf;replace HOc:=qO HOc hf;replace HYv:=qYB HYv hf;replace HF:=qF HF hf;replace HP:=zz hp;have HMy:Hid (Mem (Nw 0 w11.heap.size _) _ _ _):=zz hm;clear hm;simp only [cnV];go_simp;refine hK.out _ _ (Far.mono hf (fun b e=>.inl e)) (fun hS31=>?_);clear hK K hp hf;refine twoL 1 4 rfl rfl (by kernel_rfl) (by rfl) (by rfl) (fun K hK=>?_) (fun K hK=>?_)
         ·
          have qc:=kcR HP;have rc:=kc5 HBr;have dc:=kc5 HBd;have hI:=iq_0_0_0 q w w2 wx31;go_simp;refine hK.out _ _ (hS31) (fun hS32=>?_);clear hK K;clear qc rc dc;refine callA 4 rfl fun K hK=>?_;go_simp;refine hK.out _ _ (Far.trans hS32 (Far.of (below_new _ _))) (fun hS33=>?_);clear hK K;refine callA 5 rfl fun K hK=>?_;refine wp_append_D2 _ _ (by rfl) Tryz.underlying38 info_conM rfl (by decide) (by rfl) (by rfl) (HOc.out.alloc _) (row_app HOW.out (by omega) (by omega) (cn_mem (x:=y) HMy.out) rfl) (by simp only [List.length_map,List.length_cons,List.length_nil];omega) (by simp only [List.length_map,List.length_cons,List.length_nil];omega) (by rw [World.size_alloc];omega) (fun v9 w9 ho hg=>?_);obtain ⟨a9,m9,c9,rfl⟩:=mem_slice ho.mem;refine hK.out _ _ (Far.trans hS33 ((grownFar hg).mono (fun b e=>.inr (.inr e)))) (fun hS34=>?_);clear hK K
          have hs9:wx31.heap.size+1≤w9.heap.size:=by have h:=hg.size;rw [World.size_alloc] at h;exact h
          have hob:∀ k,(Value.slice a2 m2 c2).ownBlock=some k→w7.heap.size≤k:=fun k hk=>(HOc.out.lt k hk).1
          replace HP:=zz ((HP.out.alloc _).grown hg fun k hk=>by have :=hob k hk;omega)
          replace HF:=zz ((HF.out.alloc _).grown hg fun k hk=>by have :=hob k hk;omega)
          replace HBr:=zz ((HBr.out.alloc _).grown hg fun k hk=>by have :=hob k hk;omega)
          replace HBd:=zz ((HBd.out.alloc _).grown hg fun k hk=>by have :=hob k hk;omega)
          replace HYv:=zz (memS_grown (memS_alloc HYv.out _) hg fun k hk=>by have :=hob k hk;unfold Bt;omega)
          have HOc9:Hid (OwnD 0 (w7.heap.size) 75 4 w9 (.slice a9 m9 c9) ((us++[y]).map Cn.row)):=zz (by rw [List.map_append];exact ho);clear ho hg hob HOW HOc;refine takeA 6 (v:=?_) rfl ?_ ?_;rotate_left;· intros;go_simp;try rfl
          (try simp only [pu]);refine callA 7 rfl fun K hK=>?_;have qc:=kcR HP;have rc:=kc5 HBr;have dc:=kc5 HBd;have hI:=iq_0_0_0 q w w2 w9;go_simp;refine hK.out _ _ (Far.setCell hS34 (.inr (.inl rfl)) _) (fun hS35=>?_);clear hK K;refine wpAnyH_done (by kernel_rfl) ?_ _;clear qc rc dc;generalize ee:World.setCell w9 _ _=w12;have hsz12:=sizeS1 ee;replace HP:=rpO1 HP ee;replace HF:=fN1 HF ee;replace HBr:=bF1 HBr ee;replace HBd:Hid (Bo w12 w2.heap.size 40 #[.string (nameS ts (takeS ts s 5 wData) 3).1,.slice a1 m1 c1,.slice a9 m9 c9,.int .i64 (nowT ts s.i).l,.int .i64 (nowT ts s.i).c]):=zz (by rw [←ee];exact HBd.out.set 2 (.slice a9 m9 c9));replace HOc9:=oS1 HOc9 ee;replace HYv:=yS1 HYv ee;clear ee;clear hI;have qc:=kcR HP;have rc:=kc5 HBr;have dc:=kc5 HBd;have hI:=iq_0_0_0 q w w2 w12;have hZ:=iq_0_0_0 q w w2 w9
          go_wp2_with (fail)
          clear qc rc dc
          go_roundw
          case rel=>exact ⟨us++[y],sy,gg,a9,m9,c9,hr1,HP,HF,HBr,HBd,HOc9,HYv,(by rw [leftM_ok HOK.out] at hl1;have h1:leftM ts sy≤leftM ts st - 2:=leftM_step (ts:=ts) ((step_next st).trans (conM_step hy1));rw [leftM_ok HOK.out] at h1;rw [List.length_append,List.length_cons,List.length_nil];omega),by omega⟩
          case measure=>exact posM_step HP1.out HP.out _ (((step_next st).trans (conM_step hy1)).le (by decide)) HOK.out fun _=>hlt
         ·
          go_simp;refine hK.out _ _ (Far.trans hS31 (Far.of (below_new _ _))) (fun hS32=>?_);clear hK K;have qc:=kcR HP;have rc:=kc5 HBr;have dc:=kc5 HBd;have hI:=iq_0_0_0 q w w2 wx31;refine callA 1 rfl fun K hK=>?_;go_simp;refine hK.out _ _ (hS32) (fun hS33=>?_);clear hK K;clear qc rc dc;refine callA 5 rfl fun K hK=>?_;refine wp_append_D2 _ _ (by rfl) Tryz.underlying38 info_conM rfl (by decide) (by rfl) (by rfl) (HOc.out.alloc _) (row_app HOW.out (by omega) (by omega) (cn_mem (x:=y) HMy.out) rfl) (by simp only [List.length_map,List.length_cons,List.length_nil];omega) (by simp only [List.length_map,List.length_cons,List.length_nil];omega) (by rw [World.size_alloc];omega) (fun v9 w9 ho hg=>?_);obtain ⟨a9,m9,c9,rfl⟩:=mem_slice ho.mem;refine hK.out _ _ (Far.trans hS33 ((grownFar hg).mono (fun b e=>.inr (.inr e)))) (fun hS34=>?_);clear hK K
          have hs9:wx31.heap.size+1≤w9.heap.size:=by have h:=hg.size;rw [World.size_alloc] at h;exact h
          have hob:∀ k,(Value.slice a2 m2 c2).ownBlock=some k→w7.heap.size≤k:=fun k hk=>(HOc.out.lt k hk).1
          replace HP:=zz ((HP.out.alloc _).grown hg fun k hk=>by have :=hob k hk;omega)
          replace HF:=zz ((HF.out.alloc _).grown hg fun k hk=>by have :=hob k hk;omega)
          replace HBr:=zz ((HBr.out.alloc _).grown hg fun k hk=>by have :=hob k hk;omega)
          replace HBd:=zz ((HBd.out.alloc _).grown hg fun k hk=>by have :=hob k hk;omega)
          replace HYv:=zz (memS_grown (memS_alloc HYv.out _) hg fun k hk=>by have :=hob k hk;unfold Bt;omega)
          have HOc9:Hid (OwnD 0 (w7.heap.size) 75 4 w9 (.slice a9 m9 c9) ((us++[y]).map Cn.row)):=zz (by rw [List.map_append];exact ho);clear ho hg hob HOW HOc;refine takeA 6 (v:=?_) rfl ?_ ?_;rotate_left;· intros;go_simp;try rfl
          (try simp only [pu]);refine callA 7 rfl fun K hK=>?_;have qc:=kcR HP;have rc:=kc5 HBr;have dc:=kc5 HBd;have hI:=iq_0_0_0 q w w2 w9;go_simp;refine hK.out _ _ (Far.setCell hS34 (.inr (.inl rfl)) _) (fun hS35=>?_);clear hK K;refine wpAnyH_done (by kernel_rfl) ?_ _;clear qc rc dc;generalize ee:World.setCell w9 _ _=w12;have hsz12:=sizeS1 ee;replace HP:=rpO1 HP ee;replace HF:=fN1 HF ee;replace HBr:=bF1 HBr ee;replace HBd:Hid (Bo w12 w2.heap.size 40 #[.string (nameS ts (takeS ts s 5 wData) 3).1,.slice a1 m1 c1,.slice a9 m9 c9,.int .i64 (nowT ts s.i).l,.int .i64 (nowT ts s.i).c]):=zz (by rw [←ee];exact HBd.out.set 2 (.slice a9 m9 c9));replace HOc9:=oS1 HOc9 ee;replace HYv:=yS1 HYv ee;clear ee;clear hI;have qc:=kcR HP;have rc:=kc5 HBr;have dc:=kc5 HBd;have hI:=iq_0_0_0 q w w2 w12;have hZ:=iq_0_0_0 q w w2 w9
          go_wp2_with (fail)
          clear qc rc dc
          go_roundw
          case rel=>exact ⟨us++[y],sy,gg,a9,m9,c9,hr1,HP,HF,HBr,HBd,HOc9,HYv,(by rw [leftM_ok HOK.out] at hl1;have h1:leftM ts sy≤leftM ts st - 2:=leftM_step (ts:=ts) ((step_next st).trans (conM_step hy1));rw [leftM_ok HOK.out] at h1;rw [List.length_append,List.length_cons,List.length_nil];omega),by omega⟩
          case measure=>exact posM_step HP1.out HP.out _ (((step_next st).trans (conM_step hy1)).le (by decide)) HOK.out fun _=>hlt
    | true=>
     have hk2:((nowT ts st.i).k==2)=false:=by rw [hok,Bool.true_and] at hc;simpa using hc
     clear hc hok
     go_wp2_with (fail)
     clear qc rc dc;refine (mnow_any _ HP.out.bo HP.out.mem).mono ?_;rintro _ w7 ⟨rfl,hb⟩;have hf:=FarQ.of (q:=q) hb;replace HBr:=qB HBr hf;replace HBd:=qB HBd hf;replace HOv:=qO HOv hf;replace HF:=qF HF hf;have hs7:=hf.size;replace HP:=krP HP hb;clear hf hb;simp only [tkV];clear hI;have qc:=kcR HP;have rc:=kc5 HBr;have dc:=kc5 HBd;have hI:=iq_0_0_0 q w w2 w7
     go_wp2_with (fail)
     cases hr1;obtain ⟨T0,hT0⟩:∃ k,k=w7.heap.size:=⟨_,rfl⟩;have HYv:Hid (Mem (NwS (Bt B0 T0) w7.heap.size) w7 (.s 1 (vs.map strRow)) (.slice a1 m1 c1)):=zz (by rw [hT0];exact memS_bt HOv.out.mem (by omega));clear HOv;clear qc rc dc;clear hI;have qc:=kcR HP;have rc:=kc5 HBr;have dc:=kc5 HBd;have hI:=iq_0_0_0 q w w2 w7
     go_wp2_with (fail)
     clear qc rc dc;refine (mtake_any 6 wEq _ HP.out (by decide)).mono ?_;rintro _ w8 ⟨rfl,hf,hp⟩;replace HYv:=qYB HYv hf;replace HBr:=qB HBr hf;replace HBd:=qB HBd hf;replace HF:=qF HF hf;have hs8:=hf.size;replace HP:=zz hp;clear hf hp;clear hI;have qc:=kcR HP;have rc:=kc5 HBr;have dc:=kc5 HBd;have hI:=iq_0_0_0 q w w2 w8
     go_wp2_with (fail)
     clear qc rc dc;refine (con_any _ H2.out HP.out).mono ?_;rintro _ w9 ⟨ac,mc,cc,rfl,hf,hp,hm⟩;replace HYv:=qYB HYv hf;replace HBr:=qB HBr hf;replace HBd:=qB HBd hf;replace HF:=qF HF hf;have hs9:=hf.size;replace HP:=zz hp;have HMc:=zz hm;clear hf hp hm;simp only [cnV];clear hI;have qc:=kcR HP;have rc:=kc5 HBr;have dc:=kc5 HBd;have hI:=iq_0_0_0 q w w2 w9
     go_wp2_with (fail)
     clear qc rc dc;generalize ee:World.setCell w9 _ _=w10_1;have hq1:=sizeS1 ee;replace HP:=rpO1 HP ee;replace HF:=fN1 HF ee;replace HBr:=bF1 HBr ee;replace HBd:Hid (Bo w10_1 w2.heap.size 40 #[.string (nameS ts (takeS ts s 5 wData) 3).1,.slice a1 m1 c1,.slice (some ⟨w9.heap.size,0,none⟩) 1 1,.int .i64 (nowT ts s.i).l,.int .i64 (nowT ts s.i).c]):=zz (by rw [←ee];exact HBd.out.set 2 (.slice (some ⟨w9.heap.size,0,none⟩) 1 1));replace HMc:=mS1 HMc ee;replace HYv:=yS1 HYv ee;clear ee;generalize ee:World.alloc w10_1 _=w10;have hq2:=sizeA ee;have HNEW:=ownD_new ee (sz:=4) (b:=w9.heap.size) (cn_mem (x:=cn) HMc.out) rfl (by omega) (by omega);replace HP:=rpA HP ee;replace HF:=fA HF ee;replace HBr:=bA HBr ee;replace HBd:=bA HBd ee;replace HMc:=mA HMc ee;replace HYv:=yA HYv ee;have HOc:=HNEW;clear HNEW;clear ee
     have hsa10:w10.heap.size=w9.heap.size+1:=by omega
     clear hq1 hq2;clear hI;clear HMc
     go_loopw [] (fun wr=>∃ (us:List Cn) (st:MS) (gg:Nat) (a2:Option Addr) (m2 c2:Nat),consM ts f gg us st=some (cs,se)∧Hid (RS ts aL n cap q st ((0:Nat):Int) wr)∧Hid (FarB q w.heap.size w wr)∧Hid (Bo wr w.heap.size 40 #[.string ⟨#[]⟩,.slice none 0 0,.slice none 0 0,.int .i64 0,.int .i64 0])∧Hid (Bo wr w2.heap.size 40 #[.string (nameS ts (takeS ts s 5 wData) 3).1,.slice a1 m1 c1,.slice a2 m2 c2,.int .i64 (nowT ts s.i).l,.int .i64 (nowT ts s.i).c])∧Hid (OwnD 0 w8.heap.size 75 4 wr (.slice a2 m2 c2) (us.map Cn.row))∧Hid (Mem (NwS (Bt B0 T0) wr.heap.size) wr (.s 1 (vs.map strRow)) (.slice a1 m1 c1))∧us.length+leftM ts st≤ts.length+1∧w8.heap.size≤wr.heap.size) (fun wr=>posM ts.length q wr)
     case atStart=>exact ⟨[cn],sc,f,_,_,_,H3.out,HP,HF,HBr,HBd,HOc,HYv,(by have :=leftM_le (ts:=ts) sc;simp only [List.length_cons,List.length_nil];omega),by omega⟩
     case round=>
      clear HP HF HBr HBd HOc HYv HP1;obtain ⟨us,st,gg,a2,m2,c2,hr1,HP,HF,HBr,HBd,HOc,HYv,hl1,hws⟩:=hrel;have HP1:=HP;have qc:=kcR HP;have rc:=kc5 HBr;have dc:=kc5 HBd;have hI:=iq_0_0_0 q w w2 wr
      go_wp2_with (fail)
      clear qc rc dc;refine (mis_any 6 wBar _ HP.out).mono ?_;rintro _ w11 ⟨rfl,hb⟩;have hf:=FarQ.of (q:=q) hb;replace HYv:=qYB HYv hf;replace HBr:=qB HBr hf;replace HBd:=qB HBd hf;replace HOc:=qO HOc hf;replace HF:=qF HF hf;have hs11:=hf.size;replace HP:=krP HP hb;clear hf hb
      cases gg with
      | zero=>rw [consM] at hr1;cases hr1
      | succ gg=>
       rw [consM] at hr1
       cases hc:isS ts st 6 wBar with
       | false=>
        rw [if_neg (by rw [hc];decide)] at hr1;cases hr1;clear hI;have qc:=kcR HP;have rc:=kc5 HBr;have dc:=kc5 HBd;have hI:=iq_0_0_0 q w w2 w11
        go_wp2_with (fail)
        clear qc rc dc;generalize ee:World.setCell _ ⟨w.heap.size,4,none⟩ _=w12;have hsz12:=sizeS5 ee;replace HP:=rpO5 HP ee;replace HF:=fN5 HF ee;replace HBr:=bS5 HBr ee;replace HBd:=bF5 HBd ee;replace HOc:=oS5 HOc ee;replace HYv:=yS5 HYv ee;clear ee;clear hI;have fc:=kc5 HBr;refine bodyPost_ret (v:=.agg #[.string (nameS ts (takeS ts s 5 wData) 3).1,.slice a1 m1 c1,.slice a2 m2 c2,.int .i64 (nowT ts s.i).l,.int .i64 (nowT ts s.i).c]) (by clear HP HF HP1 HBr HBd HOc HYv;simp [results,Tryz.results22,go_sem,fc]) rfl ?_;exact ⟨_,_,_,_,_,_,rfl,HF.out.out,HP.out,memS_nw HYv.out (fun b hb=>Nat.le_trans (by omega) hb.1),memNw HOc.out.mem (by omega)⟩
       | true=>
        rw [if_pos hc] at hr1;have hok:st.ok=true:=(isS_parts hc).1;have hlt:st.i<ts.length:=isT_lt (isS_parts hc).2 (by decide);obtain ⟨Y,hy1,hr1⟩:=Option.bind_eq_some_iff.1 hr1;obtain ⟨y,sy⟩:=Y
        have hov:(st.i:Int)+1≤9223372036854775807:=by omega
        have HOK:=zz hok;clear hok hc;clear hI;have qc:=kcR HP;have rc:=kc5 HBr;have dc:=kc5 HBd;have hI:=iq_0_0_0 q w w2 w11;go_upto_region 11 with (fail);clear qc rc dc;generalize ee:World.setCell w11 _ _=w12;have hsz12:=sizeS1 ee;replace HP:=zz (HP.out.setIE (k:=(st.i+1)) ee (by omega));replace HF:=zz (HF.out.setQE ee);replace HBr:=bF1 HBr ee;replace HBd:=bF1 HBd ee;replace HOc:=oS1 HOc ee;replace HYv:=yS1 HYv ee;clear ee;clear hI;have qc:=kcR HP;have rc:=kc5 HBr;have dc:=kc5 HBd;have hI:=iq_0_0_0 q w w2 w12;have hZ:=iq_0_0_0 q w w2 w11
        have hlz:us.length+1≤1048577:=by rw [leftM_ok HOK.out] at hl1;omega
        clear qc rc dc;clear hI hZ;have qc:=kcR HP;have rc:=kc5 HBr;have dc:=kc5 HBd;have hI:=iq_0_0_0 q w w2 w12;have hZ:=iq_0_0_0 q w w2 w11;refine wp_region_held_drew (S:=fun w'=>Far (fun b=>b=q∨b=w2.heap.size∨(Value.slice a2 m2 c2).ownBlock=some b) (w12) w') (by kernel_rfl) (Far.of (below_drew _)) (fun hS30=>?_);refine takeA 0 (v:=?_) rfl ?_ ?_;rotate_left;· intros;go_simp;try rfl
        (try simp only [pu]);refine takeA 2 (v:=?_) rfl ?_ ?_;rotate_left;· intros;go_simp;try rfl
        (try simp only [pu]);refine twoL 1 3 rfl rfl (by kernel_rfl) (by rfl) (by rfl) (fun K hK=>?_) (fun K hK=>?_)
        ·
         go_simp;refine hK.out _ _ (hS30) (fun hS31=>?_);clear hK K;refine callA 3 rfl fun K hK=>?_;clear qc rc dc;have HOW:Hid (OwnD 0 (w8.heap.size) 75 4 w12 (.slice a2 m2 c2) (us.map Cn.row)):=HOc;go_simp;refine (con_any _ hy1 HP.out.drew).mono ?_;rintro e wx32 ⟨ay,my,cy,rfl,hf,hp,hm⟩;replace hf:FarQ q w12 wx32:=(FarQ.of (below_drew _)).trans hf;have hswx32:w12.heap.size≤wx32.heap.size:=hf.size;replace HBr:=qB HBr hf;replace HBd:=qB HBd hf;replace HOc:=qO HOc hf;replace HYv:=qYB HYv hf;replace HF:=qF HF hf;replace HP:=zz hp;have HMy:Hid (Mem (Nw 0 w12.heap.size _) _ _ _):=zz hm;clear hm;simp only [cnV];go_simp;refine hK.out _ _ (Far.mono hf (fun b e=>.inl e)) (fun hS32=>?_);clear hK K hp hf;refine callA 4 rfl fun K hK=>?_;go_simp;refine hK.out _ _ (Far.trans hS32 (Far.of (below_new _ _))) (fun hS33=>?_);clear hK K;refine callA 5 rfl fun K hK=>?_;refine wp_append_D2 _ _ (by rfl) Tryz.underlying38 info_conM rfl (by decide) (by rfl) (by rfl) (HOc.out.alloc _) (row_app HOW.out (by omega) (by omega) (cn_mem (x:=y) HMy.out) rfl) (by simp only [List.length_map,List.length_cons,List.length_nil];omega) (by simp only [List.length_map,List.length_cons,List.length_nil];omega) (by rw [World.size_alloc];omega) (fun v9 w9 ho hg=>?_);obtain ⟨a9,m9,c9,rfl⟩:=mem_slice ho.mem;refine hK.out _ _ (Far.trans hS33 ((grownFar hg).mono (fun b e=>.inr (.inr e)))) (fun hS34=>?_);clear hK K
         have hs9:wx32.heap.size+1≤w9.heap.size:=by have h:=hg.size;rw [World.size_alloc] at h;exact h
         have hob:∀ k,(Value.slice a2 m2 c2).ownBlock=some k→w8.heap.size≤k:=fun k hk=>(HOc.out.lt k hk).1
         replace HP:=zz ((HP.out.alloc _).grown hg fun k hk=>by have :=hob k hk;omega)
         replace HF:=zz ((HF.out.alloc _).grown hg fun k hk=>by have :=hob k hk;omega)
         replace HBr:=zz ((HBr.out.alloc _).grown hg fun k hk=>by have :=hob k hk;omega)
         replace HBd:=zz ((HBd.out.alloc _).grown hg fun k hk=>by have :=hob k hk;omega)
         replace HYv:=zz (memS_grown (memS_alloc HYv.out _) hg fun k hk=>by have :=hob k hk;unfold Bt;omega)
         have HOc9:Hid (OwnD 0 (w8.heap.size) 75 4 w9 (.slice a9 m9 c9) ((us++[y]).map Cn.row)):=zz (by rw [List.map_append];exact ho);clear ho hg hob HOW HOc;refine takeA 6 (v:=?_) rfl ?_ ?_;rotate_left;· intros;go_simp;try rfl
         (try simp only [pu]);refine callA 7 rfl fun K hK=>?_;have qc:=kcR HP;have rc:=kc5 HBr;have dc:=kc5 HBd;have hI:=iq_0_0_0 q w w2 w9;go_simp;refine hK.out _ _ (Far.setCell hS34 (.inr (.inl rfl)) _) (fun hS35=>?_);clear hK K;refine wpAnyH_done (by kernel_rfl) ?_ _;clear qc rc dc;generalize ee:World.setCell w9 _ _=w13;have hsz13:=sizeS1 ee;replace HP:=rpO1 HP ee;replace HF:=fN1 HF ee;replace HBr:=bF1 HBr ee;replace HBd:Hid (Bo w13 w2.heap.size 40 #[.string (nameS ts (takeS ts s 5 wData) 3).1,.slice a1 m1 c1,.slice a9 m9 c9,.int .i64 (nowT ts s.i).l,.int .i64 (nowT ts s.i).c]):=zz (by rw [←ee];exact HBd.out.set 2 (.slice a9 m9 c9));replace HOc9:=oS1 HOc9 ee;replace HYv:=yS1 HYv ee;clear ee;clear hI;have qc:=kcR HP;have rc:=kc5 HBr;have dc:=kc5 HBd;have hI:=iq_0_0_0 q w w2 w13;have hZ:=iq_0_0_0 q w w2 w9
         go_wp2_with (fail)
         clear qc rc dc
         go_roundw
         case rel=>exact ⟨us++[y],sy,gg,a9,m9,c9,hr1,HP,HF,HBr,HBd,HOc9,HYv,(by rw [leftM_ok HOK.out] at hl1;have h1:leftM ts sy≤leftM ts st - 2:=leftM_step (ts:=ts) ((step_next st).trans (conM_step hy1));rw [leftM_ok HOK.out] at h1;rw [List.length_append,List.length_cons,List.length_nil];omega),by omega⟩
         case measure=>exact posM_step HP1.out HP.out _ (((step_next st).trans (conM_step hy1)).le (by decide)) HOK.out fun _=>hlt
        ·
         clear qc rc dc;have HOW:Hid (OwnD 0 (w8.heap.size) 75 4 w12 (.slice a2 m2 c2) (us.map Cn.row)):=HOc;go_simp;refine (con_any _ hy1 HP.out.drew).mono ?_;rintro e wx31 ⟨ay,my,cy,rfl,hf,hp,hm⟩;replace hf:FarQ q w12 wx31:=(FarQ.of (below_drew _)).trans hf;have hswx31:w12.heap.size≤wx31.heap.size:=hf.size;replace HBr:=qB HBr hf;replace HBd:=qB HBd hf;replace HOc:=qO HOc hf;replace HYv:=qYB HYv hf;replace HF:=qF HF hf;replace HP:=zz hp;have HMy:Hid (Mem (Nw 0 w12.heap.size _) _ _ _):=zz hm;clear hm;simp only [cnV];go_simp;refine hK.out _ _ (Far.mono hf (fun b e=>.inl e)) (fun hS31=>?_);clear hK K hp hf;refine twoL 1 4 rfl rfl (by kernel_rfl) (by rfl) (by rfl) (fun K hK=>?_) (fun K hK=>?_)
         ·
          have qc:=kcR HP;have rc:=kc5 HBr;have dc:=kc5 HBd;have hI:=iq_0_0_0 q w w2 wx31;go_simp;refine hK.out _ _ (hS31) (fun hS32=>?_);clear hK K;clear qc rc dc;refine callA 4 rfl fun K hK=>?_;go_simp;refine hK.out _ _ (Far.trans hS32 (Far.of (below_new _ _))) (fun hS33=>?_);clear hK K;refine callA 5 rfl fun K hK=>?_;refine wp_append_D2 _ _ (by rfl) Tryz.underlying38 info_conM rfl (by decide) (by rfl) (by rfl) (HOc.out.alloc _) (row_app HOW.out (by omega) (by omega) (cn_mem (x:=y) HMy.out) rfl) (by simp only [List.length_map,List.length_cons,List.length_nil];omega) (by simp only [List.length_map,List.length_cons,List.length_nil];omega) (by rw [World.size_alloc];omega) (fun v9 w9 ho hg=>?_);obtain ⟨a9,m9,c9,rfl⟩:=mem_slice ho.mem;refine hK.out _ _ (Far.trans hS33 ((grownFar hg).mono (fun b e=>.inr (.inr e)))) (fun hS34=>?_);clear hK K
          have hs9:wx31.heap.size+1≤w9.heap.size:=by have h:=hg.size;rw [World.size_alloc] at h;exact h
          have hob:∀ k,(Value.slice a2 m2 c2).ownBlock=some k→w8.heap.size≤k:=fun k hk=>(HOc.out.lt k hk).1
          replace HP:=zz ((HP.out.alloc _).grown hg fun k hk=>by have :=hob k hk;omega)
          replace HF:=zz ((HF.out.alloc _).grown hg fun k hk=>by have :=hob k hk;omega)
          replace HBr:=zz ((HBr.out.alloc _).grown hg fun k hk=>by have :=hob k hk;omega)
          replace HBd:=zz ((HBd.out.alloc _).grown hg fun k hk=>by have :=hob k hk;omega)
          replace HYv:=zz (memS_grown (memS_alloc HYv.out _) hg fun k hk=>by have :=hob k hk;unfold Bt;omega)
          have HOc9:Hid (OwnD 0 (w8.heap.size) 75 4 w9 (.slice a9 m9 c9) ((us++[y]).map Cn.row)):=zz (by rw [List.map_append];exact ho);clear ho hg hob HOW HOc;refine takeA 6 (v:=?_) rfl ?_ ?_;rotate_left;· intros;go_simp;try rfl
          (try simp only [pu]);refine callA 7 rfl fun K hK=>?_;have qc:=kcR HP;have rc:=kc5 HBr;have dc:=kc5 HBd;have hI:=iq_0_0_0 q w w2 w9;go_simp;refine hK.out _ _ (Far.setCell hS34 (.inr (.inl rfl)) _) (fun hS35=>?_);clear hK K;refine wpAnyH_done (by kernel_rfl) ?_ _;clear qc rc dc;generalize ee:World.setCell w9 _ _=w13;have hsz13:=sizeS1 ee;replace HP:=rpO1 HP ee;replace HF:=fN1 HF ee;replace HBr:=bF1 HBr ee;replace HBd:Hid (Bo w13 w2.heap.size 40 #[.string (nameS ts (takeS ts s 5 wData) 3).1,.slice a1 m1 c1,.slice a9 m9 c9,.int .i64 (nowT ts s.i).l,.int .i64 (nowT ts s.i).c]):=zz (by rw [←ee];exact HBd.out.set 2 (.slice a9 m9 c9));replace HOc9:=oS1 HOc9 ee;replace HYv:=yS1 HYv ee;clear ee;clear hI;have qc:=kcR HP;have rc:=kc5 HBr;have dc:=kc5 HBd;have hI:=iq_0_0_0 q w w2 w13;have hZ:=iq_0_0_0 q w w2 w9
          go_wp2_with (fail)
          clear qc rc dc
          go_roundw
          case rel=>exact ⟨us++[y],sy,gg,a9,m9,c9,hr1,HP,HF,HBr,HBd,HOc9,HYv,(by rw [leftM_ok HOK.out] at hl1;have h1:leftM ts sy≤leftM ts st - 2:=leftM_step (ts:=ts) ((step_next st).trans (conM_step hy1));rw [leftM_ok HOK.out] at h1;rw [List.length_append,List.length_cons,List.length_nil];omega),by omega⟩
          case measure=>exact posM_step HP1.out HP.out _ (((step_next st).trans (conM_step hy1)).le (by decide)) HOK.out fun _=>hlt
         ·
          go_simp;refine hK.out _ _ (Far.trans hS31 (Far.of (below_new _ _))) (fun hS32=>?_);clear hK K;have qc:=kcR HP;have rc:=kc5 HBr;have dc:=kc5 HBd;have hI:=iq_0_0_0 q w w2 wx31;refine callA 1 rfl fun K hK=>?_;go_simp;refine hK.out _ _ (hS32) (fun hS33=>?_);clear hK K;clear qc rc dc;refine callA 5 rfl fun K hK=>?_;refine wp_append_D2 _ _ (by rfl) Tryz.underlying38 info_conM rfl (by decide) (by rfl) (by rfl) (HOc.out.alloc _) (row_app HOW.out (by omega) (by omega) (cn_mem (x:=y) HMy.out) rfl) (by simp only [List.length_map,List.length_cons,List.length_nil];omega) (by simp only [List.length_map,List.length_cons,List.length_nil];omega) (by rw [World.size_alloc];omega) (fun v9 w9 ho hg=>?_);obtain ⟨a9,m9,c9,rfl⟩:=mem_slice ho.mem;refine hK.out _ _ (Far.trans hS33 ((grownFar hg).mono (fun b e=>.inr (.inr e)))) (fun hS34=>?_);clear hK K
          have hs9:wx31.heap.size+1≤w9.heap.size:=by have h:=hg.size;rw [World.size_alloc] at h;exact h
          have hob:∀ k,(Value.slice a2 m2 c2).ownBlock=some k→w8.heap.size≤k:=fun k hk=>(HOc.out.lt k hk).1
          replace HP:=zz ((HP.out.alloc _).grown hg fun k hk=>by have :=hob k hk;omega)
          replace HF:=zz ((HF.out.alloc _).grown hg fun k hk=>by have :=hob k hk;omega)
          replace HBr:=zz ((HBr.out.alloc _).grown hg fun k hk=>by have :=hob k hk;omega)
          replace HBd:=zz ((HBd.out.alloc _).grown hg fun k hk=>by have :=hob k hk;omega)
          replace HYv:=zz (memS_grown (memS_alloc HYv.out _) hg fun k hk=>by have :=hob k hk;unfold Bt;omega)
          have HOc9:Hid (OwnD 0 (w8.heap.size) 75 4 w9 (.slice a9 m9 c9) ((us++[y]).map Cn.row)):=zz (by rw [List.map_append];exact ho);clear ho hg hob HOW HOc;refine takeA 6 (v:=?_) rfl ?_ ?_;rotate_left;· intros;go_simp;try rfl
          (try simp only [pu]);refine callA 7 rfl fun K hK=>?_;have qc:=kcR HP;have rc:=kc5 HBr;have dc:=kc5 HBd;have hI:=iq_0_0_0 q w w2 w9;go_simp;refine hK.out _ _ (Far.setCell hS34 (.inr (.inl rfl)) _) (fun hS35=>?_);clear hK K;refine wpAnyH_done (by kernel_rfl) ?_ _;clear qc rc dc;generalize ee:World.setCell w9 _ _=w13;have hsz13:=sizeS1 ee;replace HP:=rpO1 HP ee;replace HF:=fN1 HF ee;replace HBr:=bF1 HBr ee;replace HBd:Hid (Bo w13 w2.heap.size 40 #[.string (nameS ts (takeS ts s 5 wData) 3).1,.slice a1 m1 c1,.slice a9 m9 c9,.int .i64 (nowT ts s.i).l,.int .i64 (nowT ts s.i).c]):=zz (by rw [←ee];exact HBd.out.set 2 (.slice a9 m9 c9));replace HOc9:=oS1 HOc9 ee;replace HYv:=yS1 HYv ee;clear ee;clear hI;have qc:=kcR HP;have rc:=kc5 HBr;have dc:=kc5 HBd;have hI:=iq_0_0_0 q w w2 w13;have hZ:=iq_0_0_0 q w w2 w9
          go_wp2_with (fail)
          clear qc rc dc
          go_roundw
          case rel=>exact ⟨us++[y],sy,gg,a9,m9,c9,hr1,HP,HF,HBr,HBd,HOc9,HYv,(by rw [leftM_ok HOK.out] at hl1;have h1:leftM ts sy≤leftM ts st - 2:=leftM_step (ts:=ts) ((step_next st).trans (conM_step hy1));rw [leftM_ok HOK.out] at h1;rw [List.length_append,List.length_cons,List.length_nil];omega),by omega⟩
          case measure=>exact posM_step HP1.out HP.out _ (((step_next st).trans (conM_step hy1)).le (by decide)) HOK.out fun _=>hlt
end
end
end Go.Proofs.YtcoiagfeoonpbaaGreat
