/-
 The parser's or: an Or. Under what the other reading functions do with less fuel.
-/
import Derived.Test.YtcoiagfeoonpbaaGreatSm15
set_option maxHeartbeats 20000000
set_option maxRecDepth 100000
namespace Go.Proofs.YtcoiagfeoonpbaaGreat
section
open Go.RowKit
attribute [local go_sem] tk_pos
section
variable {ts:List Tk} {aL:Option Addr} {n cap q:Nat}
theorem or_A {f i deep:Nat} {l c:Int} (hx:readE ts f (.left 2) i deep=some (.bad l c)) (w:World) (hd:deep≤40) (H:AllR ts aL n cap q (f+1)) (hp:PS ts aL n cap q i (deep:Int) w):
  Calls Tryz.prog 136 #[.pointer (some ⟨q,0,none⟩)] w (Ans ts aL n cap q (.bad l c) deep w):=by
 have HP:=zz hp;have hq0:=hp.lt;have HF:=zz (FarB.refl q w.heap.size w);clear hp;go_enter Tryz.func136,Tryz.ntmps136
 go_wp2_with (fail)
 generalize ee:World.alloc w _=w1;have hsa1:=sizeA ee;replace HP:=pA HP ee;replace HF:=fA HF ee;have HBt:=nB ee (w.heap.size);clear ee;have qc:=kcP HP;have tc:=kc6 HBt;have hI:=iq_0_0 q w w1;have hZ:=iq_01 q w;clear qc tc;refine ((H.le f (Nat.lt_succ_self f)) 2 i deep _ _ (by omega) hd hx HP.out).mono ?_;rintro _ w2 ⟨rfl,hf,hbo⟩
 go_wp2_with (fail)
 exact ⟨rfl,rfl,FarB.out (HF.out.farq hf),hbo⟩
theorem or_B {f i deep:Nat} {x:Ex} {j:Nat} (hx:readE ts f (.left 2) i deep=some (.ok x j)) (hk:isT ts j 6 wOr=false) (w:World) (hd:deep≤40) (H:AllR ts aL n cap q (f+1)) (hp:PS ts aL n cap q i (deep:Int) w):
  Calls Tryz.prog 136 #[.pointer (some ⟨q,0,none⟩)] w (Ans ts aL n cap q (.ok x j) deep w):=by
 have HP:=zz hp;have hq0:=hp.lt;have HF:=zz (FarB.refl q w.heap.size w);clear hp;go_enter Tryz.func136,Tryz.ntmps136
 go_wp2_with (fail)
 generalize ee:World.alloc w _=w1;have hsa1:=sizeA ee;replace HP:=pA HP ee;replace HF:=fA HF ee;have HBt:=nB ee (w.heap.size);clear ee;have qc:=kcP HP;have tc:=kc6 HBt;have hI:=iq_0_0 q w w1;have hZ:=iq_01 q w;clear qc tc;refine ((H.le f (Nat.lt_succ_self f)) 2 i deep _ _ (by omega) hd hx HP.out).mono ?_;rintro _ w2 ⟨ax,mx,cx,rfl,hf,hp,hm⟩;replace HBt:=qB HBt hf;replace HF:=qF HF hf;have hs2:=hf.size;replace HP:=zz hp;have HMx:=zz hm;clear hf hp hm;simp only [exV];clear hI hZ;have qc:=kcP HP;have tc:=kc6 HBt;have hI:=iq_0_0 q w w2
 go_wp2_with (fail)
 clear qc tc;generalize ee:World.alloc w2 _=w3;have hsa3:=sizeA ee;replace HP:=pA HP ee;replace HF:=fA HF ee;replace HBt:=bA HBt ee;replace HMx:=mA HMx ee;have HBu:=nB ee (w2.heap.size);clear ee;clear hI;have qc:=kcP HP;have tc:=kc6 HBt;have uc:=kc6 HBu;have hI:=iq_0_0_0 q w w2 w3;have hZ:=iq_0_01 q w w2;clear qc tc uc;refine (is_any 6 wOr _ HP.out).mono ?_;rintro _ w4 ⟨rfl,hb⟩;have hf:=FarQ.of (q:=q) hb;replace HBt:=qB HBt hf;replace HBu:=qB HBu hf;replace HMx:=qM HMx hf;replace HF:=qF HF hf;have hs4:=hf.size;replace HP:=kP HP hb;clear hf hb;rw [hk];clear hI hZ;have qc:=kcP HP;have tc:=kc6 HBt;have uc:=kc6 HBu;have hI:=iq_0_0_0 q w w2 w4
 go_wp2_with (fail)
 clear qc tc uc;generalize ee:World.setCell _ ⟨w.heap.size,5,none⟩ _=w5;have hsz5:=sizeS6 ee;replace HP:=pO6 HP ee;replace HF:=fN6 HF ee;replace HBt:=bS6 HBt ee;replace HBu:=bF6 HBu ee;replace HMx:=mS6 HMx ee;clear ee;clear hI;have fc:=kc6 HBt;refine bodyPost_ret (v:=.agg #[.int .i64 x.kind,.string x.name,.int .i64 x.n,.slice ax mx cx,.int .i64 x.line,.int .i64 x.col]) (by clear HP HF HBt HBu HMx;simp [results,Tryz.results136,go_sem,fc]) rfl ?_;exact ⟨_,_,_,rfl,HF.out.out,HP.out,memNw HMx.out (by omega)⟩
theorem or_C {f i deep:Nat} {x:Ex} {j:Nat} (hx:readE ts f (.left 2) i deep=some (.ok x j)) (hk:isT ts j 6 wOr=true) {l c:Int} (hy:readE ts f .or (j+1) deep=some (.bad l c)) (w:World) (hd:deep≤40) (H:AllR ts aL n cap q (f+1)) (hp:PS ts aL n cap q i (deep:Int) w):
  Calls Tryz.prog 136 #[.pointer (some ⟨q,0,none⟩)] w (Ans ts aL n cap q (.bad l c) deep w):=by
 have HP:=zz hp;have hq0:=hp.lt;have HF:=zz (FarB.refl q w.heap.size w);clear hp;go_enter Tryz.func136,Tryz.ntmps136
 go_wp2_with (fail)
 generalize ee:World.alloc w _=w1;have hsa1:=sizeA ee;replace HP:=pA HP ee;replace HF:=fA HF ee;have HBt:=nB ee (w.heap.size);clear ee;have qc:=kcP HP;have tc:=kc6 HBt;have hI:=iq_0_0 q w w1;have hZ:=iq_01 q w;clear qc tc;refine ((H.le f (Nat.lt_succ_self f)) 2 i deep _ _ (by omega) hd hx HP.out).mono ?_;rintro _ w2 ⟨ax,mx,cx,rfl,hf,hp,hm⟩;replace HBt:=qB HBt hf;replace HF:=qF HF hf;have hs2:=hf.size;replace HP:=zz hp;have HMx:=zz hm;clear hf hp hm;simp only [exV];clear hI hZ;have qc:=kcP HP;have tc:=kc6 HBt;have hI:=iq_0_0 q w w2
 go_wp2_with (fail)
 clear qc tc;generalize ee:World.alloc w2 _=w3;have hsa3:=sizeA ee;replace HP:=pA HP ee;replace HF:=fA HF ee;replace HBt:=bA HBt ee;replace HMx:=mA HMx ee;have HBu:=nB ee (w2.heap.size);clear ee;clear hI;have qc:=kcP HP;have tc:=kc6 HBt;have uc:=kc6 HBu;have hI:=iq_0_0_0 q w w2 w3;have hZ:=iq_0_01 q w w2;have hjl:j<ts.length:=isT_lt hk (by decide)
 have hov:(j:Int)+1≤9223372036854775807:=by have :=HP.out.len;omega
 clear hjl;clear qc tc uc;refine (is_any 6 wOr _ HP.out).mono ?_;rintro _ w4 ⟨rfl,hb⟩;have hf:=FarQ.of (q:=q) hb;replace HBt:=qB HBt hf;replace HBu:=qB HBu hf;replace HMx:=qM HMx hf;replace HF:=qF HF hf;have hs4:=hf.size;replace HP:=kP HP hb;clear hf hb;rw [hk];clear hI hZ;have qc:=kcP HP;have tc:=kc6 HBt;have uc:=kc6 HBu;have hI:=iq_0_0_0 q w w2 w4
 go_wp2_with (fail)
 clear qc tc uc;refine (now_any _ HP.out.bo HP.out.mem).mono ?_;rintro _ w5 ⟨rfl,hb⟩;have hf:=FarQ.of (q:=q) hb;replace HBt:=qB HBt hf;replace HBu:=qB HBu hf;replace HMx:=qM HMx hf;replace HF:=qF HF hf;have hs5:=hf.size;replace HP:=kP HP hb;clear hf hb;simp only [tkV];clear hI;have qc:=kcP HP;have tc:=kc6 HBt;have uc:=kc6 HBu;have hI:=iq_0_0_0 q w w2 w5
 go_wp2_with (fail)
 clear qc tc uc;generalize ee:World.setCell w5 _ _=w6_1;have hq1:=sizeS1 ee;replace HP:=zz (HP.out.setIE (k:=(j+1)) ee (by omega));replace HF:=zz (HF.out.setQE ee);replace HBt:=bF1 HBt ee;replace HBu:=bF1 HBu ee;replace HMx:=mS1 HMx ee;clear ee;generalize ee:World.alloc w6_1 _=w6;have hq2:=sizeA ee;replace HP:=pA HP ee;replace HF:=fA HF ee;replace HBt:=bA HBt ee;replace HBu:=bA HBu ee;replace HMx:=mA HMx ee;have HBv:=nB ee (w5.heap.size);clear ee
 have hsa6:w6.heap.size=w5.heap.size+1:=by omega
 clear hq1 hq2;clear hI;have qc:=kcP HP;have tc:=kc6 HBt;have uc:=kc6 HBu;have vc:=kc2 HBv;have hI:=iq_0_0_0_0 q w w2 w5 w6;have hZ:=iq_0_0_01 q w w2 w5;refine wp_region_held_drew (S:=fun w'=>Far (fun b=>b=q∨b=w.heap.size) (w6) w') (by kernel_rfl) (Far.of (below_drew _)) (fun hS0=>?_);refine takeA 0 (v:=?_) rfl ?_ ?_;rotate_left;· intro w hSw;replace uc:=Far.c6z uc hSw;replace vc:=Far.c2z vc hSw;go_simp;try rfl
 (try simp only [pu]);refine takeA 1 (v:=?_) rfl ?_ ?_;rotate_left;· intro w hSw;replace uc:=Far.c6z uc hSw;replace vc:=Far.c2z vc hSw;go_simp;try rfl
 (try simp only [pu]);refine takeA 4 (v:=?_) rfl ?_ ?_;rotate_left;· intro w hSw;replace uc:=Far.c6z uc hSw;replace vc:=Far.c2z vc hSw;go_simp;try rfl
 (try simp only [pu]);refine callA 2 rfl fun K hK=>?_;go_simp;refine ((H.or f (Nat.lt_succ_self f)) (j+1) deep _ _ hd hy HP.out.drew).mono ?_;rintro e wx1 ⟨rfl,hf,hbo⟩
 go_wp2_with (fail)
 exact ⟨rfl,rfl,FarB.out (HF.out.drew.farq hf),hbo⟩
theorem or_D {f i deep:Nat} {x:Ex} {j:Nat} (hx:readE ts f (.left 2) i deep=some (.ok x j)) (hk:isT ts j 6 wOr=true) {y:Ex} {k:Nat} (hy:readE ts f .or (j+1) deep=some (.ok y k)) (w:World) (hd:deep≤40) (H:AllR ts aL n cap q (f+1)) (hp:PS ts aL n cap q i (deep:Int) w):
  Calls Tryz.prog 136 #[.pointer (some ⟨q,0,none⟩)] w (Ans ts aL n cap q (.ok (.mk 5 wOr 0 [x,y] (nowT ts j).l (nowT ts j).c) k) deep w):=by
 have HP:=zz hp;have hq0:=hp.lt;have HF:=zz (FarB.refl q w.heap.size w);clear hp;go_enter Tryz.func136,Tryz.ntmps136
 go_wp2_with (fail)
 generalize ee:World.alloc w _=w1;have hsa1:=sizeA ee;replace HP:=pA HP ee;replace HF:=fA HF ee;have HBt:=nB ee (w.heap.size);clear ee;have qc:=kcP HP;have tc:=kc6 HBt;have hI:=iq_0_0 q w w1;have hZ:=iq_01 q w;clear qc tc;refine ((H.le f (Nat.lt_succ_self f)) 2 i deep _ _ (by omega) hd hx HP.out).mono ?_;rintro _ w2 ⟨ax,mx,cx,rfl,hf,hp,hm⟩;replace HBt:=qB HBt hf;replace HF:=qF HF hf;have hs2:=hf.size;replace HP:=zz hp;have HMx:=zz hm;clear hf hp hm;simp only [exV];clear hI hZ;have qc:=kcP HP;have tc:=kc6 HBt;have hI:=iq_0_0 q w w2
 go_wp2_with (fail)
 clear qc tc;generalize ee:World.alloc w2 _=w3;have hsa3:=sizeA ee;replace HP:=pA HP ee;replace HF:=fA HF ee;replace HBt:=bA HBt ee;replace HMx:=mA HMx ee;have HBu:=nB ee (w2.heap.size);clear ee;clear hI;have qc:=kcP HP;have tc:=kc6 HBt;have uc:=kc6 HBu;have hI:=iq_0_0_0 q w w2 w3;have hZ:=iq_0_01 q w w2;have hjl:j<ts.length:=isT_lt hk (by decide)
 have hov:(j:Int)+1≤9223372036854775807:=by have :=HP.out.len;omega
 clear hjl;clear qc tc uc;refine (is_any 6 wOr _ HP.out).mono ?_;rintro _ w4 ⟨rfl,hb⟩;have hf:=FarQ.of (q:=q) hb;replace HBt:=qB HBt hf;replace HBu:=qB HBu hf;replace HMx:=qM HMx hf;replace HF:=qF HF hf;have hs4:=hf.size;replace HP:=kP HP hb;clear hf hb;rw [hk];clear hI hZ;have qc:=kcP HP;have tc:=kc6 HBt;have uc:=kc6 HBu;have hI:=iq_0_0_0 q w w2 w4
 go_wp2_with (fail)
 clear qc tc uc;refine (now_any _ HP.out.bo HP.out.mem).mono ?_;rintro _ w5 ⟨rfl,hb⟩;have hf:=FarQ.of (q:=q) hb;replace HBt:=qB HBt hf;replace HBu:=qB HBu hf;replace HMx:=qM HMx hf;replace HF:=qF HF hf;have hs5:=hf.size;replace HP:=kP HP hb;clear hf hb;simp only [tkV];clear hI;have qc:=kcP HP;have tc:=kc6 HBt;have uc:=kc6 HBu;have hI:=iq_0_0_0 q w w2 w5
 go_wp2_with (fail)
 clear qc tc uc;generalize ee:World.setCell w5 _ _=w6_1;have hq1:=sizeS1 ee;replace HP:=zz (HP.out.setIE (k:=(j+1)) ee (by omega));replace HF:=zz (HF.out.setQE ee);replace HBt:=bF1 HBt ee;replace HBu:=bF1 HBu ee;replace HMx:=mS1 HMx ee;clear ee;generalize ee:World.alloc w6_1 _=w6;have hq2:=sizeA ee;replace HP:=pA HP ee;replace HF:=fA HF ee;replace HBt:=bA HBt ee;replace HBu:=bA HBu ee;replace HMx:=mA HMx ee;have HBv:=nB ee (w5.heap.size);clear ee
 have hsa6:w6.heap.size=w5.heap.size+1:=by omega
 clear hq1 hq2;clear hI;have qc:=kcP HP;have tc:=kc6 HBt;have uc:=kc6 HBu;have vc:=kc2 HBv;have hI:=iq_0_0_0_0 q w w2 w5 w6;have hZ:=iq_0_0_01 q w w2 w5;refine wp_region_held_drew (S:=fun w'=>Far (fun b=>b=q∨b=w.heap.size) (w6) w') (by kernel_rfl) (Far.of (below_drew _)) (fun hS0=>?_);refine takeA 0 (v:=?_) rfl ?_ ?_;rotate_left;· intro w hSw;replace uc:=Far.c6z uc hSw;replace vc:=Far.c2z vc hSw;go_simp;try rfl
 (try simp only [pu]);refine takeA 1 (v:=?_) rfl ?_ ?_;rotate_left;· intro w hSw;replace uc:=Far.c6z uc hSw;replace vc:=Far.c2z vc hSw;go_simp;try rfl
 (try simp only [pu]);refine takeA 4 (v:=?_) rfl ?_ ?_;rotate_left;· intro w hSw;replace uc:=Far.c6z uc hSw;replace vc:=Far.c2z vc hSw;go_simp;try rfl
 (try simp only [pu]);refine callA 2 rfl fun K hK=>?_;go_simp;refine ((H.or f (Nat.lt_succ_self f)) (j+1) deep _ _ hd hy HP.out.drew).mono ?_;rintro e wx1 ⟨ay,my,cy,rfl,hf,hp,hm⟩;have hswx1:w6.heap.size≤wx1.heap.size:=hf.size;replace hf:FarQ q w6 wx1:=(FarQ.of (below_drew _)).trans hf;replace HBt:=qB HBt hf;replace HBu:=qB HBu hf;replace HBv:=qB HBv hf;replace HMx:=qM HMx hf;replace HF:=qF HF hf;replace HP:=zz hp;have HMy:Hid (Mem (Nw 0 w6.heap.size _) _ _ _):=zz hm;clear hp hm;simp only [exV];go_simp;refine hK.out _ _ ((Far.mono hf (fun b e=>.inl e))) (fun hS1=>?_);clear hK K;refine callA 3 rfl fun K hK=>?_;go_simp;refine hK.out _ _ (Far.trans hS1 (Far.of (below_new _ _))) (fun hS2=>?_);clear hK K;refine takeA 5 (v:=?_) rfl ?_ ?_;rotate_left;· intro w hSw;replace uc:=Far.c6z uc hSw;replace vc:=Far.c2z vc hSw;go_simp;try rfl
 (try simp only [pu]);refine callA 6 rfl fun K hK=>?_;clear qc tc uc vc;clear hI hZ;have qc:=kcP HP;have tc:=kc6 HBt;have uc:=kc6 HBu;have vc:=kc2 HBv;have hI:=iq_0_0_0_0 q w w2 w5 wx1;go_simp;refine hK.out _ _ ?_ (fun hS3=>?_);· exact (by repeat' (first | with_reducible exact hS1 | with_reducible refine Far.setCell ?_ (.inr rfl) _ | with_reducible refine Far.trans ?_ (Far.of (below_new _ _))))
 clear hK K;refine wpAnyH_done (by kernel_rfl) ?_ _;clear qc tc uc vc;generalize ee:World.setCell _ ⟨w.heap.size,5,none⟩ _=w7_1;have hq1:=sizeS6 ee;replace HP:=pO6 HP ee;replace HF:=fN6 HF ee;replace HBt:=bS6 HBt ee;replace HBu:=bF6 HBu ee;replace HBv:=bF6 HBv ee;replace HMx:=mS6 HMx ee;replace HMy:=mS6 HMy ee;clear ee;generalize ee:World.alloc w7_1 _=w7;have hq2:=sizeA ee;have HNEW:=zz (builtE2E (base:=w1.heap.size) (memNw HMx.out (by omega)) (memNw HMy.out (by omega)) ee (b:=wx1.heap.size) (by omega) (by omega));replace HNEW:=zz HNEW.out.mem;replace HP:=pA HP ee;replace HF:=fA HF ee;replace HBt:=bA HBt ee;replace HBu:=bA HBu ee;replace HBv:=bA HBv ee;replace HMx:=mA HMx ee;replace HMy:=mA HMy ee;have HMz:=HNEW;clear HNEW;clear ee
 have hsa7:w7.heap.size=wx1.heap.size+1:=by omega
 clear hq1 hq2;clear hI
 go_wp2_with (fail)
 have fc:=kc6 HBt;refine bodyPost_ret (v:=.agg #[.int .i64 5,.string ⟨#[63]⟩,.int .i64 0,.slice (some ⟨wx1.heap.size,0,none⟩) 2 2,.int .i64 (nowT ts j).l,.int .i64 (nowT ts j).c]) (by clear HP HF HBt HBu HBv HMx HMy HMz;simp [results,Tryz.results136,go_sem,fc]) rfl ?_;exact ⟨_,_,_,rfl,HF.out.out,HP.out,memNw HMz.out (by omega)⟩
theorem or_reads (F:Nat) (H:AllR ts aL n cap q F):Reads ts aL n cap q 136 .or F:=by
 intro i deep r w hd hr hp
 cases F with
 | zero=>rw [readE] at hr;cases hr
 | succ f=>
  rw [readE] at hr
  cases hx:readE ts f (.left 2) i deep with
  | none=>rw [hx] at hr;cases hr
  | some rx=>
   rw [hx] at hr
   cases rx with
   | bad l c=>simp only [andT] at hr;cases hr;exact or_A hx w hd H hp
   | ok x j=>
    simp only [andT] at hr
    cases hk:isT ts j 6 wOr with
    | false=>rw [hk] at hr;cases hr;exact or_B hx hk w hd H hp
    | true=>
     rw [hk] at hr;simp only [if_true] at hr
     cases hy:readE ts f .or (j+1) deep with
     | none=>rw [hy] at hr;cases hr
     | some ry=>
      rw [hy] at hr
      cases ry with
      | bad l c=>cases hr;exact or_C hx hk hy w hd H hp
      | ok y k=>cases hr;exact or_D hx hk hy w hd H hp
end
end
section
open Go.RowKit
theorem str_ne {a b:ByteArray} (h: ¬a=b):(a.toList==b.toList)=false:=by
  rw [toList_beq];exact beq_eq_false_iff_ne.2 h
theorem binds_any (s:ByteArray) (w:World):
    Calls Tryz.prog 110 #[.string s] w fun e w'=>e=.returned (.tuple #[.int .i64 (bindsE s:Nat),.bool (decide (0<bindsE s))])∧w=w':=by
  go_enter Tryz.func110,Tryz.ntmps110
  by_cases h0:s=⟨#[63]⟩
  · subst h0
    go_wp2
    refine bodyPost_ret (results_tmp2 rfl _ _ _) rfl ?_;exact ⟨rfl,rfl⟩
  have e0:(s.toList==[63])=false:=by have h:=str_ne h0;simpa using h
  by_cases h1:s=⟨#[61,61]⟩
  · subst h1
    go_wp2
    refine bodyPost_ret (results_tmp2 rfl _ _ _) rfl ?_;exact ⟨rfl,rfl⟩
  have e1:(s.toList==[61,61])=false:=by have h:=str_ne h1;simpa using h
  by_cases h2:s=⟨#[60]⟩
  · subst h2
    go_wp2
    refine bodyPost_ret (results_tmp2 rfl _ _ _) rfl ?_;exact ⟨rfl,rfl⟩
  have e2:(s.toList==[60])=false:=by have h:=str_ne h2;simpa using h
  by_cases h3:s=⟨#[43]⟩
  · subst h3
    go_wp2
    refine bodyPost_ret (results_tmp2 rfl _ _ _) rfl ?_;exact ⟨rfl,rfl⟩
  have e3:(s.toList==[43])=false:=by have h:=str_ne h3;simpa using h
  by_cases h4:s=⟨#[45]⟩
  · subst h4
    go_wp2
    refine bodyPost_ret (results_tmp2 rfl _ _ _) rfl ?_;exact ⟨rfl,rfl⟩
  have e4:(s.toList==[45])=false:=by have h:=str_ne h4;simpa using h
  by_cases h5:s=⟨#[42]⟩
  · subst h5
    go_wp2
    refine bodyPost_ret (results_tmp2 rfl _ _ _) rfl ?_;exact ⟨rfl,rfl⟩
  have e5:(s.toList==[42])=false:=by have h:=str_ne h5;simpa using h
  have hb:bindsE s=0:=by
    unfold bindsE wOr;rw [if_neg h0,if_neg (fun h=>h.elim h1 h2),if_neg (fun h=>h.elim h3 h4),if_neg h5]
  rw [hb]
  go_wp2
  refine bodyPost_ret (results_tmp2 rfl _ _ _) rfl ?_;exact ⟨rfl,rfl⟩
theorem starts_any (t:Tk) (w:World):
    Calls Tryz.prog 153 #[tkV t] w fun e w'=>e=.returned (.bool (startsE t))∧Below w.heap.size w w':=by
  simp only [tkV];go_enter Tryz.func153,Tryz.ntmps153
  by_cases h2:t.k=2
  · have e2:(t.k==2)=true:=by simp [h2]
    go_wp2
    refine bodyPost_ret (results_tmp rfl _ _ _) rfl ?_;exact ⟨congrArg (fun b=>Ending.returned (.bool b)) (by unfold startsE;simp [h2]),below_new _ _⟩
  have e2:(t.k==2)=false:=by simp [h2]
  by_cases h3:t.k=3
  · have e3:(t.k==3)=true:=by simp [h3]
    go_wp2
    refine bodyPost_ret (results_tmp rfl _ _ _) rfl ?_;exact ⟨congrArg (fun b=>Ending.returned (.bool b)) (by unfold startsE;simp [h3]),below_new _ _⟩
  have e3:(t.k==3)=false:=by simp [h3]
  by_cases h4:t.k=4
  · have e4:(t.k==4)=true:=by simp [h4]
    go_wp2
    refine bodyPost_ret (results_tmp rfl _ _ _) rfl ?_;exact ⟨congrArg (fun b=>Ending.returned (.bool b)) (by unfold startsE;simp [h4]),below_new _ _⟩
  have e4:(t.k==4)=false:=by simp [h4]
  by_cases h6:t.k=6
  · by_cases hs:t.s=⟨#[40]⟩
    · have es:(t.s.toList==[40])=true:=by rw [hs];simp
      go_wp2
      refine bodyPost_ret (results_tmp rfl _ _ _) rfl ?_;exact ⟨congrArg (fun b=>Ending.returned (.bool b)) (by unfold startsE;simp [h6,hs,wOpen]),below_new _ _⟩
    · have es:(t.s.toList==[40])=false:=by have h:=str_ne hs;simpa using h
      go_wp2
      refine bodyPost_ret (results_tmp rfl _ _ _) rfl ?_;exact ⟨congrArg (fun b=>Ending.returned (.bool b)) (by unfold startsE;simp [h6,hs,wOpen]),below_new _ _⟩
  · have e6:(t.k==6)=false:=by simp [h6]
    go_wp2
    refine bodyPost_ret (results_tmp rfl _ _ _) rfl ?_;exact ⟨congrArg (fun b=>Ending.returned (.bool b)) (by unfold startsE;simp [h2,h3,h4,h6]),below_new _ _⟩
end
section
open Go.RowKit
section
variable {ts:List Tk} {aL:Option Addr} {n cap q:Nat}
theorem left_succ {f rank i deep:Nat} {r:Rd1} (hrk:rank≤5) (hr:readE ts (f+1) (.left rank) i deep=some r) (w:World) (hd:deep≤40) (H:AllR ts aL n cap q (f+1)) (hp:PS ts aL n cap q i (deep:Int) w):
  Calls Tryz.prog 147 #[.pointer (some ⟨q,0,none⟩),.int .i64 (rank:Int)] w (Ans ts aL n cap q r deep w):=by
 have HP:=zz hp;have hq0:=hp.lt;have HF:=zz (FarB.refl q w.heap.size w);clear hp;rw [readE] at hr
 have hov:(rank:Int)+1≤9223372036854775807:=by omega
 go_enter Tryz.func147,Tryz.ntmps147
 by_cases h4:4<rank
 ·
  rw [if_pos h4] at hr
  have hr4:((4:Int)<(rank:Int))=True:=by simp;omega
  go_wp2_with (fail)
  generalize ee:World.alloc w _=w1;have hsa1:=sizeA ee;replace HP:=pA HP ee;replace HF:=fA HF ee;have HBr:=nB ee (w.heap.size);clear ee;have qc:=kcP HP;have rc:=kc6 HBr;have hI:=iq_0_0 q w w1;have hZ:=iq_01 q w
  cases r with
  | bad l_ c_=>
   clear qc rc;refine ((H.ap f (by omega)) i deep _ _ hd hr HP.out).mono ?_;rintro _ w2 ⟨rfl,hf,hbo⟩
   go_wp2_with (fail)
   exact ⟨rfl,rfl,FarB.out (HF.out.farq hf),hbo⟩
  | ok x j=>
   clear qc rc;refine ((H.ap f (by omega)) i deep _ _ hd hr HP.out).mono ?_;rintro _ w2 ⟨ax,mx,cx,rfl,hf,hp,hm⟩;replace HBr:=qB HBr hf;replace HF:=qF HF hf;have hs2:=hf.size;replace HP:=zz hp;have HMx:=zz hm;clear hf hp hm;simp only [exV];clear hI hZ;have qc:=kcP HP;have rc:=kc6 HBr;have hI:=iq_0_0 q w w2
   go_wp2_with (fail)
   clear qc rc;generalize ee:World.setCell _ ⟨w.heap.size,5,none⟩ _=w3;have hsz3:=sizeS6 ee;replace HP:=pO6 HP ee;replace HF:=fN6 HF ee;replace HBr:=bS6 HBr ee;replace HMx:=mS6 HMx ee;clear ee;clear hI;have fc:=kc6 HBr;refine bodyPost_ret (v:=.agg #[.int .i64 x.kind,.string x.name,.int .i64 x.n,.slice ax mx cx,.int .i64 x.line,.int .i64 x.col]) (by clear HP HF HBr HMx;simp [results,Tryz.results147,go_sem,fc]) rfl ?_;exact ⟨_,_,_,rfl,HF.out.out,HP.out,memNw HMx.out (by omega)⟩
 rw [if_neg h4] at hr
 have hg1:f<f+1:=by omega
 have hr1:rank+1≤5:=by omega
 have hr4:((4:Int)<(rank:Int))=False:=by simp;omega
 go_wp2_with (fail)
 generalize ee:World.alloc w _=w1;have hsa1:=sizeA ee;replace HP:=pA HP ee;replace HF:=fA HF ee;have HBr:=nB ee (w.heap.size);clear ee;have qc:=kcP HP;have rc:=kc6 HBr;have hI:=iq_0_0 q w w1;have hZ:=iq_01 q w
 rcases hx:readE ts f (.left (rank+1)) i deep with _ | ⟨x,j⟩ | ⟨l_,c_⟩
 · (rw [hx] at hr;cases hr)
 rotate_left
 ·
  rw [hx] at hr
  first | simp only at hr | simp only [andT] at hr
  cases hr;clear qc rc;refine ((H.le f hg1) (rank+1) i deep _ _ hr1 hd hx HP.out).mono ?_;rintro _ w2 ⟨rfl,hf,hbo⟩
  go_wp2_with (fail)
  exact ⟨rfl,rfl,FarB.out (HF.out.farq hf),hbo⟩
 rw [hx] at hr
 first | simp only at hr | simp only [andT] at hr
 clear qc rc;refine ((H.le f hg1) (rank+1) i deep _ _ hr1 hd hx HP.out).mono ?_;rintro _ w2 ⟨ax,mx,cx,rfl,hf,hp,hm⟩;replace HBr:=qB HBr hf;replace HF:=qF HF hf;have hs2:=hf.size;replace HP:=zz hp;have HMx:=zz hm;clear hf hp hm;simp only [exV];have hfw:i<j∧j≤ts.length:=readE_fwd f (.left (rank+1)) i deep x j hx;clear hI hZ;have qc:=kcP HP;have rc:=kc6 HBr;have hI:=iq_0_0 q w w2
 go_wp2_with (fail)
 have HXx:=zz (memX_of (base:=w1.heap.size) (g:=w2.heap.size) HMx.out (by omega) (by omega));clear HMx;clear qc rc;generalize ee:World.alloc w2 _=w3;have hsa3:=sizeA ee;replace HP:=pA HP ee;replace HF:=fA HF ee;replace HBr:=bA HBr ee;replace HXx:=xA HXx ee;have HBu:=nB ee (w2.heap.size);clear ee;clear hI
 go_loopw [] (fun wr=>∃ (e:Ex) (jj g:Nat) (ae:Option Addr) (me ce:Nat),readE ts g (.more rank e) jj deep=some r∧g≤f∧Hid (PS ts aL n cap q jj (deep:Int) wr)∧Hid (FarB q w.heap.size w wr)∧Hid (Bo wr w.heap.size 60 #[.int .i64 0,.string ⟨#[]⟩,.int .i64 0,.slice none 0 0,.int .i64 0,.int .i64 0])∧Hid (Bo wr w2.heap.size 60 #[.int .i64 e.kind,.string e.name,.int .i64 e.n,.slice ae me ce,.int .i64 e.line,.int .i64 e.col])∧Hid (Mem (NwX w1.heap.size w2.heap.size wr.heap.size) wr (.s 6 (Ex.rows e.args)) (.slice ae me ce))∧jj≤ts.length∧w2.heap.size<wr.heap.size) (fun wr=>ts.length - posQ q wr)
 case atStart=>exact ⟨x,j,f,ax,mx,cx,hr,Nat.le_refl _,HP,HF,HBr,HBu,HXx,hfw.2,by omega⟩
 case round=>
  clear HP HF HBr HBu HXx hr;obtain ⟨e,jj,g,ae,me,ce,hr,hg,HP,HF,HBr,HBu,HXe,hl2,hws⟩:=hrel;have HPOS:Hid (posQ q wr=jj):=zz HP.out.pos;have qc:=kcP HP;have rc:=kc6 HBr;have uc:=kc6 HBu;have hI:=iq_0_0_0 q w w2 wr
  go_wp2_with (fail)
  clear qc rc uc;refine (now_any _ HP.out.bo HP.out.mem).mono ?_;rintro _ w4 ⟨rfl,hb⟩;have hf:=FarQ.of (q:=q) hb;replace HBr:=qB HBr hf;replace HBu:=qB HBu hf;replace HXe:=qX HXe hf;replace HF:=qF HF hf;have hs4:=hf.size;replace HP:=kP HP hb;clear hf hb;simp only [tkV]
  cases g with
  | zero=>rw [readE] at hr;cases hr
  | succ g=>
   rw [readE] at hr;clear hI;have qc:=kcP HP;have rc:=kc6 HBr;have uc:=kc6 HBu;have hI:=iq_0_0_0 q w w2 w4
   go_wp2_with (fail)
   clear qc rc uc;generalize ee:World.alloc w4 _=w5;have hsa5:=sizeA ee;replace HP:=pA HP ee;replace HF:=fA HF ee;replace HBr:=bA HBr ee;replace HBu:=bA HBu ee;replace HXe:=xA HXe ee;have HBt:=nB ee (w4.heap.size);clear ee;clear hI;have qc:=kcP HP;have rc:=kc6 HBr;have uc:=kc6 HBu;have tc:=kc5 HBt;have hI:=iq_0_0_0_0 q w w2 w4 w5;have hZ:=iq_0_0_01 q w w2 w4;refine (binds_any (nowT ts jj).s _).mono ?_;rintro _ _ ⟨rfl,rfl⟩
   by_cases h6:(nowT ts jj).k=6
   rotate_left
   ·
    have e6:((nowT ts jj).k != 6)=true:=by simp [h6]
    rw [if_neg (fun h=>h6 h.1)] at hr;have hr:some (Rd1.ok e jj)=some r:=hr;cases hr
    go_wp2_with (fail)
    clear qc rc uc tc;generalize ee:World.setCell _ ⟨w.heap.size,5,none⟩ _=w6;have hsz6:=sizeS6 ee;replace HP:=pO6 HP ee;replace HF:=fN6 HF ee;replace HBr:=bS6 HBr ee;replace HBu:=bF6 HBu ee;replace HBt:=bF6 HBt ee;replace HXe:=xS6 HXe ee;clear ee;clear hI hZ;have fc:=kc6 HBr;refine bodyPost_ret (v:=.agg #[.int .i64 e.kind,.string e.name,.int .i64 e.n,.slice ae me ce,.int .i64 e.line,.int .i64 e.col]) (by clear HP HF HBr HBu HBt HXe;simp [results,Tryz.results147,go_sem,fc]) rfl ?_;exact ⟨_,_,_,rfl,HF.out.out,HP.out,memNw (memX_nw HXe.out) (by omega)⟩
   have e6:((nowT ts jj).k != 6)=false:=by simp [h6]
   by_cases hb:bindsE (nowT ts jj).s=rank
   rotate_left
   ·
    have eb:(((bindsE (nowT ts jj).s:Nat):Int) != (rank:Int))=true:=by simp;omega
    rw [if_neg (fun h=>hb h.2)] at hr;have hr:some (Rd1.ok e jj)=some r:=hr;cases hr
    go_wp2_with (fail)
    clear qc rc uc tc;generalize ee:World.setCell _ ⟨w.heap.size,5,none⟩ _=w6;have hsz6:=sizeS6 ee;replace HP:=pO6 HP ee;replace HF:=fN6 HF ee;replace HBr:=bS6 HBr ee;replace HBu:=bF6 HBu ee;replace HBt:=bF6 HBt ee;replace HXe:=xS6 HXe ee;clear ee;clear hI hZ;have fc:=kc6 HBr;refine bodyPost_ret (v:=.agg #[.int .i64 e.kind,.string e.name,.int .i64 e.n,.slice ae me ce,.int .i64 e.line,.int .i64 e.col]) (by clear HP HF HBr HBu HBt HXe;simp [results,Tryz.results147,go_sem,fc]) rfl ?_;exact ⟨_,_,_,rfl,HF.out.out,HP.out,memNw (memX_nw HXe.out) (by omega)⟩
   have eb:(((bindsE (nowT ts jj).s:Nat):Int) != (rank:Int))=false:=by simp;omega
   rw [if_pos ⟨h6,hb⟩] at hr
   have hg1:g<f+1:=by omega
   have hjl:jj<ts.length:=now_lt (by rw [h6];decide)
   have hoj:(jj:Int)+1≤9223372036854775807:=by have :=HP.out.len;omega
   go_wp2_with (fail)
   clear qc rc uc tc;generalize ee:World.setCell w5 _ _=w6;have hsz6:=sizeS1 ee;replace HP:=zz (HP.out.setIE (k:=(jj+1)) ee (by omega));replace HF:=zz (HF.out.setQE ee);replace HBr:=bF1 HBr ee;replace HBu:=bF1 HBu ee;replace HBt:=bF1 HBt ee;replace HXe:=xS1 HXe ee;clear ee;clear hI hZ;have qc:=kcP HP;have rc:=kc6 HBr;have uc:=kc6 HBu;have tc:=kc5 HBt;have hI:=iq_0_0_0_0 q w w2 w4 w6;have hZ:=iq_0_0_01 q w w2 w4;refine wp_region_held_drew (S:=fun w'=>Far (fun b=>b=q∨b=w2.heap.size) (w6) w') (by kernel_rfl) (Far.of (below_drew _)) (fun hS10=>?_);refine takeA 0 (v:=?_) rfl ?_ ?_;rotate_left;· intro w hSw;replace tc:=Far.c5z tc hSw;go_simp;try rfl
   (try simp only [pu]);refine takeA 1 (v:=?_) rfl ?_ ?_;rotate_left;· intro w hSw;replace tc:=Far.c5z tc hSw;go_simp;try rfl
   (try simp only [pu]);refine takeA 3 (v:=?_) rfl ?_ ?_;rotate_left;· intro w hSw;replace tc:=Far.c5z tc hSw;go_simp;try rfl
   (try simp only [pu]);refine takeA 4 (v:=?_) rfl ?_ ?_;rotate_left;· intro w hSw;replace tc:=Far.c5z tc hSw;go_simp;try rfl
   (try simp only [pu]);refine takeA 5 (v:=?_) rfl ?_ ?_;rotate_left;· intro w hSw;replace tc:=Far.c5z tc hSw;go_simp;try rfl
   (try simp only [pu]);refine takeA 8 (v:=?_) rfl ?_ ?_;rotate_left;· intro w hSw;replace tc:=Far.c5z tc hSw;go_simp;try rfl
   (try simp only [pu]);refine takeA 9 (v:=?_) rfl ?_ ?_;rotate_left;· intro w hSw;replace tc:=Far.c5z tc hSw;go_simp;try rfl
   (try simp only [pu])
   have hwr:IntKind.i64.wrap ((rank:Int)+1)=((rank+1:Nat):Int):=by rw [IntKind.wrap_i64];omega
   simp only [hwr]
   rcases hy:readE ts g (.left (rank+1)) (jj+1) deep with _ | ⟨y,k⟩ | ⟨l_,c_⟩
   · (rw [hy] at hr;cases hr)
   rotate_left
   ·
    rw [hy] at hr
    first | simp only at hr | simp only [andT] at hr
    cases hr;refine twoL 2 6 rfl rfl (by kernel_rfl) (by rfl) (by rfl) (fun K hK=>?_) (fun K hK=>?_)
    ·
     go_simp;refine hK.out _ _ (hS10) (fun hS11=>?_);clear hK K;refine callA 6 rfl fun K hK=>?_;go_simp;refine ((H.le g hg1) (rank+1) (jj+1) deep _ _ hr1 hd hy HP.out.drew).mono ?_;rintro e wx19 ⟨rfl,hf,hbo⟩
     go_wp2_with (fail)
     exact ⟨rfl,rfl,FarB.out (HF.out.drew.farq hf),hbo⟩
    ·
     go_simp;refine ((H.le g hg1) (rank+1) (jj+1) deep _ _ hr1 hd hy HP.out.drew).mono ?_;rintro e wx19 ⟨rfl,hf,hbo⟩
     go_wp2_with (fail)
     exact ⟨rfl,rfl,FarB.out (HF.out.drew.farq hf),hbo⟩
   rw [hy] at hr
   first | simp only at hr | simp only [andT] at hr
   have hfk:jj+1<k∧k≤ts.length:=readE_fwd g (.left (rank+1)) (jj+1) deep y k hy;refine twoL 2 6 rfl rfl (by kernel_rfl) (by rfl) (by rfl) (fun K hK=>?_) (fun K hK=>?_)
   ·
    go_simp;refine hK.out _ _ (hS10) (fun hS11=>?_);clear hK K;refine callA 6 rfl fun K hK=>?_;go_simp;refine ((H.le g hg1) (rank+1) (jj+1) deep _ _ hr1 hd hy HP.out.drew).mono ?_;rintro e wx12 ⟨ay,my,cy,rfl,hf,hp,hm⟩;have hswx12:w6.heap.size≤wx12.heap.size:=hf.size;replace hf:FarQ q w6 wx12:=(FarQ.of (below_drew _)).trans hf;replace HBr:=qB HBr hf;replace HBu:=qB HBu hf;replace HBt:=qB HBt hf;replace HXe:=qX HXe hf;replace HF:=qF HF hf;replace HP:=zz hp;have HMy:Hid (Mem (Nw 0 w6.heap.size _) _ _ _):=zz hm;clear hp hm;simp only [exV];go_simp;refine hK.out _ _ ((Far.mono hf (fun b e=>.inl e))) (fun hS12=>?_);clear hK K;refine callA 7 rfl fun K hK=>?_;go_simp;refine hK.out _ _ (Far.trans hS12 (Far.of (below_new _ _))) (fun hS13=>?_);clear hK K;refine takeA 10 (v:=?_) rfl ?_ ?_;rotate_left;· intros;go_simp;try rfl
    (try simp only [pu]);refine callA 11 rfl fun K hK=>?_;clear qc rc uc tc;clear hI hZ;have qc:=kcP HP;have rc:=kc6 HBr;have uc:=kc6 HBu;have tc:=kc5 HBt;have hI:=iq_0_0_0_0 q w w2 w4 wx12;go_simp;refine hK.out _ _ ?_ (fun hS14=>?_);· exact (by repeat' (first | with_reducible exact hS12 | with_reducible refine Far.setCell ?_ (.inr rfl) _ | with_reducible refine Far.trans ?_ (Far.of (below_new _ _))))
    clear hK K;refine wpAnyH_done (by kernel_rfl) ?_ _;have HXy:=zz (memX_of (base:=w1.heap.size) (g:=w2.heap.size) HMy.out (by omega) (by omega));clear HMy;clear qc rc uc tc;generalize ee:World.setCell _ ⟨w2.heap.size,5,none⟩ _=w7_1;have hq1:=sizeS6 ee;replace HP:=pO6 HP ee;replace HF:=fN6 HF ee;replace HBr:=bF6 HBr ee;replace HBu:=bS6 HBu ee;replace HBt:=bF6 HBt ee;replace HXe:=xS6 HXe ee;replace HXy:=xS6 HXy ee;clear ee;generalize ee:World.alloc w7_1 _=w7;have hq2:=sizeA ee;have HNEW:=zz (builtX2E (base:=w1.heap.size) (k:=w2.heap.size) HXe.out HXy.out ee (b:=wx12.heap.size) (by omega) (by omega) (by omega));replace HP:=pA HP ee;replace HF:=fA HF ee;replace HBr:=bA HBr ee;replace HBu:=bA HBu ee;replace HBt:=bA HBt ee;replace HXe:=xA HXe ee;replace HXy:=xA HXy ee;have HXz:=HNEW;clear HNEW;clear ee
    have hsa7:w7.heap.size=wx12.heap.size+1:=by omega
    clear hq1 hq2;clear hI;have qc:=kcP HP;have rc:=kc6 HBr;have uc:=kc6 HBu;have tc:=kc5 HBt;have hI:=iq_0_0_0_0 q w w2 w4 w7;have hZ:=iq_0_0_0_1 q w w2 w4 wx12
    by_cases h2:rank=2
    rotate_left
    ·
     rw [if_neg h2] at hr
     have e2:((rank:Int)==2)=false:=by simp;omega
     go_wp2_with (fail)
     clear qc rc uc tc;have hpk:posQ q w7=k:=HP.out.pos
     go_roundw
     case rel=>exact ⟨_,k,g,_,_,_,hr,by omega,HP,HF,HBr,HBu,HXz,hfk.2,by omega⟩
     case measure=>rw [hpk,HPOS.out];omega
    rw [if_pos h2] at hr;cases hr
    have e2:((rank:Int)==2)=true:=by simp;omega
    go_wp2_with (fail)
    clear qc rc uc tc;generalize ee:World.setCell _ ⟨w.heap.size,5,none⟩ _=w8;have hsz8:=sizeS6 ee;replace HP:=pO6 HP ee;replace HF:=fN6 HF ee;replace HBr:=bS6 HBr ee;replace HBu:=bF6 HBu ee;replace HBt:=bF6 HBt ee;replace HXe:=xS6 HXe ee;replace HXy:=xS6 HXy ee;replace HXz:=xS6 HXz ee;clear ee;clear hI hZ;have fc:=kc6 HBr;refine bodyPost_ret (v:=.agg #[.int .i64 5,.string (nowT ts jj).s,.int .i64 0,.slice (some ⟨wx12.heap.size,0,none⟩) 2 2,.int .i64 (nowT ts jj).l,.int .i64 (nowT ts jj).c]) (by clear HP HF HBr HBu HBt HXe HXy HXz;simp [results,Tryz.results147,go_sem,fc]) rfl ?_;exact ⟨_,_,_,rfl,HF.out.out,HP.out,memNw (memX_nw HXz.out) (by omega)⟩
   ·
    go_simp;refine ((H.le g hg1) (rank+1) (jj+1) deep _ _ hr1 hd hy HP.out.drew).mono ?_;rintro e wx11 ⟨ay,my,cy,rfl,hf,hp,hm⟩;have hswx11:w6.heap.size≤wx11.heap.size:=hf.size;replace hf:FarQ q w6 wx11:=(FarQ.of (below_drew _)).trans hf;replace HBr:=qB HBr hf;replace HBu:=qB HBu hf;replace HBt:=qB HBt hf;replace HXe:=qX HXe hf;replace HF:=qF HF hf;replace HP:=zz hp;have HMy:Hid (Mem (Nw 0 w6.heap.size _) _ _ _):=zz hm;clear hp hm;simp only [exV];go_simp;refine hK.out _ _ ((Far.mono hf (fun b e=>.inl e))) (fun hS11=>?_);clear hK K;refine callA 2 rfl fun K hK=>?_;clear qc rc uc tc;clear hI hZ;have qc:=kcP HP;have rc:=kc6 HBr;have uc:=kc6 HBu;have tc:=kc5 HBt;have hI:=iq_0_0_0_0 q w w2 w4 wx11;go_simp;refine hK.out _ _ (hS11) (fun hS12=>?_);clear hK K;refine callA 7 rfl fun K hK=>?_;go_simp;refine hK.out _ _ (Far.trans hS12 (Far.of (below_new _ _))) (fun hS13=>?_);clear hK K;refine takeA 10 (v:=?_) rfl ?_ ?_;rotate_left;· intros;go_simp;try rfl
    (try simp only [pu]);refine callA 11 rfl fun K hK=>?_;clear qc rc uc tc;clear hI;have qc:=kcP HP;have rc:=kc6 HBr;have uc:=kc6 HBu;have tc:=kc5 HBt;have hI:=iq_0_0_0_0 q w w2 w4 wx11;go_simp;refine hK.out _ _ ?_ (fun hS14=>?_);· exact (by repeat' (first | with_reducible exact hS12 | with_reducible refine Far.setCell ?_ (.inr rfl) _ | with_reducible refine Far.trans ?_ (Far.of (below_new _ _))))
    clear hK K;refine wpAnyH_done (by kernel_rfl) ?_ _;have HXy:=zz (memX_of (base:=w1.heap.size) (g:=w2.heap.size) HMy.out (by omega) (by omega));clear HMy;clear qc rc uc tc;generalize ee:World.setCell _ ⟨w2.heap.size,5,none⟩ _=w7_1;have hq1:=sizeS6 ee;replace HP:=pO6 HP ee;replace HF:=fN6 HF ee;replace HBr:=bF6 HBr ee;replace HBu:=bS6 HBu ee;replace HBt:=bF6 HBt ee;replace HXe:=xS6 HXe ee;replace HXy:=xS6 HXy ee;clear ee;generalize ee:World.alloc w7_1 _=w7;have hq2:=sizeA ee;have HNEW:=zz (builtX2E (base:=w1.heap.size) (k:=w2.heap.size) HXe.out HXy.out ee (b:=wx11.heap.size) (by omega) (by omega) (by omega));replace HP:=pA HP ee;replace HF:=fA HF ee;replace HBr:=bA HBr ee;replace HBu:=bA HBu ee;replace HBt:=bA HBt ee;replace HXe:=xA HXe ee;replace HXy:=xA HXy ee;have HXz:=HNEW;clear HNEW;clear ee
    have hsa7:w7.heap.size=wx11.heap.size+1:=by omega
    clear hq1 hq2;clear hI;have qc:=kcP HP;have rc:=kc6 HBr;have uc:=kc6 HBu;have tc:=kc5 HBt;have hI:=iq_0_0_0_0 q w w2 w4 w7;have hZ:=iq_0_0_0_1 q w w2 w4 wx11
    by_cases h2:rank=2
    rotate_left
    ·
     rw [if_neg h2] at hr
     have e2:((rank:Int)==2)=false:=by simp;omega
     go_wp2_with (fail)
     clear qc rc uc tc;have hpk:posQ q w7=k:=HP.out.pos
     go_roundw
     case rel=>exact ⟨_,k,g,_,_,_,hr,by omega,HP,HF,HBr,HBu,HXz,hfk.2,by omega⟩
     case measure=>rw [hpk,HPOS.out];omega
    rw [if_pos h2] at hr;cases hr
    have e2:((rank:Int)==2)=true:=by simp;omega
    go_wp2_with (fail)
    clear qc rc uc tc;generalize ee:World.setCell _ ⟨w.heap.size,5,none⟩ _=w8;have hsz8:=sizeS6 ee;replace HP:=pO6 HP ee;replace HF:=fN6 HF ee;replace HBr:=bS6 HBr ee;replace HBu:=bF6 HBu ee;replace HBt:=bF6 HBt ee;replace HXe:=xS6 HXe ee;replace HXy:=xS6 HXy ee;replace HXz:=xS6 HXz ee;clear ee;clear hI hZ;have fc:=kc6 HBr;refine bodyPost_ret (v:=.agg #[.int .i64 5,.string (nowT ts jj).s,.int .i64 0,.slice (some ⟨wx11.heap.size,0,none⟩) 2 2,.int .i64 (nowT ts jj).l,.int .i64 (nowT ts jj).c]) (by clear HP HF HBr HBu HBt HXe HXy HXz;simp [results,Tryz.results147,go_sem,fc]) rfl ?_;exact ⟨_,_,_,rfl,HF.out.out,HP.out,memNw (memX_nw HXz.out) (by omega)⟩
theorem left_reads (F:Nat) (H:AllR ts aL n cap q F):ReadsL ts aL n cap q F:=by
 intro rank i deep r w hrk hd hr hp
 cases F with
 | zero=>rw [readE] at hr;cases hr
 | succ f=>exact left_succ hrk hr w hd H hp
end
end
section
open Go.RowKit
section
variable {ts:List Tk} {aL:Option Addr} {n cap q:Nat}
theorem app_reads (f:Nat) (Ht:∀ g,g<f+1→Reads ts aL n cap q 152 .atom g):ReadsA ts aL n cap q f:=by
 intro i deep r w hd hr hp;have HP:=zz hp;have hq0:=hp.lt;have HF:=zz (FarB.refl q w.heap.size w);clear hp;go_enter Tryz.func151,Tryz.ntmps151
 go_wp2_with (fail)
 generalize ee:World.alloc w _=w1;have hsa1:=sizeA ee;replace HP:=pA HP ee;replace HF:=fA HF ee;have HBr:=nB ee (w.heap.size);clear ee;have qc:=kcP HP;have rc:=kc6 HBr;have hI:=iq_0_0 q w w1;have hZ:=iq_01 q w
 rcases hx:readE ts f .atom i deep with _ | ⟨x,j⟩ | ⟨l_,c_⟩
 · (rw [hx] at hr;cases hr)
 rotate_left
 ·
  rw [hx] at hr
  first | simp only at hr | simp only [andT] at hr
  cases hr;clear qc rc;refine ((Ht f (by omega)) i deep _ _ hd hx HP.out).mono ?_;rintro _ w2 ⟨rfl,hf,hbo⟩
  go_wp2_with (fail)
  exact ⟨rfl,rfl,FarB.out (HF.out.farq hf),hbo⟩
 rw [hx] at hr
 first | simp only at hr | simp only [andT] at hr
 clear qc rc;refine ((Ht f (by omega)) i deep _ _ hd hx HP.out).mono ?_;rintro _ w2 ⟨ax,mx,cx,rfl,hf,hp,hm⟩;replace HBr:=qB HBr hf;replace HF:=qF HF hf;have hs2:=hf.size;replace HP:=zz hp;have HMx:=zz hm;clear hf hp hm;simp only [exV];have hfw:i<j∧j≤ts.length:=readE_fwd f .atom i deep x j hx;clear hI hZ;have qc:=kcP HP;have rc:=kc6 HBr;have hI:=iq_0_0 q w w2
 go_wp2_with (fail)
 clear qc rc;generalize ee:World.alloc w2 _=w3;have hsa3:=sizeA ee;have HNEW:=zz (builtE1E (base:=w1.heap.size) (memNw HMx.out (by omega)) ee (b:=w2.heap.size) (by omega) (by omega));replace HP:=pA HP ee;replace HF:=fA HF ee;replace HBr:=bA HBr ee;replace HMx:=mA HMx ee;have HOl:=HNEW;clear HNEW;clear ee;clear hI;clear HMx
 go_loopw [3] (fun v wr=>∃ (l:List Ex) (jj g:Nat),readE ts g (.apps l) jj deep=some r∧g≤f∧Hid (PS ts aL n cap q jj (deep:Int) wr)∧Hid (FarB q w.heap.size w wr)∧Hid (Bo wr w.heap.size 60 #[.int .i64 0,.string ⟨#[]⟩,.int .i64 0,.slice none 0 0,.int .i64 0,.int .i64 0])∧Hid (OwnD 0 w1.heap.size 60 6 wr v (Ex.rows l))∧l≠[]∧l.length≤jj∧jj≤ts.length∧w1.heap.size≤wr.heap.size) (fun v _=>ts.length+1 - lenV v)
 case atStart=>exact ⟨[x],j,f,hr,Nat.le_refl _,HP,HF,HBr,HOl,(by simp),(by simp only [List.length_cons,List.length_nil];omega),hfw.2,by omega⟩
 case round=>
  clear HP HF HBr HOl hr;obtain ⟨l,jj,g,hr,hg,HP,HF,HBr,HOl,hl0,hl1,hl2,hws⟩:=hrel;obtain ⟨a1,m1,c1,rfl,hm1,hm2,hm3⟩:=HOl.out.form2
  have hsm:m1≤1048576:=by have h1:=HP.out.len.1;have h2:=HP.out.sm;omega
  have HM1:=zz hm1;clear hm1 hm3;have qc:=kcP HP;have rc:=kc6 HBr;have hI:=iq_0_0 q w wr
  go_wp2_with (fail)
  clear qc rc;refine (now_any _ HP.out.bo HP.out.mem).mono ?_;rintro _ w4 ⟨rfl,hb⟩;have hf:=FarQ.of (q:=q) hb;replace HBr:=qB HBr hf;replace HOl:=qO HOl hf;replace HF:=qF HF hf;have hs4:=hf.size;replace HP:=kP HP hb;clear hf hb;clear hI;have qc:=kcP HP;have rc:=kc6 HBr;have hI:=iq_0_0 q w w4
  go_wp2_with (fail)
  cases g with
  | zero=>rw [readE] at hr;cases hr
  | succ g=>
   rw [readE] at hr
   cases hst:startsE (nowT ts jj) with
   | false=>
    clear qc rc;refine (starts_any (nowT ts jj) _).mono ?_;rintro _ w5 ⟨rfl,hb⟩;have hf:=FarQ.of (q:=q) hb;replace HBr:=qB HBr hf;replace HOl:=qO HOl hf;replace HF:=qF HF hf;have hs5:=hf.size;replace HP:=kP HP hb;clear hf hb;rw [hst];simp only [hst,Bool.false_eq_true,if_false] at hr;cases hr;have HML:Hid (Mem (Nw 0 w1.heap.size w5.heap.size) w5 (.s 6 (Ex.rows l)) (.slice a1 m1 c1)):=zz HOl.out.mem;obtain ⟨b2,o2,z,a2,m2,c2,rfl,hz,z0,z1,z2,z3,z4,z5,HMz⟩:=ex_at HML.out 0 (List.length_pos_iff.2 hl0);rw [Nat.zero_mul,Nat.add_zero] at z0 z1 z2 z3 z4 z5
    by_cases h1:l.length=1
    ·
     obtain rfl:m1=1:=by have :=HM1.out;omega
     have hm9:((1:Int)==1)=true:=rfl;have HZ:Hid (appE l=z):=zz (by match l,h1,hz.out with | [e],_,h=>simpa [appE] using h);clear hI;have qc:=kcP HP;have rc:=kc6 HBr;have hI:=iq_0_0 q w w5
     go_wp2_with (fail)
     clear HML;clear qc rc;generalize ee:World.setCell _ ⟨w.heap.size,5,none⟩ _=w6;have hsz6:=sizeS6 ee;replace HP:=pO6 HP ee;replace HF:=fN6 HF ee;replace HBr:=bS6 HBr ee;replace HMz:=mS6 HMz ee;replace HOl:=oS6 HOl ee;clear ee;clear hI;rw [HZ.out];have fc:=kc6 HBr;refine bodyPost_ret (v:=.agg #[.int .i64 z.kind,.string z.name,.int .i64 z.n,.slice a2 m2 c2,.int .i64 z.line,.int .i64 z.col]) (by clear HP HF HBr HMz HOl;simp [results,Tryz.results151,go_sem,fc]) rfl ?_;exact ⟨_,_,_,rfl,HF.out.out,HP.out,memNw HMz.out (by omega)⟩
    have hm9:((m1:Int)==1)=false:=by have :=HM1.out;have h0:=List.length_pos_iff.2 hl0;simp;omega
    have hm8:1<m1:=by have :=HM1.out;have h0:=List.length_pos_iff.2 hl0;omega
    clear hI;have qc:=kcP HP;have rc:=kc6 HBr;have hI:=iq_0_0 q w w5
    go_wp2_with (fail)
    clear HML HMz
    have HZ:Hid (appE l=.mk 4 .empty 0 l z.line z.col):=zz (by match l,h1,hl0,hz.out with | e::e2::es,_,_,h=>(have h2:e=z:=by simpa using h);rw [←h2];rfl)
    clear qc rc;generalize ee:World.setCell _ ⟨w.heap.size,5,none⟩ _=w6;have hsz6:=sizeS6 ee;replace HP:=pO6 HP ee;replace HF:=fN6 HF ee;replace HBr:=bS6 HBr ee;replace HOl:=oS6 HOl ee;clear ee;clear hI;rw [HZ.out];have fc:=kc6 HBr;refine bodyPost_ret (v:=.agg #[.int .i64 4,.string ⟨#[]⟩,.int .i64 0,.slice (some ⟨b2,o2,none⟩) m1 c1,.int .i64 z.line,.int .i64 z.col]) (by clear HP HF HBr HOl;simp [results,Tryz.results151,go_sem,fc]) rfl ?_;exact ⟨_,_,_,rfl,HF.out.out,HP.out,memNw HOl.out.mem (by omega)⟩
   | true=>
    clear qc rc;refine (starts_any (nowT ts jj) _).mono ?_;rintro _ w5 ⟨rfl,hb⟩;have hf:=FarQ.of (q:=q) hb;replace HBr:=qB HBr hf;replace HOl:=qO HOl hf;replace HF:=qF HF hf;have hs5:=hf.size;replace HP:=kP HP hb;clear hf hb;rw [hst];simp only [hst,if_true] at hr;clear hI;have qc:=kcP HP;have rc:=kc6 HBr;have hI:=iq_0_0 q w w5
    go_wp2_with (fail)
    rcases hy:readE ts g .atom jj deep with _ | ⟨y,k⟩ | ⟨l_,c_⟩
    · (rw [hy] at hr;cases hr)
    rotate_left
    ·
     rw [hy] at hr
     first | simp only at hr | simp only [andT] at hr
     cases hr;clear qc rc;refine ((Ht g (by omega)) jj deep _ _ hd hy HP.out).mono ?_;rintro _ w6 ⟨rfl,hf,hbo⟩
     go_wp2_with (fail)
     exact ⟨rfl,rfl,FarB.out (HF.out.farq hf),hbo⟩
    rw [hy] at hr
    first | simp only at hr | simp only [andT] at hr
    have HOW:=HOl;clear qc rc;refine ((Ht g (by omega)) jj deep _ _ hd hy HP.out).mono ?_;rintro _ w6 ⟨ay,my,cy,rfl,hf,hp,hm⟩;replace HBr:=qB HBr hf;replace HOl:=qO HOl hf;replace HF:=qF HF hf;have hs6:=hf.size;replace HP:=zz hp;have HMy:=zz hm;clear hf hp hm;simp only [exV];have hfk:jj<k∧k≤ts.length:=readE_fwd g .atom jj deep y k hy;clear hI;have qc:=kcP HP;have rc:=kc6 HBr;have hI:=iq_0_0 q w w6
    go_wp2_with (first | (at_builtin;refine wpList_append_D rfl _ _ rfl Tryz.underlying58 info_ex rfl (by decide) rfl rfl (HOl.out.alloc _) (newRow HOW.out (by omega) (by omega) HMy.out) (by have :=HM1.out;simp only [Ex.rows_len,List.length_cons,List.length_nil];omega) (by have :=HM1.out;simp only [Ex.rows_len,List.length_cons,List.length_nil];omega) (by rw [World.size_alloc];omega) ?_;intro v9 w9 ho hgr;have HO9:=zz ho;clear ho;have HG9:=zz hgr;clear hgr))
    have hob:∀ k,(Value.slice a1 m1 c1).ownBlock=some k→w1.heap.size≤k:=fun k hk=>(HOl.out.lt k hk).1
    clear qc rc;have HO8:Hid (OwnD 0 w1.heap.size 60 6 w9 v9 (Ex.rows (l++[y]))):=zz (by rw [Ex.rows_app];exact HO9.out);obtain ⟨a2,m2,c2,rfl,hm4,_,_⟩:=HO8.out.form2;rw [List.length_append,List.length_cons,List.length_nil] at hm4
    have hs9:w6.heap.size+1≤w9.heap.size:=by have h:=HG9.out.size;rw [World.size_alloc] at h;exact h
    go_roundw
    case rel=>exact ⟨l++[y],k,g,hr,by omega,zz ((HP.out.alloc (.cells #[.int .i64 y.kind,.string y.name,.int .i64 y.n,.slice ay my cy,.int .i64 y.line,.int .i64 y.col] 60)).grown HG9.out fun k hk=>by have :=hob k hk;omega),zz ((HF.out.alloc (.cells #[.int .i64 y.kind,.string y.name,.int .i64 y.n,.slice ay my cy,.int .i64 y.line,.int .i64 y.col] 60)).grown HG9.out fun k hk=>by have :=hob k hk;omega),zz ((HBr.out.alloc (.cells #[.int .i64 y.kind,.string y.name,.int .i64 y.n,.slice ay my cy,.int .i64 y.line,.int .i64 y.col] 60)).grown HG9.out fun k hk=>by have :=hob k hk;omega),HO8,by simp,by rw [List.length_append,List.length_cons,List.length_nil];omega,hfk.2,by omega⟩
    case measure=>have :=HM1.out;simp only [lenV];omega
end
end
end Go.Proofs.YtcoiagfeoonpbaaGreat
