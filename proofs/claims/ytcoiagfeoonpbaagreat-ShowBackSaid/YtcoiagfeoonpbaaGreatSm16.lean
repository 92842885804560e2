/-
 The parser's let: what is behind a 'let'. Under what the other reading functions do with less fuel.
-/
import Derived.Test.YtcoiagfeoonpbaaGreatSm15
set_option maxHeartbeats 20000000
set_option maxRecDepth 100000
namespace Go.Proofs.YtcoiagfeoonpbaaGreat
section
open Go.RowKit
attribute [local go_sem] tk_pos
section
variable {ts:List Tk} {aL:Option Addr} {n cap q:Nat}
def letE (ts:List Tk) (f i d:Nat) (l c:Int):Option Rd1:=
 if (nowT ts i).k≠2 then some (badT ts i) else
 if isT ts (i+1) 5 wFree then
  takeT ts (i+2) 5 wIn (andT (readE ts f .expr (i+3) d) fun x j=>some (.ok (.mk 8 (nowT ts i).s 0 [x] l c) j))
 else takeT ts (i+1) 6 wEq (andT (readE ts f .expr (i+2) d) fun x j=>
  takeT ts j 5 wIn (andT (readE ts f .expr (j+1) d) fun y k=>some (.ok (.mk 7 (nowT ts i).s 0 [x,y] l c) k)))
theorem let_reads {f i deep:Nat} {l c:Int} {r:Rd1} (hr:letE ts f i deep l c=some r) (w:World) (hd:deep≤40) (H:AllR ts aL n cap q (f+1)) (hp:PS ts aL n cap q i (deep:Int) w):
  Calls Tryz.prog 135 #[.pointer (some ⟨q,0,none⟩),.agg #[.int .i64 l,.int .i64 c]] w (Ans ts aL n cap q r deep w):=by
 have HP:=zz hp;have hq0:=hp.lt;have HF:=zz (FarB.refl q w.heap.size w);clear hp;go_enter Tryz.func135,Tryz.ntmps135
 go_wp2_with (fail)
 generalize ee:World.alloc w _=w1_1;have hq1:=sizeA ee;replace HP:=pA HP ee;replace HF:=fA HF ee;have HBp:=nB ee (w.heap.size);clear ee;generalize ee:World.alloc w1_1 _=w1;have hq2:=sizeA ee;replace HP:=pA HP ee;replace HF:=fA HF ee;replace HBp:=bA HBp ee;have HBr:=nB ee (w.heap.size+1);clear ee
 have hsa1:w1.heap.size=w.heap.size+2:=by omega
 clear hq1 hq2;have qc:=kcP HP;have pc:=kc2 HBp;have rc:=kc6 HBr;have hI:=iq_01_0 q w w1;have hZ:=iq_012 q w;unfold letE at hr
 by_cases hk:(nowT ts i).k=2
 rotate_left
 ·
  rw [if_pos hk] at hr;cases hr;refine wp_region_held_drew (S:=fun w'=>Far (fun b=>b=q) (w1) w') (by kernel_rfl) (Far.of (below_drew _)) (fun hS0=>?_);refine takeA 0 (v:=?_) rfl ?_ ?_;rotate_left;· intro w hSw;replace pc:=Far.c2z pc hSw (by intro e;have e:_=q:=e;omega);go_simp;try rfl
  (try simp only [pu]);refine takeA 2 (v:=?_) rfl ?_ ?_;rotate_left;· intro w hSw;replace pc:=Far.c2z pc hSw (by intro e;have e:_=q:=e;omega);go_simp;try rfl
  (try simp only [pu]);refine twoL 1 4 rfl rfl (by kernel_rfl) (by rfl) (by rfl) (fun K hK=>?_) (fun K hK=>?_)
  ·
   go_simp;refine (name_bad _ HP.out.drew hk).mono ?_;rintro _ y ⟨rfl,hb⟩
   go_wp2_with (fail)
   exact ⟨rfl,rfl,FarB.out (HF.out.drew.below hb),(HP.out.drew.keep hb).any⟩
  ·
   go_simp;refine hK.out _ _ (Far.trans (Far.of (below_new _ _)) (Far.of (below_drew _))) (fun hS1=>?_);clear hK K;clear qc pc rc;generalize ee:(w1.alloc (.cells #[.int .i64 0,.string ⟨#[]⟩,.int .i64 0,.slice none 0 0,.int .i64 0,.int .i64 0] 60))=w2_1 at *;have hq1:=sizeA ee;replace HP:=pA HP ee;replace HF:=fA HF ee;replace HBp:=bA HBp ee;replace HBr:=bA HBr ee;have HBu:=nB ee (w.heap.size+2);clear ee;generalize ee:(w2_1.drew)=w2 at *;have hq2:=sizeD ee;replace HP:=pD HP ee;replace HF:=fD HF ee;replace HBp:=bD HBp ee;replace HBr:=bD HBr ee;replace HBu:=bD HBu ee;clear ee
   have hsa2:w2.heap.size=w.heap.size+3:=by omega
   clear hq1 hq2;clear hI hZ;refine callA 1 rfl fun K hK=>?_;go_simp;refine (name_bad _ HP.out hk).mono ?_;rintro _ y ⟨rfl,hb⟩
   go_wp2_with (fail)
   exact ⟨rfl,rfl,FarB.out (HF.out.below hb),(HP.out.keep hb).any⟩
 rw [if_neg (fun h=>h hk)] at hr;refine wp_region_held_drew (S:=fun w'=>Far (fun b=>b=q) (w1) w') (by kernel_rfl) (Far.of (below_drew _)) (fun hS0=>?_);refine takeA 0 (v:=?_) rfl ?_ ?_;rotate_left;· intro w hSw;replace pc:=Far.c2z pc hSw (by intro e;have e:_=q:=e;omega);go_simp;try rfl
 (try simp only [pu]);refine takeA 2 (v:=?_) rfl ?_ ?_;rotate_left;· intro w hSw;replace pc:=Far.c2z pc hSw (by intro e;have e:_=q:=e;omega);go_simp;try rfl
 (try simp only [pu]);refine twoL 1 4 rfl rfl (by kernel_rfl) (by rfl) (by rfl) (fun K hK=>?_) (fun K hK=>?_)
 ·
  go_simp;refine (name_ok _ HP.out.drew hk).mono ?_;rintro _ wx1 ⟨rfl,hf,hp⟩;have hswx1:w1.heap.size≤wx1.heap.size:=hf.size;replace hf:FarQ q w1 wx1:=(FarQ.of (below_drew _)).trans hf;replace HBp:=qB HBp hf;replace HBr:=qB HBr hf;replace HF:=qF HF hf;have hs1:=hf.size;replace HP:=zz hp;clear hp;go_simp;refine hK.out _ _ (hf) (fun hS1=>?_);clear hK K;refine takeA 3 (v:=?_) rfl ?_ ?_;rotate_left;· intros;go_simp;try rfl
  (try simp only [pu]);refine callA 4 rfl fun K hK=>?_;go_simp;refine hK.out _ _ (Far.trans hS1 (Far.of (below_new _ _))) (fun hS2=>?_);clear hK K;refine callA 5 rfl fun K hK=>?_;clear qc pc rc;clear hI hZ;have qc:=kcP HP;have pc:=kc2 HBp;have rc:=kc6 HBr;have hI:=iq_01_0 q w wx1;go_simp;refine hK.out _ _ (Far.trans hS1 (Far.of (below_new _ _))) (fun hS3=>?_);clear hK K;refine wpAnyH_done (by kernel_rfl) ?_ _;clear qc pc rc;generalize ee:World.alloc wx1 _=w2;have hsa2:=sizeA ee;replace HP:=pA HP ee;replace HF:=fA HF ee;replace HBp:=bA HBp ee;replace HBr:=bA HBr ee;have HBu:=nB ee (wx1.heap.size);clear ee;clear hI;clear HBp;have qc:=kcP HP;have rc:=kc6 HBr;have uc:=kc6 HBu;have hI:=iq_1_0_0 q w wx1 w2;have hZ:=iq_1_01 q w wx1
  go_wp2_with (fail)
  rcases hfr:isT ts (i+1) 5 wFree
  rotate_left
  ·
   simp only [hfr,if_true] at hr;clear qc rc uc;refine (is_any 5 wFree _ HP.out).mono ?_;rintro _ w3 ⟨rfl,hb⟩;have hf:=FarQ.of (q:=q) hb;replace HBr:=qB HBr hf;replace HBu:=qB HBu hf;replace HF:=qF HF hf;have hs3:=hf.size;replace HP:=kP HP hb;clear hf hb;rw [hfr]
   have hov:((i:Int)+1)+1≤9223372036854775807:=by have h1:=isT_lt hfr (by decide);have :=HP.out.len;omega
   clear hI hZ;have qc:=kcP HP;have rc:=kc6 HBr;have uc:=kc6 HBu;have hI:=iq_1_0_0 q w wx1 w3
   go_wp2_with (fail)
   clear qc rc uc;generalize ee:World.setCell w3 _ _=w4;have hsz4:=sizeS1 ee;replace HP:=zz (HP.out.setIE (k:=(i+2)) ee (by omega));replace HF:=zz (HF.out.setQE ee);replace HBr:=bF1 HBr ee;replace HBu:=bF1 HBu ee;clear ee;clear hI;have qc:=kcP HP;have rc:=kc6 HBr;have uc:=kc6 HBu;have hI:=iq_1_0_0 q w wx1 w4;have hZ:=iq_1_0_0 q w wx1 w3
   rcases hin:isT ts (i+2) 5 wIn
   ·
    first | simp only [hin,Bool.false_eq_true,if_false] at hr | simp only [takeT,hin,Bool.false_eq_true,if_false] at hr
    cases hr;clear qc rc uc;refine (take_bad 5 wIn _ HP.out hin).mono ?_;rintro _ w5 ⟨rfl,hb⟩;have hf:=FarQ.of (q:=q) hb;have hbo:=(HP.out.keep hb).any
    go_wp2_with (fail)
    exact ⟨rfl,rfl,FarB.out (HF.out.farq hf),hbo⟩
   first | simp only [hin,if_true] at hr | simp only [takeT,hin,if_true] at hr
   clear qc rc uc;refine (take_ok 5 wIn _ HP.out hin (by decide)).mono ?_;rintro _ w5 ⟨rfl,hf,hp⟩;replace HBr:=qB HBr hf;replace HBu:=qB HBu hf;replace HF:=qF HF hf;have hs5:=hf.size;replace HP:=zz hp;clear hf hp;clear hI hZ;have qc:=kcP HP;have rc:=kc6 HBr;have uc:=kc6 HBu;have hI:=iq_1_0_0 q w wx1 w5
   go_wp2_with (fail)
   refine wp_region_held_drew (S:=fun w'=>Far (fun b=>b=q∨b=wx1.heap.size) (w5) w') (by kernel_rfl) (Far.of (below_drew _)) (fun hS10=>?_);refine takeA 0 (v:=?_) rfl ?_ ?_;rotate_left;· intros;go_simp;try rfl
   (try simp only [pu]);refine takeA 2 (v:=?_) rfl ?_ ?_;rotate_left;· intros;go_simp;try rfl
   (try simp only [pu])
   rcases hy:readE ts f .expr (i+3) deep with _ | ⟨y,k⟩ | ⟨l_,c_⟩
   · (rw [hy] at hr;cases hr)
   rotate_left
   ·
    rw [hy] at hr
    first | simp only at hr | simp only [andT] at hr
    cases hr;refine twoL 1 3 rfl rfl (by kernel_rfl) (by rfl) (by rfl) (fun K hK=>?_) (fun K hK=>?_)
    ·
     go_simp;refine hK.out _ _ (hS10) (fun hS11=>?_);clear hK K;refine callA 3 rfl fun K hK=>?_;go_simp;refine ((H.ex f (Nat.lt_succ_self f)) (i+3) deep _ _ hd hy HP.out.drew).mono ?_;rintro e wx19 ⟨rfl,hf,hbo⟩
     go_wp2_with (fail)
     exact ⟨rfl,rfl,FarB.out (HF.out.drew.farq hf),hbo⟩
    ·
     go_simp;refine ((H.ex f (Nat.lt_succ_self f)) (i+3) deep _ _ hd hy HP.out.drew).mono ?_;rintro e wx19 ⟨rfl,hf,hbo⟩
     go_wp2_with (fail)
     exact ⟨rfl,rfl,FarB.out (HF.out.drew.farq hf),hbo⟩
   rw [hy] at hr
   first | simp only at hr | simp only [andT] at hr
   refine twoL 1 3 rfl rfl (by kernel_rfl) (by rfl) (by rfl) (fun K hK=>?_) (fun K hK=>?_)
   ·
    go_simp;refine hK.out _ _ (hS10) (fun hS11=>?_);clear hK K;refine callA 3 rfl fun K hK=>?_;have HOW:Hid (OwnD 0 (w5.heap.size) 60 6 w5 (.slice none 0 0) (Ex.rows [])):=zz (OwnD.nil _ _ _ _ _);go_simp;refine ((H.ex f (Nat.lt_succ_self f)) (i+3) deep _ _ hd hy HP.out.drew).mono ?_;rintro e wx12 ⟨ay,my,cy,rfl,hf,hp,hm⟩;have hswx12:w5.heap.size≤wx12.heap.size:=hf.size;replace hf:FarQ q w5 wx12:=(FarQ.of (below_drew _)).trans hf;replace HBr:=qB HBr hf;replace HBu:=qB HBu hf;replace HF:=qF HF hf;replace HP:=zz hp;have HMy:Hid (Mem (Nw 0 w5.heap.size _) _ _ _):=zz hm;clear hp hm;simp only [exV];go_simp;refine hK.out _ _ ((Far.mono hf (fun b e=>.inl e))) (fun hS12=>?_);clear hK K;refine callA 4 rfl fun K hK=>?_;go_simp;refine hK.out _ _ (Far.trans hS12 (Far.of (below_new _ _))) (fun hS13=>?_);clear hK K;refine callA 5 rfl fun K hK=>?_;refine wp_append_D2 _ _ (by rfl) Tryz.underlying58 info_ex rfl (by decide) (by rfl) (by rfl) (OwnD.nil 0 (w5.heap.size) 60 6 _) (newRow HOW.out (by omega) (by omega) HMy.out) (by simp only [Ex.rows_len,List.length_cons,List.length_nil];omega) (by simp only [Ex.rows_len,List.length_cons,List.length_nil];omega) (by rw [World.size_alloc];omega) (fun v9 w9 ho hg=>?_);obtain ⟨a9,m9,c9,rfl⟩:=ho.form';refine hK.out _ _ ?_ (fun hS14=>?_);· exact Far.trans hS13 ((grownFar hg).mono (fun b e=>by cases e))
    clear hK K
    have hs9:wx12.heap.size+1≤w9.heap.size:=by have h:=hg.size;rw [World.size_alloc] at h;exact h
    replace HP:=rP HP hg rfl;replace HF:=rF HF hg rfl;replace HBr:=rB HBr hg rfl;replace HBu:=rB HBu hg rfl;have HOz:Hid (OwnD 0 (w5.heap.size) 60 6 w9 (.slice a9 m9 c9) (Ex.rows [y])):=zz (by rw [show ([y]:List Ex)=[]++[y] from rfl,Ex.rows_app];exact ho);clear ho hg HMy HOW;refine takeA 6 (v:=?_) rfl ?_ ?_;rotate_left;· intros;go_simp;try rfl
    (try simp only [pu]);refine callA 7 rfl fun K hK=>?_;clear qc rc uc;clear hI;have qc:=kcP HP;have rc:=kc6 HBr;have uc:=kc6 HBu;have hI:=iq_1_0_0 q w wx1 w9;go_simp;refine hK.out _ _ (Far.setCell hS14 (.inr rfl) _) (fun hS15=>?_);clear hK K;refine wpAnyH_done (by kernel_rfl) ?_ _;clear qc rc uc;generalize ee:World.setCell w9 _ _=w6;have hsz6:=sizeS1 ee;replace HP:=pO1 HP ee;replace HF:=fN1 HF ee;replace HBr:=bF1 HBr ee;replace HBu:Hid (Bo w6 wx1.heap.size 60 #[.int .i64 8,.string (nowT ts i).s,.int .i64 0,.slice a9 m9 c9,.int .i64 l,.int .i64 c]):=zz (by rw [←ee];exact HBu.out.set 3 (.slice a9 m9 c9));replace HOz:=oS1 HOz ee;clear ee;clear hI;have qc:=kcP HP;have rc:=kc6 HBr;have uc:=kc6 HBu;have hI:=iq_1_0_0 q w wx1 w6;have hZ:=iq_1_0_0 q w wx1 w9
    go_wp2_with (fail)
    clear qc rc uc;generalize ee:World.setCell _ ⟨(w.heap.size+1),5,none⟩ _=w7;have hsz7:=sizeS6 ee;replace HP:=pO6 HP ee;replace HF:=fN6 HF ee;replace HBr:=bS6 HBr ee;replace HBu:=bF6 HBu ee;replace HOz:=oS6 HOz ee;clear ee;clear hI hZ;cases hr;have fc:=kc6 HBr;refine bodyPost_ret (v:=.agg #[.int .i64 8,.string (nowT ts i).s,.int .i64 0,.slice a9 m9 c9,.int .i64 l,.int .i64 c]) (by clear HP HF HBr HBu HOz;simp [results,Tryz.results135,go_sem,fc]) rfl ?_;exact ⟨_,_,_,rfl,HF.out.out,HP.out,memNw HOz.out.mem (by omega)⟩
   ·
    have HOW:Hid (OwnD 0 (w5.heap.size) 60 6 w5 (.slice none 0 0) (Ex.rows [])):=zz (OwnD.nil _ _ _ _ _);go_simp;refine ((H.ex f (Nat.lt_succ_self f)) (i+3) deep _ _ hd hy HP.out.drew).mono ?_;rintro e wx12 ⟨ay,my,cy,rfl,hf,hp,hm⟩;have hswx12:w5.heap.size≤wx12.heap.size:=hf.size;replace hf:FarQ q w5 wx12:=(FarQ.of (below_drew _)).trans hf;replace HBr:=qB HBr hf;replace HBu:=qB HBu hf;replace HF:=qF HF hf;replace HP:=zz hp;have HMy:Hid (Mem (Nw 0 w5.heap.size _) _ _ _):=zz hm;clear hp hm;simp only [exV];go_simp;refine hK.out _ _ ((Far.mono hf (fun b e=>.inl e))) (fun hS12=>?_);clear hK K;refine twoL 1 4 rfl rfl (by kernel_rfl) (by rfl) (by rfl) (fun K hK=>?_) (fun K hK=>?_)
    ·
     clear qc rc uc;clear hI;have qc:=kcP HP;have rc:=kc6 HBr;have uc:=kc6 HBu;have hI:=iq_1_0_0 q w wx1 wx12;go_simp;refine hK.out _ _ (hS12) (fun hS13=>?_);clear hK K;refine callA 4 rfl fun K hK=>?_;go_simp;refine hK.out _ _ (Far.trans hS13 (Far.of (below_new _ _))) (fun hS14=>?_);clear hK K;refine callA 5 rfl fun K hK=>?_;refine wp_append_D2 _ _ (by rfl) Tryz.underlying58 info_ex rfl (by decide) (by rfl) (by rfl) (OwnD.nil 0 (w5.heap.size) 60 6 _) (newRow HOW.out (by omega) (by omega) HMy.out) (by simp only [Ex.rows_len,List.length_cons,List.length_nil];omega) (by simp only [Ex.rows_len,List.length_cons,List.length_nil];omega) (by rw [World.size_alloc];omega) (fun v9 w9 ho hg=>?_);obtain ⟨a9,m9,c9,rfl⟩:=ho.form';refine hK.out _ _ ?_ (fun hS15=>?_);· exact Far.trans hS14 ((grownFar hg).mono (fun b e=>by cases e))
     clear hK K
     have hs9:wx12.heap.size+1≤w9.heap.size:=by have h:=hg.size;rw [World.size_alloc] at h;exact h
     replace HP:=rP HP hg rfl;replace HF:=rF HF hg rfl;replace HBr:=rB HBr hg rfl;replace HBu:=rB HBu hg rfl;have HOz:Hid (OwnD 0 (w5.heap.size) 60 6 w9 (.slice a9 m9 c9) (Ex.rows [y])):=zz (by rw [show ([y]:List Ex)=[]++[y] from rfl,Ex.rows_app];exact ho);clear ho hg HMy HOW;refine takeA 6 (v:=?_) rfl ?_ ?_;rotate_left;· intros;go_simp;try rfl
     (try simp only [pu]);refine callA 7 rfl fun K hK=>?_;clear qc rc uc;clear hI;have qc:=kcP HP;have rc:=kc6 HBr;have uc:=kc6 HBu;have hI:=iq_1_0_0 q w wx1 w9;go_simp;refine hK.out _ _ (Far.setCell hS15 (.inr rfl) _) (fun hS16=>?_);clear hK K;refine wpAnyH_done (by kernel_rfl) ?_ _;clear qc rc uc;generalize ee:World.setCell w9 _ _=w6;have hsz6:=sizeS1 ee;replace HP:=pO1 HP ee;replace HF:=fN1 HF ee;replace HBr:=bF1 HBr ee;replace HBu:Hid (Bo w6 wx1.heap.size 60 #[.int .i64 8,.string (nowT ts i).s,.int .i64 0,.slice a9 m9 c9,.int .i64 l,.int .i64 c]):=zz (by rw [←ee];exact HBu.out.set 3 (.slice a9 m9 c9));replace HOz:=oS1 HOz ee;clear ee;clear hI;have qc:=kcP HP;have rc:=kc6 HBr;have uc:=kc6 HBu;have hI:=iq_1_0_0 q w wx1 w6;have hZ:=iq_1_0_0 q w wx1 w9
     go_wp2_with (fail)
     clear qc rc uc;generalize ee:World.setCell _ ⟨(w.heap.size+1),5,none⟩ _=w7;have hsz7:=sizeS6 ee;replace HP:=pO6 HP ee;replace HF:=fN6 HF ee;replace HBr:=bS6 HBr ee;replace HBu:=bF6 HBu ee;replace HOz:=oS6 HOz ee;clear ee;clear hI hZ;cases hr;have fc:=kc6 HBr;refine bodyPost_ret (v:=.agg #[.int .i64 8,.string (nowT ts i).s,.int .i64 0,.slice a9 m9 c9,.int .i64 l,.int .i64 c]) (by clear HP HF HBr HBu HOz;simp [results,Tryz.results135,go_sem,fc]) rfl ?_;exact ⟨_,_,_,rfl,HF.out.out,HP.out,memNw HOz.out.mem (by omega)⟩
    ·
     go_simp;refine hK.out _ _ (Far.trans hS12 (Far.of (below_new _ _))) (fun hS13=>?_);clear hK K;clear qc rc uc;clear hI;have qc:=kcP HP;have rc:=kc6 HBr;have uc:=kc6 HBu;have hI:=iq_1_0_0 q w wx1 wx12;refine callA 1 rfl fun K hK=>?_;go_simp;refine hK.out _ _ (hS13) (fun hS14=>?_);clear hK K;refine callA 5 rfl fun K hK=>?_;refine wp_append_D2 _ _ (by rfl) Tryz.underlying58 info_ex rfl (by decide) (by rfl) (by rfl) (OwnD.nil 0 (w5.heap.size) 60 6 _) (newRow HOW.out (by omega) (by omega) HMy.out) (by simp only [Ex.rows_len,List.length_cons,List.length_nil];omega) (by simp only [Ex.rows_len,List.length_cons,List.length_nil];omega) (by rw [World.size_alloc];omega) (fun v9 w9 ho hg=>?_);obtain ⟨a9,m9,c9,rfl⟩:=ho.form';refine hK.out _ _ ?_ (fun hS15=>?_);· exact Far.trans hS14 ((grownFar hg).mono (fun b e=>by cases e))
     clear hK K
     have hs9:wx12.heap.size+1≤w9.heap.size:=by have h:=hg.size;rw [World.size_alloc] at h;exact h
     replace HP:=rP HP hg rfl;replace HF:=rF HF hg rfl;replace HBr:=rB HBr hg rfl;replace HBu:=rB HBu hg rfl;have HOz:Hid (OwnD 0 (w5.heap.size) 60 6 w9 (.slice a9 m9 c9) (Ex.rows [y])):=zz (by rw [show ([y]:List Ex)=[]++[y] from rfl,Ex.rows_app];exact ho);clear ho hg HMy HOW;refine takeA 6 (v:=?_) rfl ?_ ?_;rotate_left;· intros;go_simp;try rfl
     (try simp only [pu]);refine callA 7 rfl fun K hK=>?_;clear qc rc uc;clear hI;have qc:=kcP HP;have rc:=kc6 HBr;have uc:=kc6 HBu;have hI:=iq_1_0_0 q w wx1 w9;go_simp;refine hK.out _ _ (Far.setCell hS15 (.inr rfl) _) (fun hS16=>?_);clear hK K;refine wpAnyH_done (by kernel_rfl) ?_ _;clear qc rc uc;generalize ee:World.setCell w9 _ _=w6;have hsz6:=sizeS1 ee;replace HP:=pO1 HP ee;replace HF:=fN1 HF ee;replace HBr:=bF1 HBr ee;replace HBu:Hid (Bo w6 wx1.heap.size 60 #[.int .i64 8,.string (nowT ts i).s,.int .i64 0,.slice a9 m9 c9,.int .i64 l,.int .i64 c]):=zz (by rw [←ee];exact HBu.out.set 3 (.slice a9 m9 c9));replace HOz:=oS1 HOz ee;clear ee;clear hI;have qc:=kcP HP;have rc:=kc6 HBr;have uc:=kc6 HBu;have hI:=iq_1_0_0 q w wx1 w6;have hZ:=iq_1_0_0 q w wx1 w9
     go_wp2_with (fail)
     clear qc rc uc;generalize ee:World.setCell _ ⟨(w.heap.size+1),5,none⟩ _=w7;have hsz7:=sizeS6 ee;replace HP:=pO6 HP ee;replace HF:=fN6 HF ee;replace HBr:=bS6 HBr ee;replace HBu:=bF6 HBu ee;replace HOz:=oS6 HOz ee;clear ee;clear hI hZ;cases hr;have fc:=kc6 HBr;refine bodyPost_ret (v:=.agg #[.int .i64 8,.string (nowT ts i).s,.int .i64 0,.slice a9 m9 c9,.int .i64 l,.int .i64 c]) (by clear HP HF HBr HBu HOz;simp [results,Tryz.results135,go_sem,fc]) rfl ?_;exact ⟨_,_,_,rfl,HF.out.out,HP.out,memNw HOz.out.mem (by omega)⟩
  simp only [hfr,Bool.false_eq_true,if_false] at hr;clear qc rc uc;refine (is_any 5 wFree _ HP.out).mono ?_;rintro _ w3 ⟨rfl,hb⟩;have hf:=FarQ.of (q:=q) hb;replace HBr:=qB HBr hf;replace HBu:=qB HBu hf;replace HF:=qF HF hf;have hs3:=hf.size;replace HP:=kP HP hb;clear hf hb;rw [hfr];clear hI hZ;have qc:=kcP HP;have rc:=kc6 HBr;have uc:=kc6 HBu;have hI:=iq_1_0_0 q w wx1 w3
  go_wp2_with (fail)
  rcases heq:isT ts (i+1) 6 wEq
  ·
   first | simp only [heq,Bool.false_eq_true,if_false] at hr | simp only [takeT,heq,Bool.false_eq_true,if_false] at hr
   cases hr;clear qc rc uc;refine (take_bad 6 wEq _ HP.out heq).mono ?_;rintro _ w4 ⟨rfl,hb⟩;have hf:=FarQ.of (q:=q) hb;have hbo:=(HP.out.keep hb).any
   go_wp2_with (fail)
   exact ⟨rfl,rfl,FarB.out (HF.out.farq hf),hbo⟩
  first | simp only [heq,if_true] at hr | simp only [takeT,heq,if_true] at hr
  clear qc rc uc;refine (take_ok 6 wEq _ HP.out heq (by decide)).mono ?_;rintro _ w4 ⟨rfl,hf,hp⟩;replace HBr:=qB HBr hf;replace HBu:=qB HBu hf;replace HF:=qF HF hf;have hs4:=hf.size;replace HP:=zz hp;clear hf hp;clear hI;have qc:=kcP HP;have rc:=kc6 HBr;have uc:=kc6 HBu;have hI:=iq_1_0_0 q w wx1 w4
  go_wp2_with (fail)
  rcases hx:readE ts f .expr (i+2) deep with _ | ⟨x,j⟩ | ⟨l_,c_⟩
  · (rw [hx] at hr;cases hr)
  rotate_left
  ·
   rw [hx] at hr
   first | simp only at hr | simp only [andT] at hr
   cases hr;clear qc rc uc;refine ((H.ex f (Nat.lt_succ_self f)) (i+2) deep _ _ hd hx HP.out).mono ?_;rintro _ w5 ⟨rfl,hf,hbo⟩
   go_wp2_with (fail)
   exact ⟨rfl,rfl,FarB.out (HF.out.farq hf),hbo⟩
  rw [hx] at hr
  first | simp only at hr | simp only [andT] at hr
  clear qc rc uc;refine ((H.ex f (Nat.lt_succ_self f)) (i+2) deep _ _ hd hx HP.out).mono ?_;rintro _ w5 ⟨ax,mx,cx,rfl,hf,hp,hm⟩;replace HBr:=qB HBr hf;replace HBu:=qB HBu hf;replace HF:=qF HF hf;have hs5:=hf.size;replace HP:=zz hp;have HMx:=zz hm;clear hf hp hm;simp only [exV];clear hI;have qc:=kcP HP;have rc:=kc6 HBr;have uc:=kc6 HBu;have hI:=iq_1_0_0 q w wx1 w5
  go_wp2_with (fail)
  clear qc rc uc;generalize ee:World.setCell w5 _ _=w6_1;have hq1:=sizeS1 ee;replace HP:=pO1 HP ee;replace HF:=fN1 HF ee;replace HBr:=bF1 HBr ee;replace HBu:Hid (Bo w6_1 wx1.heap.size 60 #[.int .i64 7,.string (nowT ts i).s,.int .i64 0,.slice none 0 0,.int .i64 l,.int .i64 c]):=zz (by rw [←ee];exact HBu.out.set 0 (.int .i64 7));replace HMx:=mS1 HMx ee;clear ee;generalize ee:World.setCell w6_1 _ _=w6_2;have hq2:=sizeS1 ee;replace HP:=pO1 HP ee;replace HF:=fN1 HF ee;replace HBr:=bF1 HBr ee;replace HBu:Hid (Bo w6_2 wx1.heap.size 60 #[.int .i64 7,.string (nowT ts i).s,.int .i64 0,.slice (some ⟨w5.heap.size,0,none⟩) 1 1,.int .i64 l,.int .i64 c]):=zz (by rw [←ee];exact HBu.out.set 3 (.slice (some ⟨w5.heap.size,0,none⟩) 1 1));replace HMx:=mS1 HMx ee;clear ee;generalize ee:World.alloc w6_2 _=w6;have hq3:=sizeA ee;have HNEW:=zz (builtE1E (base:=w4.heap.size) (memNw HMx.out (by omega)) ee (b:=w5.heap.size) (by omega) (by omega));replace HP:=pA HP ee;replace HF:=fA HF ee;replace HBr:=bA HBr ee;replace HBu:=bA HBu ee;replace HMx:=mA HMx ee;have HOs:=HNEW;clear HNEW;clear ee
  have hsa6:w6.heap.size=w5.heap.size+1:=by omega
  clear hq1 hq2 hq3;clear hI;have qc:=kcP HP;have rc:=kc6 HBr;have uc:=kc6 HBu;have hI:=iq_1_0_0 q w wx1 w6;have hZ:=iq_1_0_1 q w wx1 w5
  rcases hin:isT ts j 5 wIn
  ·
   first | simp only [hin,Bool.false_eq_true,if_false] at hr | simp only [takeT,hin,Bool.false_eq_true,if_false] at hr
   cases hr;clear qc rc uc;refine (take_bad 5 wIn _ HP.out hin).mono ?_;rintro _ w7 ⟨rfl,hb⟩;have hf:=FarQ.of (q:=q) hb;have hbo:=(HP.out.keep hb).any
   go_wp2_with (fail)
   exact ⟨rfl,rfl,FarB.out (HF.out.farq hf),hbo⟩
  first | simp only [hin,if_true] at hr | simp only [takeT,hin,if_true] at hr
  clear qc rc uc;refine (take_ok 5 wIn _ HP.out hin (by decide)).mono ?_;rintro _ w7 ⟨rfl,hf,hp⟩;replace HBr:=qB HBr hf;replace HBu:=qB HBu hf;replace HMx:=qM HMx hf;replace HOs:=qO HOs hf;replace HF:=qF HF hf;have hs7:=hf.size;replace HP:=zz hp;clear hf hp;clear hI hZ;have qc:=kcP HP;have rc:=kc6 HBr;have uc:=kc6 HBu;have hI:=iq_1_0_0 q w wx1 w7
  go_wp2_with (fail)
  refine wp_region_held_drew (S:=fun w'=>Far (fun b=>b=q∨b=wx1.heap.size∨b=w5.heap.size) (w7) w') (by kernel_rfl) (Far.of (below_drew _)) (fun hS10=>?_);refine takeA 0 (v:=?_) rfl ?_ ?_;rotate_left;· intros;go_simp;try rfl
  (try simp only [pu]);refine takeA 2 (v:=?_) rfl ?_ ?_;rotate_left;· intros;go_simp;try rfl
  (try simp only [pu])
  rcases hy:readE ts f .expr (j+1) deep with _ | ⟨y,k⟩ | ⟨l_,c_⟩
  · (rw [hy] at hr;cases hr)
  rotate_left
  ·
   rw [hy] at hr
   first | simp only at hr | simp only [andT] at hr
   cases hr;refine twoL 1 3 rfl rfl (by kernel_rfl) (by rfl) (by rfl) (fun K hK=>?_) (fun K hK=>?_)
   ·
    go_simp;refine hK.out _ _ (hS10) (fun hS11=>?_);clear hK K;refine callA 3 rfl fun K hK=>?_;go_simp;refine ((H.ex f (Nat.lt_succ_self f)) (j+1) deep _ _ hd hy HP.out.drew).mono ?_;rintro e wx19 ⟨rfl,hf,hbo⟩
    go_wp2_with (fail)
    exact ⟨rfl,rfl,FarB.out (HF.out.drew.farq hf),hbo⟩
   ·
    go_simp;refine ((H.ex f (Nat.lt_succ_self f)) (j+1) deep _ _ hd hy HP.out.drew).mono ?_;rintro e wx19 ⟨rfl,hf,hbo⟩
    go_wp2_with (fail)
    exact ⟨rfl,rfl,FarB.out (HF.out.drew.farq hf),hbo⟩
  rw [hy] at hr
  first | simp only at hr | simp only [andT] at hr
  refine twoL 1 3 rfl rfl (by kernel_rfl) (by rfl) (by rfl) (fun K hK=>?_) (fun K hK=>?_)
  ·
   go_simp;refine hK.out _ _ (hS10) (fun hS11=>?_);clear hK K;refine callA 3 rfl fun K hK=>?_;have HOW:Hid (OwnD 0 (w4.heap.size) 60 6 w7 (.slice (some ⟨w5.heap.size,0,none⟩) 1 1) (Ex.rows [x])):=HOs;go_simp;refine ((H.ex f (Nat.lt_succ_self f)) (j+1) deep _ _ hd hy HP.out.drew).mono ?_;rintro e wx12 ⟨ay,my,cy,rfl,hf,hp,hm⟩;have hswx12:w7.heap.size≤wx12.heap.size:=hf.size;replace hf:FarQ q w7 wx12:=(FarQ.of (below_drew _)).trans hf;replace HBr:=qB HBr hf;replace HBu:=qB HBu hf;replace HMx:=qM HMx hf;replace HOs:=qO HOs hf;replace HF:=qF HF hf;replace HP:=zz hp;have HMy:Hid (Mem (Nw 0 w7.heap.size _) _ _ _):=zz hm;clear hp hm;simp only [exV];go_simp;refine hK.out _ _ ((Far.mono hf (fun b e=>.inl e))) (fun hS12=>?_);clear hK K;refine callA 4 rfl fun K hK=>?_;go_simp;refine hK.out _ _ (Far.trans hS12 (Far.of (below_new _ _))) (fun hS13=>?_);clear hK K;refine callA 5 rfl fun K hK=>?_;refine wp_append_D2 _ _ (by rfl) Tryz.underlying58 info_ex rfl (by decide) (by rfl) (by rfl) (HOs.out.alloc _) (newRow HOW.out (by omega) (by omega) HMy.out) (by simp only [Ex.rows_len,List.length_cons,List.length_nil];omega) (by simp only [Ex.rows_len,List.length_cons,List.length_nil];omega) (by rw [World.size_alloc];omega) (fun v9 w9 ho hg=>?_);obtain ⟨a9,m9,c9,rfl⟩:=ho.form';refine hK.out _ _ ?_ (fun hS14=>?_);· exact Far.trans hS13 ((grownFar hg).mono (fun b e=>.inr (.inr (by have e:some (w5.heap.size)=some b:=e;cases e;rfl))))
   clear hK K
   have hs9:wx12.heap.size+1≤w9.heap.size:=by have h:=hg.size;rw [World.size_alloc] at h;exact h
   replace HP:=gP w5.heap.size HP hg rfl;replace HF:=gF w5.heap.size HF hg rfl;replace HBr:=gB w5.heap.size HBr hg rfl;replace HBu:=gB w5.heap.size HBu hg rfl;have HOz:Hid (OwnD 0 (w4.heap.size) 60 6 w9 (.slice a9 m9 c9) (Ex.rows [x,y])):=zz (by rw [show ([x,y]:List Ex)=[x]++[y] from rfl,Ex.rows_app];exact ho);clear ho hg HMy HOW HOs;refine takeA 6 (v:=?_) rfl ?_ ?_;rotate_left;· intros;go_simp;try rfl
   (try simp only [pu]);refine callA 7 rfl fun K hK=>?_;clear qc rc uc;clear hI;have qc:=kcP HP;have rc:=kc6 HBr;have uc:=kc6 HBu;have hI:=iq_1_0_0 q w wx1 w9;go_simp;refine hK.out _ _ (Far.setCell hS14 (.inr (.inl rfl)) _) (fun hS15=>?_);clear hK K;refine wpAnyH_done (by kernel_rfl) ?_ _;clear qc rc uc;generalize ee:World.setCell w9 _ _=w8;have hsz8:=sizeS1 ee;replace HP:=pO1 HP ee;replace HF:=fN1 HF ee;replace HBr:=bF1 HBr ee;replace HBu:Hid (Bo w8 wx1.heap.size 60 #[.int .i64 7,.string (nowT ts i).s,.int .i64 0,.slice a9 m9 c9,.int .i64 l,.int .i64 c]):=zz (by rw [←ee];exact HBu.out.set 3 (.slice a9 m9 c9));replace HOz:=oS1 HOz ee;clear ee;clear hI;have qc:=kcP HP;have rc:=kc6 HBr;have uc:=kc6 HBu;have hI:=iq_1_0_0 q w wx1 w8;have hZ:=iq_1_0_0 q w wx1 w9
   go_wp2_with (fail)
   clear qc rc uc;generalize ee:World.setCell _ ⟨(w.heap.size+1),5,none⟩ _=w9;have hsz9:=sizeS6 ee;replace HP:=pO6 HP ee;replace HF:=fN6 HF ee;replace HBr:=bS6 HBr ee;replace HBu:=bF6 HBu ee;replace HOz:=oS6 HOz ee;clear ee;clear hI hZ;cases hr;have fc:=kc6 HBr;refine bodyPost_ret (v:=.agg #[.int .i64 7,.string (nowT ts i).s,.int .i64 0,.slice a9 m9 c9,.int .i64 l,.int .i64 c]) (by clear HP HF HBr HBu HOz;simp [results,Tryz.results135,go_sem,fc]) rfl ?_;exact ⟨_,_,_,rfl,HF.out.out,HP.out,memNw HOz.out.mem (by omega)⟩
  ·
   have HOW:Hid (OwnD 0 (w4.heap.size) 60 6 w7 (.slice (some ⟨w5.heap.size,0,none⟩) 1 1) (Ex.rows [x])):=HOs;go_simp;refine ((H.ex f (Nat.lt_succ_self f)) (j+1) deep _ _ hd hy HP.out.drew).mono ?_;rintro e wx12 ⟨ay,my,cy,rfl,hf,hp,hm⟩;have hswx12:w7.heap.size≤wx12.heap.size:=hf.size;replace hf:FarQ q w7 wx12:=(FarQ.of (below_drew _)).trans hf;replace HBr:=qB HBr hf;replace HBu:=qB HBu hf;replace HMx:=qM HMx hf;replace HOs:=qO HOs hf;replace HF:=qF HF hf;replace HP:=zz hp;have HMy:Hid (Mem (Nw 0 w7.heap.size _) _ _ _):=zz hm;clear hp hm;simp only [exV];go_simp;refine hK.out _ _ ((Far.mono hf (fun b e=>.inl e))) (fun hS12=>?_);clear hK K;refine twoL 1 4 rfl rfl (by kernel_rfl) (by rfl) (by rfl) (fun K hK=>?_) (fun K hK=>?_)
   ·
    clear qc rc uc;clear hI;have qc:=kcP HP;have rc:=kc6 HBr;have uc:=kc6 HBu;have hI:=iq_1_0_0 q w wx1 wx12;go_simp;refine hK.out _ _ (hS12) (fun hS13=>?_);clear hK K;refine callA 4 rfl fun K hK=>?_;go_simp;refine hK.out _ _ (Far.trans hS13 (Far.of (below_new _ _))) (fun hS14=>?_);clear hK K;refine callA 5 rfl fun K hK=>?_;refine wp_append_D2 _ _ (by rfl) Tryz.underlying58 info_ex rfl (by decide) (by rfl) (by rfl) (HOs.out.alloc _) (newRow HOW.out (by omega) (by omega) HMy.out) (by simp only [Ex.rows_len,List.length_cons,List.length_nil];omega) (by simp only [Ex.rows_len,List.length_cons,List.length_nil];omega) (by rw [World.size_alloc];omega) (fun v9 w9 ho hg=>?_);obtain ⟨a9,m9,c9,rfl⟩:=ho.form';refine hK.out _ _ ?_ (fun hS15=>?_);· exact Far.trans hS14 ((grownFar hg).mono (fun b e=>.inr (.inr (by have e:some (w5.heap.size)=some b:=e;cases e;rfl))))
    clear hK K
    have hs9:wx12.heap.size+1≤w9.heap.size:=by have h:=hg.size;rw [World.size_alloc] at h;exact h
    replace HP:=gP w5.heap.size HP hg rfl;replace HF:=gF w5.heap.size HF hg rfl;replace HBr:=gB w5.heap.size HBr hg rfl;replace HBu:=gB w5.heap.size HBu hg rfl;have HOz:Hid (OwnD 0 (w4.heap.size) 60 6 w9 (.slice a9 m9 c9) (Ex.rows [x,y])):=zz (by rw [show ([x,y]:List Ex)=[x]++[y] from rfl,Ex.rows_app];exact ho);clear ho hg HMy HOW HOs;refine takeA 6 (v:=?_) rfl ?_ ?_;rotate_left;· intros;go_simp;try rfl
    (try simp only [pu]);refine callA 7 rfl fun K hK=>?_;clear qc rc uc;clear hI;have qc:=kcP HP;have rc:=kc6 HBr;have uc:=kc6 HBu;have hI:=iq_1_0_0 q w wx1 w9;go_simp;refine hK.out _ _ (Far.setCell hS15 (.inr (.inl rfl)) _) (fun hS16=>?_);clear hK K;refine wpAnyH_done (by kernel_rfl) ?_ _;clear qc rc uc;generalize ee:World.setCell w9 _ _=w8;have hsz8:=sizeS1 ee;replace HP:=pO1 HP ee;replace HF:=fN1 HF ee;replace HBr:=bF1 HBr ee;replace HBu:Hid (Bo w8 wx1.heap.size 60 #[.int .i64 7,.string (nowT ts i).s,.int .i64 0,.slice a9 m9 c9,.int .i64 l,.int .i64 c]):=zz (by rw [←ee];exact HBu.out.set 3 (.slice a9 m9 c9));replace HOz:=oS1 HOz ee;clear ee;clear hI;have qc:=kcP HP;have rc:=kc6 HBr;have uc:=kc6 HBu;have hI:=iq_1_0_0 q w wx1 w8;have hZ:=iq_1_0_0 q w wx1 w9
    go_wp2_with (fail)
    clear qc rc uc;generalize ee:World.setCell _ ⟨(w.heap.size+1),5,none⟩ _=w9;have hsz9:=sizeS6 ee;replace HP:=pO6 HP ee;replace HF:=fN6 HF ee;replace HBr:=bS6 HBr ee;replace HBu:=bF6 HBu ee;replace HOz:=oS6 HOz ee;clear ee;clear hI hZ;cases hr;have fc:=kc6 HBr;refine bodyPost_ret (v:=.agg #[.int .i64 7,.string (nowT ts i).s,.int .i64 0,.slice a9 m9 c9,.int .i64 l,.int .i64 c]) (by clear HP HF HBr HBu HOz;simp [results,Tryz.results135,go_sem,fc]) rfl ?_;exact ⟨_,_,_,rfl,HF.out.out,HP.out,memNw HOz.out.mem (by omega)⟩
   ·
    go_simp;refine hK.out _ _ (Far.trans hS12 (Far.of (below_new _ _))) (fun hS13=>?_);clear hK K;clear qc rc uc;clear hI;have qc:=kcP HP;have rc:=kc6 HBr;have uc:=kc6 HBu;have hI:=iq_1_0_0 q w wx1 wx12;refine callA 1 rfl fun K hK=>?_;go_simp;refine hK.out _ _ (hS13) (fun hS14=>?_);clear hK K;refine callA 5 rfl fun K hK=>?_;refine wp_append_D2 _ _ (by rfl) Tryz.underlying58 info_ex rfl (by decide) (by rfl) (by rfl) (HOs.out.alloc _) (newRow HOW.out (by omega) (by omega) HMy.out) (by simp only [Ex.rows_len,List.length_cons,List.length_nil];omega) (by simp only [Ex.rows_len,List.length_cons,List.length_nil];omega) (by rw [World.size_alloc];omega) (fun v9 w9 ho hg=>?_);obtain ⟨a9,m9,c9,rfl⟩:=ho.form';refine hK.out _ _ ?_ (fun hS15=>?_);· exact Far.trans hS14 ((grownFar hg).mono (fun b e=>.inr (.inr (by have e:some (w5.heap.size)=some b:=e;cases e;rfl))))
    clear hK K
    have hs9:wx12.heap.size+1≤w9.heap.size:=by have h:=hg.size;rw [World.size_alloc] at h;exact h
    replace HP:=gP w5.heap.size HP hg rfl;replace HF:=gF w5.heap.size HF hg rfl;replace HBr:=gB w5.heap.size HBr hg rfl;replace HBu:=gB w5.heap.size HBu hg rfl;have HOz:Hid (OwnD 0 (w4.heap.size) 60 6 w9 (.slice a9 m9 c9) (Ex.rows [x,y])):=zz (by rw [show ([x,y]:List Ex)=[x]++[y] from rfl,Ex.rows_app];exact ho);clear ho hg HMy HOW HOs;refine takeA 6 (v:=?_) rfl ?_ ?_;rotate_left;· intros;go_simp;try rfl
    (try simp only [pu]);refine callA 7 rfl fun K hK=>?_;clear qc rc uc;clear hI;have qc:=kcP HP;have rc:=kc6 HBr;have uc:=kc6 HBu;have hI:=iq_1_0_0 q w wx1 w9;go_simp;refine hK.out _ _ (Far.setCell hS15 (.inr (.inl rfl)) _) (fun hS16=>?_);clear hK K;refine wpAnyH_done (by kernel_rfl) ?_ _;clear qc rc uc;generalize ee:World.setCell w9 _ _=w8;have hsz8:=sizeS1 ee;replace HP:=pO1 HP ee;replace HF:=fN1 HF ee;replace HBr:=bF1 HBr ee;replace HBu:Hid (Bo w8 wx1.heap.size 60 #[.int .i64 7,.string (nowT ts i).s,.int .i64 0,.slice a9 m9 c9,.int .i64 l,.int .i64 c]):=zz (by rw [←ee];exact HBu.out.set 3 (.slice a9 m9 c9));replace HOz:=oS1 HOz ee;clear ee;clear hI;have qc:=kcP HP;have rc:=kc6 HBr;have uc:=kc6 HBu;have hI:=iq_1_0_0 q w wx1 w8;have hZ:=iq_1_0_0 q w wx1 w9
    go_wp2_with (fail)
    clear qc rc uc;generalize ee:World.setCell _ ⟨(w.heap.size+1),5,none⟩ _=w9;have hsz9:=sizeS6 ee;replace HP:=pO6 HP ee;replace HF:=fN6 HF ee;replace HBr:=bS6 HBr ee;replace HBu:=bF6 HBu ee;replace HOz:=oS6 HOz ee;clear ee;clear hI hZ;cases hr;have fc:=kc6 HBr;refine bodyPost_ret (v:=.agg #[.int .i64 7,.string (nowT ts i).s,.int .i64 0,.slice a9 m9 c9,.int .i64 l,.int .i64 c]) (by clear HP HF HBr HBu HOz;simp [results,Tryz.results135,go_sem,fc]) rfl ?_;exact ⟨_,_,_,rfl,HF.out.out,HP.out,memNw HOz.out.mem (by omega)⟩
 ·
  go_simp;refine hK.out _ _ (Far.trans (Far.of (below_new _ _)) (Far.of (below_drew _))) (fun hS1=>?_);clear hK K;clear qc pc rc;generalize ee:(w1.alloc (.cells #[.int .i64 0,.string ⟨#[]⟩,.int .i64 0,.slice none 0 0,.int .i64 0,.int .i64 0] 60))=w2_1 at *;have hq1:=sizeA ee;replace HP:=pA HP ee;replace HF:=fA HF ee;replace HBp:=bA HBp ee;replace HBr:=bA HBr ee;have HBu:=nB ee (w.heap.size+2);clear ee;generalize ee:(w2_1.drew)=w2 at *;have hq2:=sizeD ee;replace HP:=pD HP ee;replace HF:=fD HF ee;replace HBp:=bD HBp ee;replace HBr:=bD HBr ee;replace HBu:=bD HBu ee;clear ee
  have hsa2:w2.heap.size=w.heap.size+3:=by omega
  clear hq1 hq2;clear hI hZ;refine callA 1 rfl fun K hK=>?_;go_simp;refine (name_ok _ HP.out hk).mono ?_;rintro _ wx2 ⟨rfl,hf,hp⟩;have hswx2:w2.heap.size≤wx2.heap.size:=hf.size;replace HBp:=qB HBp hf;replace HBr:=qB HBr hf;replace HBu:=qB HBu hf;replace HF:=qF HF hf;have hs2:=hf.size;replace HP:=zz hp;clear hp;go_simp;refine hK.out _ _ (Far.trans hS1 hf) (fun hS2=>?_);clear hK K;refine takeA 3 (v:=?_) rfl ?_ ?_;rotate_left;· intros;go_simp;try rfl
  (try simp only [pu]);refine callA 5 rfl fun K hK=>?_;have qc:=kcP HP;have pc:=kc2 HBp;have rc:=kc6 HBr;have uc:=kc6 HBu;have hI:=iq_012_0 q w wx2;go_simp;refine hK.out _ _ ?_ (fun hS3=>?_);· exact (by repeat' (first | with_reducible exact hS2 | with_reducible refine Far.setNew ?_ (by omega) _ _))
  clear hK K;refine wpAnyH_done (by kernel_rfl) ?_ _;clear qc pc rc uc;generalize ee:World.setCell _ ⟨(w.heap.size+2),5,none⟩ _=w3;have hsz3:=sizeS6 ee;replace HP:=pO6 HP ee;replace HF:=fN6 HF ee;replace HBp:=bF6 HBp ee;replace HBr:=bF6 HBr ee;replace HBu:=bS6 HBu ee;clear ee;clear hI;clear HBp;have qc:=kcP HP;have rc:=kc6 HBr;have uc:=kc6 HBu;have hI:=iq_12_0 q w w3;have hZ:=iq_12_0 q w wx2
  go_wp2_with (fail)
  rcases hfr:isT ts (i+1) 5 wFree
  rotate_left
  ·
   simp only [hfr,if_true] at hr;clear qc rc uc;refine (is_any 5 wFree _ HP.out).mono ?_;rintro _ w4 ⟨rfl,hb⟩;have hf:=FarQ.of (q:=q) hb;replace HBr:=qB HBr hf;replace HBu:=qB HBu hf;replace HF:=qF HF hf;have hs4:=hf.size;replace HP:=kP HP hb;clear hf hb;rw [hfr]
   have hov:((i:Int)+1)+1≤9223372036854775807:=by have h1:=isT_lt hfr (by decide);have :=HP.out.len;omega
   clear hI hZ;have qc:=kcP HP;have rc:=kc6 HBr;have uc:=kc6 HBu;have hI:=iq_12_0 q w w4
   go_wp2_with (fail)
   clear qc rc uc;generalize ee:World.setCell w4 _ _=w5;have hsz5:=sizeS1 ee;replace HP:=zz (HP.out.setIE (k:=(i+2)) ee (by omega));replace HF:=zz (HF.out.setQE ee);replace HBr:=bF1 HBr ee;replace HBu:=bF1 HBu ee;clear ee;clear hI;have qc:=kcP HP;have rc:=kc6 HBr;have uc:=kc6 HBu;have hI:=iq_12_0 q w w5;have hZ:=iq_12_0 q w w4
   rcases hin:isT ts (i+2) 5 wIn
   ·
    first | simp only [hin,Bool.false_eq_true,if_false] at hr | simp only [takeT,hin,Bool.false_eq_true,if_false] at hr
    cases hr;clear qc rc uc;refine (take_bad 5 wIn _ HP.out hin).mono ?_;rintro _ w6 ⟨rfl,hb⟩;have hf:=FarQ.of (q:=q) hb;have hbo:=(HP.out.keep hb).any
    go_wp2_with (fail)
    exact ⟨rfl,rfl,FarB.out (HF.out.farq hf),hbo⟩
   first | simp only [hin,if_true] at hr | simp only [takeT,hin,if_true] at hr
   clear qc rc uc;refine (take_ok 5 wIn _ HP.out hin (by decide)).mono ?_;rintro _ w6 ⟨rfl,hf,hp⟩;replace HBr:=qB HBr hf;replace HBu:=qB HBu hf;replace HF:=qF HF hf;have hs6:=hf.size;replace HP:=zz hp;clear hf hp;clear hI hZ;have qc:=kcP HP;have rc:=kc6 HBr;have uc:=kc6 HBu;have hI:=iq_12_0 q w w6
   go_wp2_with (fail)
   refine wp_region_held_drew (S:=fun w'=>Far (fun b=>b=q∨b=(w.heap.size+2)) (w6) w') (by kernel_rfl) (Far.of (below_drew _)) (fun hS10=>?_);refine takeA 0 (v:=?_) rfl ?_ ?_;rotate_left;· intros;go_simp;try rfl
   (try simp only [pu]);refine takeA 2 (v:=?_) rfl ?_ ?_;rotate_left;· intros;go_simp;try rfl
   (try simp only [pu])
   rcases hy:readE ts f .expr (i+3) deep with _ | ⟨y,k⟩ | ⟨l_,c_⟩
   · (rw [hy] at hr;cases hr)
   rotate_left
   ·
    rw [hy] at hr
    first | simp only at hr | simp only [andT] at hr
    cases hr;refine twoL 1 3 rfl rfl (by kernel_rfl) (by rfl) (by rfl) (fun K hK=>?_) (fun K hK=>?_)
    ·
     go_simp;refine hK.out _ _ (hS10) (fun hS11=>?_);clear hK K;refine callA 3 rfl fun K hK=>?_;go_simp;refine ((H.ex f (Nat.lt_succ_self f)) (i+3) deep _ _ hd hy HP.out.drew).mono ?_;rintro e wx19 ⟨rfl,hf,hbo⟩
     go_wp2_with (fail)
     exact ⟨rfl,rfl,FarB.out (HF.out.drew.farq hf),hbo⟩
    ·
     go_simp;refine ((H.ex f (Nat.lt_succ_self f)) (i+3) deep _ _ hd hy HP.out.drew).mono ?_;rintro e wx19 ⟨rfl,hf,hbo⟩
     go_wp2_with (fail)
     exact ⟨rfl,rfl,FarB.out (HF.out.drew.farq hf),hbo⟩
   rw [hy] at hr
   first | simp only at hr | simp only [andT] at hr
   refine twoL 1 3 rfl rfl (by kernel_rfl) (by rfl) (by rfl) (fun K hK=>?_) (fun K hK=>?_)
   ·
    go_simp;refine hK.out _ _ (hS10) (fun hS11=>?_);clear hK K;refine callA 3 rfl fun K hK=>?_;have HOW:Hid (OwnD 0 (w6.heap.size) 60 6 w6 (.slice none 0 0) (Ex.rows [])):=zz (OwnD.nil _ _ _ _ _);go_simp;refine ((H.ex f (Nat.lt_succ_self f)) (i+3) deep _ _ hd hy HP.out.drew).mono ?_;rintro e wx12 ⟨ay,my,cy,rfl,hf,hp,hm⟩;have hswx12:w6.heap.size≤wx12.heap.size:=hf.size;replace hf:FarQ q w6 wx12:=(FarQ.of (below_drew _)).trans hf;replace HBr:=qB HBr hf;replace HBu:=qB HBu hf;replace HF:=qF HF hf;replace HP:=zz hp;have HMy:Hid (Mem (Nw 0 w6.heap.size _) _ _ _):=zz hm;clear hp hm;simp only [exV];go_simp;refine hK.out _ _ ((Far.mono hf (fun b e=>.inl e))) (fun hS12=>?_);clear hK K;refine callA 4 rfl fun K hK=>?_;go_simp;refine hK.out _ _ (Far.trans hS12 (Far.of (below_new _ _))) (fun hS13=>?_);clear hK K;refine callA 5 rfl fun K hK=>?_;refine wp_append_D2 _ _ (by rfl) Tryz.underlying58 info_ex rfl (by decide) (by rfl) (by rfl) (OwnD.nil 0 (w6.heap.size) 60 6 _) (newRow HOW.out (by omega) (by omega) HMy.out) (by simp only [Ex.rows_len,List.length_cons,List.length_nil];omega) (by simp only [Ex.rows_len,List.length_cons,List.length_nil];omega) (by rw [World.size_alloc];omega) (fun v9 w9 ho hg=>?_);obtain ⟨a9,m9,c9,rfl⟩:=ho.form';refine hK.out _ _ ?_ (fun hS14=>?_);· exact Far.trans hS13 ((grownFar hg).mono (fun b e=>by cases e))
    clear hK K
    have hs9:wx12.heap.size+1≤w9.heap.size:=by have h:=hg.size;rw [World.size_alloc] at h;exact h
    replace HP:=rP HP hg rfl;replace HF:=rF HF hg rfl;replace HBr:=rB HBr hg rfl;replace HBu:=rB HBu hg rfl;have HOz:Hid (OwnD 0 (w6.heap.size) 60 6 w9 (.slice a9 m9 c9) (Ex.rows [y])):=zz (by rw [show ([y]:List Ex)=[]++[y] from rfl,Ex.rows_app];exact ho);clear ho hg HMy HOW;refine takeA 6 (v:=?_) rfl ?_ ?_;rotate_left;· intros;go_simp;try rfl
    (try simp only [pu]);refine callA 7 rfl fun K hK=>?_;clear qc rc uc;clear hI;have qc:=kcP HP;have rc:=kc6 HBr;have uc:=kc6 HBu;have hI:=iq_12_0 q w w9;go_simp;refine hK.out _ _ (Far.setCell hS14 (.inr rfl) _) (fun hS15=>?_);clear hK K;refine wpAnyH_done (by kernel_rfl) ?_ _;clear qc rc uc;generalize ee:World.setCell w9 _ _=w7;have hsz7:=sizeS1 ee;replace HP:=pO1 HP ee;replace HF:=fN1 HF ee;replace HBr:=bF1 HBr ee;replace HBu:Hid (Bo w7 (w.heap.size+2) 60 #[.int .i64 8,.string (nowT ts i).s,.int .i64 0,.slice a9 m9 c9,.int .i64 l,.int .i64 c]):=zz (by rw [←ee];exact HBu.out.set 3 (.slice a9 m9 c9));replace HOz:=oS1 HOz ee;clear ee;clear hI;have qc:=kcP HP;have rc:=kc6 HBr;have uc:=kc6 HBu;have hI:=iq_12_0 q w w7;have hZ:=iq_12_0 q w w9
    go_wp2_with (fail)
    clear qc rc uc;generalize ee:World.setCell _ ⟨(w.heap.size+1),5,none⟩ _=w8;have hsz8:=sizeS6 ee;replace HP:=pO6 HP ee;replace HF:=fN6 HF ee;replace HBr:=bS6 HBr ee;replace HBu:=bF6 HBu ee;replace HOz:=oS6 HOz ee;clear ee;clear hI hZ;cases hr;have fc:=kc6 HBr;refine bodyPost_ret (v:=.agg #[.int .i64 8,.string (nowT ts i).s,.int .i64 0,.slice a9 m9 c9,.int .i64 l,.int .i64 c]) (by clear HP HF HBr HBu HOz;simp [results,Tryz.results135,go_sem,fc]) rfl ?_;exact ⟨_,_,_,rfl,HF.out.out,HP.out,memNw HOz.out.mem (by omega)⟩
   ·
    have HOW:Hid (OwnD 0 (w6.heap.size) 60 6 w6 (.slice none 0 0) (Ex.rows [])):=zz (OwnD.nil _ _ _ _ _);go_simp;refine ((H.ex f (Nat.lt_succ_self f)) (i+3) deep _ _ hd hy HP.out.drew).mono ?_;rintro e wx12 ⟨ay,my,cy,rfl,hf,hp,hm⟩;have hswx12:w6.heap.size≤wx12.heap.size:=hf.size;replace hf:FarQ q w6 wx12:=(FarQ.of (below_drew _)).trans hf;replace HBr:=qB HBr hf;replace HBu:=qB HBu hf;replace HF:=qF HF hf;replace HP:=zz hp;have HMy:Hid (Mem (Nw 0 w6.heap.size _) _ _ _):=zz hm;clear hp hm;simp only [exV];go_simp;refine hK.out _ _ ((Far.mono hf (fun b e=>.inl e))) (fun hS12=>?_);clear hK K;refine twoL 1 4 rfl rfl (by kernel_rfl) (by rfl) (by rfl) (fun K hK=>?_) (fun K hK=>?_)
    ·
     clear qc rc uc;clear hI;have qc:=kcP HP;have rc:=kc6 HBr;have uc:=kc6 HBu;have hI:=iq_12_0 q w wx12;go_simp;refine hK.out _ _ (hS12) (fun hS13=>?_);clear hK K;refine callA 4 rfl fun K hK=>?_;go_simp;refine hK.out _ _ (Far.trans hS13 (Far.of (below_new _ _))) (fun hS14=>?_);clear hK K;refine callA 5 rfl fun K hK=>?_;refine wp_append_D2 _ _ (by rfl) Tryz.underlying58 info_ex rfl (by decide) (by rfl) (by rfl) (OwnD.nil 0 (w6.heap.size) 60 6 _) (newRow HOW.out (by omega) (by omega) HMy.out) (by simp only [Ex.rows_len,List.length_cons,List.length_nil];omega) (by simp only [Ex.rows_len,List.length_cons,List.length_nil];omega) (by rw [World.size_alloc];omega) (fun v9 w9 ho hg=>?_);obtain ⟨a9,m9,c9,rfl⟩:=ho.form';refine hK.out _ _ ?_ (fun hS15=>?_);· exact Far.trans hS14 ((grownFar hg).mono (fun b e=>by cases e))
     clear hK K
     have hs9:wx12.heap.size+1≤w9.heap.size:=by have h:=hg.size;rw [World.size_alloc] at h;exact h
     replace HP:=rP HP hg rfl;replace HF:=rF HF hg rfl;replace HBr:=rB HBr hg rfl;replace HBu:=rB HBu hg rfl;have HOz:Hid (OwnD 0 (w6.heap.size) 60 6 w9 (.slice a9 m9 c9) (Ex.rows [y])):=zz (by rw [show ([y]:List Ex)=[]++[y] from rfl,Ex.rows_app];exact ho);clear ho hg HMy HOW;refine takeA 6 (v:=?_) rfl ?_ ?_;rotate_left;· intros;go_simp;try rfl
     (try simp only [pu]);refine callA 7 rfl fun K hK=>?_;clear qc rc uc;clear hI;have qc:=kcP HP;have rc:=kc6 HBr;have uc:=kc6 HBu;have hI:=iq_12_0 q w w9;go_simp;refine hK.out _ _ (Far.setCell hS15 (.inr rfl) _) (fun hS16=>?_);clear hK K;refine wpAnyH_done (by kernel_rfl) ?_ _;clear qc rc uc;generalize ee:World.setCell w9 _ _=w7;have hsz7:=sizeS1 ee;replace HP:=pO1 HP ee;replace HF:=fN1 HF ee;replace HBr:=bF1 HBr ee;replace HBu:Hid (Bo w7 (w.heap.size+2) 60 #[.int .i64 8,.string (nowT ts i).s,.int .i64 0,.slice a9 m9 c9,.int .i64 l,.int .i64 c]):=zz (by rw [←ee];exact HBu.out.set 3 (.slice a9 m9 c9));replace HOz:=oS1 HOz ee;clear ee;clear hI;have qc:=kcP HP;have rc:=kc6 HBr;have uc:=kc6 HBu;have hI:=iq_12_0 q w w7;have hZ:=iq_12_0 q w w9
     go_wp2_with (fail)
     clear qc rc uc;generalize ee:World.setCell _ ⟨(w.heap.size+1),5,none⟩ _=w8;have hsz8:=sizeS6 ee;replace HP:=pO6 HP ee;replace HF:=fN6 HF ee;replace HBr:=bS6 HBr ee;replace HBu:=bF6 HBu ee;replace HOz:=oS6 HOz ee;clear ee;clear hI hZ;cases hr;have fc:=kc6 HBr;refine bodyPost_ret (v:=.agg #[.int .i64 8,.string (nowT ts i).s,.int .i64 0,.slice a9 m9 c9,.int .i64 l,.int .i64 c]) (by clear HP HF HBr HBu HOz;simp [results,Tryz.results135,go_sem,fc]) rfl ?_;exact ⟨_,_,_,rfl,HF.out.out,HP.out,memNw HOz.out.mem (by omega)⟩
    ·
     go_simp;refine hK.out _ _ (Far.trans hS12 (Far.of (below_new _ _))) (fun hS13=>?_);clear hK K;clear qc rc uc;clear hI;have qc:=kcP HP;have rc:=kc6 HBr;have uc:=kc6 HBu;have hI:=iq_12_0 q w wx12;refine callA 1 rfl fun K hK=>?_;go_simp;refine hK.out _ _ (hS13) (fun hS14=>?_);clear hK K;refine callA 5 rfl fun K hK=>?_;refine wp_append_D2 _ _ (by rfl) Tryz.underlying58 info_ex rfl (by decide) (by rfl) (by rfl) (OwnD.nil 0 (w6.heap.size) 60 6 _) (newRow HOW.out (by omega) (by omega) HMy.out) (by simp only [Ex.rows_len,List.length_cons,List.length_nil];omega) (by simp only [Ex.rows_len,List.length_cons,List.length_nil];omega) (by rw [World.size_alloc];omega) (fun v9 w9 ho hg=>?_);obtain ⟨a9,m9,c9,rfl⟩:=ho.form';refine hK.out _ _ ?_ (fun hS15=>?_);· exact Far.trans hS14 ((grownFar hg).mono (fun b e=>by cases e))
     clear hK K
     have hs9:wx12.heap.size+1≤w9.heap.size:=by have h:=hg.size;rw [World.size_alloc] at h;exact h
     replace HP:=rP HP hg rfl;replace HF:=rF HF hg rfl;replace HBr:=rB HBr hg rfl;replace HBu:=rB HBu hg rfl;have HOz:Hid (OwnD 0 (w6.heap.size) 60 6 w9 (.slice a9 m9 c9) (Ex.rows [y])):=zz (by rw [show ([y]:List Ex)=[]++[y] from rfl,Ex.rows_app];exact ho);clear ho hg HMy HOW;refine takeA 6 (v:=?_) rfl ?_ ?_;rotate_left;· intros;go_simp;try rfl
     (try simp only [pu]);refine callA 7 rfl fun K hK=>?_;clear qc rc uc;clear hI;have qc:=kcP HP;have rc:=kc6 HBr;have uc:=kc6 HBu;have hI:=iq_12_0 q w w9;go_simp;refine hK.out _ _ (Far.setCell hS15 (.inr rfl) _) (fun hS16=>?_);clear hK K;refine wpAnyH_done (by kernel_rfl) ?_ _;clear qc rc uc;generalize ee:World.setCell w9 _ _=w7;have hsz7:=sizeS1 ee;replace HP:=pO1 HP ee;replace HF:=fN1 HF ee;replace HBr:=bF1 HBr ee;replace HBu:Hid (Bo w7 (w.heap.size+2) 60 #[.int .i64 8,.string (nowT ts i).s,.int .i64 0,.slice a9 m9 c9,.int .i64 l,.int .i64 c]):=zz (by rw [←ee];exact HBu.out.set 3 (.slice a9 m9 c9));replace HOz:=oS1 HOz ee;clear ee;clear hI;have qc:=kcP HP;have rc:=kc6 HBr;have uc:=kc6 HBu;have hI:=iq_12_0 q w w7;have hZ:=iq_12_0 q w w9
     go_wp2_with (fail)
     clear qc rc uc;generalize ee:World.setCell _ ⟨(w.heap.size+1),5,none⟩ _=w8;have hsz8:=sizeS6 ee;replace HP:=pO6 HP ee;replace HF:=fN6 HF ee;replace HBr:=bS6 HBr ee;replace HBu:=bF6 HBu ee;replace HOz:=oS6 HOz ee;clear ee;clear hI hZ;cases hr;have fc:=kc6 HBr;refine bodyPost_ret (v:=.agg #[.int .i64 8,.string (nowT ts i).s,.int .i64 0,.slice a9 m9 c9,.int .i64 l,.int .i64 c]) (by clear HP HF HBr HBu HOz;simp [results,Tryz.results135,go_sem,fc]) rfl ?_;exact ⟨_,_,_,rfl,HF.out.out,HP.out,memNw HOz.out.mem (by omega)⟩
  simp only [hfr,Bool.false_eq_true,if_false] at hr;clear qc rc uc;refine (is_any 5 wFree _ HP.out).mono ?_;rintro _ w4 ⟨rfl,hb⟩;have hf:=FarQ.of (q:=q) hb;replace HBr:=qB HBr hf;replace HBu:=qB HBu hf;replace HF:=qF HF hf;have hs4:=hf.size;replace HP:=kP HP hb;clear hf hb;rw [hfr];clear hI hZ;have qc:=kcP HP;have rc:=kc6 HBr;have uc:=kc6 HBu;have hI:=iq_12_0 q w w4
  go_wp2_with (fail)
  rcases heq:isT ts (i+1) 6 wEq
  ·
   first | simp only [heq,Bool.false_eq_true,if_false] at hr | simp only [takeT,heq,Bool.false_eq_true,if_false] at hr
   cases hr;clear qc rc uc;refine (take_bad 6 wEq _ HP.out heq).mono ?_;rintro _ w5 ⟨rfl,hb⟩;have hf:=FarQ.of (q:=q) hb;have hbo:=(HP.out.keep hb).any
   go_wp2_with (fail)
   exact ⟨rfl,rfl,FarB.out (HF.out.farq hf),hbo⟩
  first | simp only [heq,if_true] at hr | simp only [takeT,heq,if_true] at hr
  clear qc rc uc;refine (take_ok 6 wEq _ HP.out heq (by decide)).mono ?_;rintro _ w5 ⟨rfl,hf,hp⟩;replace HBr:=qB HBr hf;replace HBu:=qB HBu hf;replace HF:=qF HF hf;have hs5:=hf.size;replace HP:=zz hp;clear hf hp;clear hI;have qc:=kcP HP;have rc:=kc6 HBr;have uc:=kc6 HBu;have hI:=iq_12_0 q w w5
  go_wp2_with (fail)
  rcases hx:readE ts f .expr (i+2) deep with _ | ⟨x,j⟩ | ⟨l_,c_⟩
  · (rw [hx] at hr;cases hr)
  rotate_left
  ·
   rw [hx] at hr
   first | simp only at hr | simp only [andT] at hr
   cases hr;clear qc rc uc;refine ((H.ex f (Nat.lt_succ_self f)) (i+2) deep _ _ hd hx HP.out).mono ?_;rintro _ w6 ⟨rfl,hf,hbo⟩
   go_wp2_with (fail)
   exact ⟨rfl,rfl,FarB.out (HF.out.farq hf),hbo⟩
  rw [hx] at hr
  first | simp only at hr | simp only [andT] at hr
  clear qc rc uc;refine ((H.ex f (Nat.lt_succ_self f)) (i+2) deep _ _ hd hx HP.out).mono ?_;rintro _ w6 ⟨ax,mx,cx,rfl,hf,hp,hm⟩;replace HBr:=qB HBr hf;replace HBu:=qB HBu hf;replace HF:=qF HF hf;have hs6:=hf.size;replace HP:=zz hp;have HMx:=zz hm;clear hf hp hm;simp only [exV];clear hI;have qc:=kcP HP;have rc:=kc6 HBr;have uc:=kc6 HBu;have hI:=iq_12_0 q w w6
  go_wp2_with (fail)
  clear qc rc uc;generalize ee:World.setCell w6 _ _=w7_1;have hq1:=sizeS1 ee;replace HP:=pO1 HP ee;replace HF:=fN1 HF ee;replace HBr:=bF1 HBr ee;replace HBu:Hid (Bo w7_1 (w.heap.size+2) 60 #[.int .i64 7,.string (nowT ts i).s,.int .i64 0,.slice none 0 0,.int .i64 l,.int .i64 c]):=zz (by rw [←ee];exact HBu.out.set 0 (.int .i64 7));replace HMx:=mS1 HMx ee;clear ee;generalize ee:World.setCell w7_1 _ _=w7_2;have hq2:=sizeS1 ee;replace HP:=pO1 HP ee;replace HF:=fN1 HF ee;replace HBr:=bF1 HBr ee;replace HBu:Hid (Bo w7_2 (w.heap.size+2) 60 #[.int .i64 7,.string (nowT ts i).s,.int .i64 0,.slice (some ⟨w6.heap.size,0,none⟩) 1 1,.int .i64 l,.int .i64 c]):=zz (by rw [←ee];exact HBu.out.set 3 (.slice (some ⟨w6.heap.size,0,none⟩) 1 1));replace HMx:=mS1 HMx ee;clear ee;generalize ee:World.alloc w7_2 _=w7;have hq3:=sizeA ee;have HNEW:=zz (builtE1E (base:=w5.heap.size) (memNw HMx.out (by omega)) ee (b:=w6.heap.size) (by omega) (by omega));replace HP:=pA HP ee;replace HF:=fA HF ee;replace HBr:=bA HBr ee;replace HBu:=bA HBu ee;replace HMx:=mA HMx ee;have HOs:=HNEW;clear HNEW;clear ee
  have hsa7:w7.heap.size=w6.heap.size+1:=by omega
  clear hq1 hq2 hq3;clear hI;have qc:=kcP HP;have rc:=kc6 HBr;have uc:=kc6 HBu;have hI:=iq_12_0 q w w7;have hZ:=iq_12_1 q w w6
  rcases hin:isT ts j 5 wIn
  ·
   first | simp only [hin,Bool.false_eq_true,if_false] at hr | simp only [takeT,hin,Bool.false_eq_true,if_false] at hr
   cases hr;clear qc rc uc;refine (take_bad 5 wIn _ HP.out hin).mono ?_;rintro _ w8 ⟨rfl,hb⟩;have hf:=FarQ.of (q:=q) hb;have hbo:=(HP.out.keep hb).any
   go_wp2_with (fail)
   exact ⟨rfl,rfl,FarB.out (HF.out.farq hf),hbo⟩
  first | simp only [hin,if_true] at hr | simp only [takeT,hin,if_true] at hr
  clear qc rc uc;refine (take_ok 5 wIn _ HP.out hin (by decide)).mono ?_;rintro _ w8 ⟨rfl,hf,hp⟩;replace HBr:=qB HBr hf;replace HBu:=qB HBu hf;replace HMx:=qM HMx hf;replace HOs:=qO HOs hf;replace HF:=qF HF hf;have hs8:=hf.size;replace HP:=zz hp;clear hf hp;clear hI hZ;have qc:=kcP HP;have rc:=kc6 HBr;have uc:=kc6 HBu;have hI:=iq_12_0 q w w8
  go_wp2_with (fail)
  refine wp_region_held_drew (S:=fun w'=>Far (fun b=>b=q∨b=(w.heap.size+2)∨b=w6.heap.size) (w8) w') (by kernel_rfl) (Far.of (below_drew _)) (fun hS10=>?_);refine takeA 0 (v:=?_) rfl ?_ ?_;rotate_left;· intros;go_simp;try rfl
  (try simp only [pu]);refine takeA 2 (v:=?_) rfl ?_ ?_;rotate_left;· intros;go_simp;try rfl
  (try simp only [pu])
  rcases hy:readE ts f .expr (j+1) deep with _ | ⟨y,k⟩ | ⟨l_,c_⟩
  · (rw [hy] at hr;cases hr)
  rotate_left
  ·
   rw [hy] at hr
   first | simp only at hr | simp only [andT] at hr
   cases hr;refine twoL 1 3 rfl rfl (by kernel_rfl) (by rfl) (by rfl) (fun K hK=>?_) (fun K hK=>?_)
   ·
    go_simp;refine hK.out _ _ (hS10) (fun hS11=>?_);clear hK K;refine callA 3 rfl fun K hK=>?_;go_simp;refine ((H.ex f (Nat.lt_succ_self f)) (j+1) deep _ _ hd hy HP.out.drew).mono ?_;rintro e wx19 ⟨rfl,hf,hbo⟩
    go_wp2_with (fail)
    exact ⟨rfl,rfl,FarB.out (HF.out.drew.farq hf),hbo⟩
   ·
    go_simp;refine ((H.ex f (Nat.lt_succ_self f)) (j+1) deep _ _ hd hy HP.out.drew).mono ?_;rintro e wx19 ⟨rfl,hf,hbo⟩
    go_wp2_with (fail)
    exact ⟨rfl,rfl,FarB.out (HF.out.drew.farq hf),hbo⟩
  rw [hy] at hr
  first | simp only at hr | simp only [andT] at hr
  refine twoL 1 3 rfl rfl (by kernel_rfl) (by rfl) (by rfl) (fun K hK=>?_) (fun K hK=>?_)
  ·
   go_simp;refine hK.out _ _ (hS10) (fun hS11=>?_);clear hK K;refine callA 3 rfl fun K hK=>?_;have HOW:Hid (OwnD 0 (w5.heap.size) 60 6 w8 (.slice (some ⟨w6.heap.size,0,none⟩) 1 1) (Ex.rows [x])):=HOs;go_simp;refine ((H.ex f (Nat.lt_succ_self f)) (j+1) deep _ _ hd hy HP.out.drew).mono ?_;rintro e wx12 ⟨ay,my,cy,rfl,hf,hp,hm⟩;have hswx12:w8.heap.size≤wx12.heap.size:=hf.size;replace hf:FarQ q w8 wx12:=(FarQ.of (below_drew _)).trans hf;replace HBr:=qB HBr hf;replace HBu:=qB HBu hf;replace HMx:=qM HMx hf;replace HOs:=qO HOs hf;replace HF:=qF HF hf;replace HP:=zz hp;have HMy:Hid (Mem (Nw 0 w8.heap.size _) _ _ _):=zz hm;clear hp hm;simp only [exV];go_simp;refine hK.out _ _ ((Far.mono hf (fun b e=>.inl e))) (fun hS12=>?_);clear hK K;refine callA 4 rfl fun K hK=>?_;go_simp;refine hK.out _ _ (Far.trans hS12 (Far.of (below_new _ _))) (fun hS13=>?_);clear hK K;refine callA 5 rfl fun K hK=>?_;refine wp_append_D2 _ _ (by rfl) Tryz.underlying58 info_ex rfl (by decide) (by rfl) (by rfl) (HOs.out.alloc _) (newRow HOW.out (by omega) (by omega) HMy.out) (by simp only [Ex.rows_len,List.length_cons,List.length_nil];omega) (by simp only [Ex.rows_len,List.length_cons,List.length_nil];omega) (by rw [World.size_alloc];omega) (fun v9 w9 ho hg=>?_);obtain ⟨a9,m9,c9,rfl⟩:=ho.form';refine hK.out _ _ ?_ (fun hS14=>?_);· exact Far.trans hS13 ((grownFar hg).mono (fun b e=>.inr (.inr (by have e:some (w6.heap.size)=some b:=e;cases e;rfl))))
   clear hK K
   have hs9:wx12.heap.size+1≤w9.heap.size:=by have h:=hg.size;rw [World.size_alloc] at h;exact h
   replace HP:=gP w6.heap.size HP hg rfl;replace HF:=gF w6.heap.size HF hg rfl;replace HBr:=gB w6.heap.size HBr hg rfl;replace HBu:=gB w6.heap.size HBu hg rfl;have HOz:Hid (OwnD 0 (w5.heap.size) 60 6 w9 (.slice a9 m9 c9) (Ex.rows [x,y])):=zz (by rw [show ([x,y]:List Ex)=[x]++[y] from rfl,Ex.rows_app];exact ho);clear ho hg HMy HOW HOs;refine takeA 6 (v:=?_) rfl ?_ ?_;rotate_left;· intros;go_simp;try rfl
   (try simp only [pu]);refine callA 7 rfl fun K hK=>?_;clear qc rc uc;clear hI;have qc:=kcP HP;have rc:=kc6 HBr;have uc:=kc6 HBu;have hI:=iq_12_0 q w w9;go_simp;refine hK.out _ _ (Far.setCell hS14 (.inr (.inl rfl)) _) (fun hS15=>?_);clear hK K;refine wpAnyH_done (by kernel_rfl) ?_ _;clear qc rc uc;generalize ee:World.setCell w9 _ _=w10;have hsz10:=sizeS1 ee;replace HP:=pO1 HP ee;replace HF:=fN1 HF ee;replace HBr:=bF1 HBr ee;replace HBu:Hid (Bo w10 (w.heap.size+2) 60 #[.int .i64 7,.string (nowT ts i).s,.int .i64 0,.slice a9 m9 c9,.int .i64 l,.int .i64 c]):=zz (by rw [←ee];exact HBu.out.set 3 (.slice a9 m9 c9));replace HOz:=oS1 HOz ee;clear ee;clear hI;have qc:=kcP HP;have rc:=kc6 HBr;have uc:=kc6 HBu;have hI:=iq_12_0 q w w10;have hZ:=iq_12_0 q w w9
   go_wp2_with (fail)
   clear qc rc uc;generalize ee:World.setCell _ ⟨(w.heap.size+1),5,none⟩ _=w11;have hsz11:=sizeS6 ee;replace HP:=pO6 HP ee;replace HF:=fN6 HF ee;replace HBr:=bS6 HBr ee;replace HBu:=bF6 HBu ee;replace HOz:=oS6 HOz ee;clear ee;clear hI hZ;cases hr;have fc:=kc6 HBr;refine bodyPost_ret (v:=.agg #[.int .i64 7,.string (nowT ts i).s,.int .i64 0,.slice a9 m9 c9,.int .i64 l,.int .i64 c]) (by clear HP HF HBr HBu HOz;simp [results,Tryz.results135,go_sem,fc]) rfl ?_;exact ⟨_,_,_,rfl,HF.out.out,HP.out,memNw HOz.out.mem (by omega)⟩
  ·
   have HOW:Hid (OwnD 0 (w5.heap.size) 60 6 w8 (.slice (some ⟨w6.heap.size,0,none⟩) 1 1) (Ex.rows [x])):=HOs;go_simp;refine ((H.ex f (Nat.lt_succ_self f)) (j+1) deep _ _ hd hy HP.out.drew).mono ?_;rintro e wx12 ⟨ay,my,cy,rfl,hf,hp,hm⟩;have hswx12:w8.heap.size≤wx12.heap.size:=hf.size;replace hf:FarQ q w8 wx12:=(FarQ.of (below_drew _)).trans hf;replace HBr:=qB HBr hf;replace HBu:=qB HBu hf;replace HMx:=qM HMx hf;replace HOs:=qO HOs hf;replace HF:=qF HF hf;replace HP:=zz hp;have HMy:Hid (Mem (Nw 0 w8.heap.size _) _ _ _):=zz hm;clear hp hm;simp only [exV];go_simp;refine hK.out _ _ ((Far.mono hf (fun b e=>.inl e))) (fun hS12=>?_);clear hK K;refine twoL 1 4 rfl rfl (by kernel_rfl) (by rfl) (by rfl) (fun K hK=>?_) (fun K hK=>?_)
   ·
    clear qc rc uc;clear hI;have qc:=kcP HP;have rc:=kc6 HBr;have uc:=kc6 HBu;have hI:=iq_12_0 q w wx12;go_simp;refine hK.out _ _ (hS12) (fun hS13=>?_);clear hK K;refine callA 4 rfl fun K hK=>?_;go_simp;refine hK.out _ _ (Far.trans hS13 (Far.of (below_new _ _))) (fun hS14=>?_);clear hK K;refine callA 5 rfl fun K hK=>?_;refine wp_append_D2 _ _ (by rfl) Tryz.underlying58 info_ex rfl (by decide) (by rfl) (by rfl) (HOs.out.alloc _) (newRow HOW.out (by omega) (by omega) HMy.out) (by simp only [Ex.rows_len,List.length_cons,List.length_nil];omega) (by simp only [Ex.rows_len,List.length_cons,List.length_nil];omega) (by rw [World.size_alloc];omega) (fun v9 w9 ho hg=>?_);obtain ⟨a9,m9,c9,rfl⟩:=ho.form';refine hK.out _ _ ?_ (fun hS15=>?_);· exact Far.trans hS14 ((grownFar hg).mono (fun b e=>.inr (.inr (by have e:some (w6.heap.size)=some b:=e;cases e;rfl))))
    clear hK K
    have hs9:wx12.heap.size+1≤w9.heap.size:=by have h:=hg.size;rw [World.size_alloc] at h;exact h
    replace HP:=gP w6.heap.size HP hg rfl;replace HF:=gF w6.heap.size HF hg rfl;replace HBr:=gB w6.heap.size HBr hg rfl;replace HBu:=gB w6.heap.size HBu hg rfl;have HOz:Hid (OwnD 0 (w5.heap.size) 60 6 w9 (.slice a9 m9 c9) (Ex.rows [x,y])):=zz (by rw [show ([x,y]:List Ex)=[x]++[y] from rfl,Ex.rows_app];exact ho);clear ho hg HMy HOW HOs;refine takeA 6 (v:=?_) rfl ?_ ?_;rotate_left;· intros;go_simp;try rfl
    (try simp only [pu]);refine callA 7 rfl fun K hK=>?_;clear qc rc uc;clear hI;have qc:=kcP HP;have rc:=kc6 HBr;have uc:=kc6 HBu;have hI:=iq_12_0 q w w9;go_simp;refine hK.out _ _ (Far.setCell hS15 (.inr (.inl rfl)) _) (fun hS16=>?_);clear hK K;refine wpAnyH_done (by kernel_rfl) ?_ _;clear qc rc uc;generalize ee:World.setCell w9 _ _=w10;have hsz10:=sizeS1 ee;replace HP:=pO1 HP ee;replace HF:=fN1 HF ee;replace HBr:=bF1 HBr ee;replace HBu:Hid (Bo w10 (w.heap.size+2) 60 #[.int .i64 7,.string (nowT ts i).s,.int .i64 0,.slice a9 m9 c9,.int .i64 l,.int .i64 c]):=zz (by rw [←ee];exact HBu.out.set 3 (.slice a9 m9 c9));replace HOz:=oS1 HOz ee;clear ee;clear hI;have qc:=kcP HP;have rc:=kc6 HBr;have uc:=kc6 HBu;have hI:=iq_12_0 q w w10;have hZ:=iq_12_0 q w w9
    go_wp2_with (fail)
    clear qc rc uc;generalize ee:World.setCell _ ⟨(w.heap.size+1),5,none⟩ _=w11;have hsz11:=sizeS6 ee;replace HP:=pO6 HP ee;replace HF:=fN6 HF ee;replace HBr:=bS6 HBr ee;replace HBu:=bF6 HBu ee;replace HOz:=oS6 HOz ee;clear ee;clear hI hZ;cases hr;have fc:=kc6 HBr;refine bodyPost_ret (v:=.agg #[.int .i64 7,.string (nowT ts i).s,.int .i64 0,.slice a9 m9 c9,.int .i64 l,.int .i64 c]) (by clear HP HF HBr HBu HOz;simp [results,Tryz.results135,go_sem,fc]) rfl ?_;exact ⟨_,_,_,rfl,HF.out.out,HP.out,memNw HOz.out.mem (by omega)⟩
   ·
    go_simp;refine hK.out _ _ (Far.trans hS12 (Far.of (below_new _ _))) (fun hS13=>?_);clear hK K;clear qc rc uc;clear hI;have qc:=kcP HP;have rc:=kc6 HBr;have uc:=kc6 HBu;have hI:=iq_12_0 q w wx12;refine callA 1 rfl fun K hK=>?_;go_simp;refine hK.out _ _ (hS13) (fun hS14=>?_);clear hK K;refine callA 5 rfl fun K hK=>?_;refine wp_append_D2 _ _ (by rfl) Tryz.underlying58 info_ex rfl (by decide) (by rfl) (by rfl) (HOs.out.alloc _) (newRow HOW.out (by omega) (by omega) HMy.out) (by simp only [Ex.rows_len,List.length_cons,List.length_nil];omega) (by simp only [Ex.rows_len,List.length_cons,List.length_nil];omega) (by rw [World.size_alloc];omega) (fun v9 w9 ho hg=>?_);obtain ⟨a9,m9,c9,rfl⟩:=ho.form';refine hK.out _ _ ?_ (fun hS15=>?_);· exact Far.trans hS14 ((grownFar hg).mono (fun b e=>.inr (.inr (by have e:some (w6.heap.size)=some b:=e;cases e;rfl))))
    clear hK K
    have hs9:wx12.heap.size+1≤w9.heap.size:=by have h:=hg.size;rw [World.size_alloc] at h;exact h
    replace HP:=gP w6.heap.size HP hg rfl;replace HF:=gF w6.heap.size HF hg rfl;replace HBr:=gB w6.heap.size HBr hg rfl;replace HBu:=gB w6.heap.size HBu hg rfl;have HOz:Hid (OwnD 0 (w5.heap.size) 60 6 w9 (.slice a9 m9 c9) (Ex.rows [x,y])):=zz (by rw [show ([x,y]:List Ex)=[x]++[y] from rfl,Ex.rows_app];exact ho);clear ho hg HMy HOW HOs;refine takeA 6 (v:=?_) rfl ?_ ?_;rotate_left;· intros;go_simp;try rfl
    (try simp only [pu]);refine callA 7 rfl fun K hK=>?_;clear qc rc uc;clear hI;have qc:=kcP HP;have rc:=kc6 HBr;have uc:=kc6 HBu;have hI:=iq_12_0 q w w9;go_simp;refine hK.out _ _ (Far.setCell hS15 (.inr (.inl rfl)) _) (fun hS16=>?_);clear hK K;refine wpAnyH_done (by kernel_rfl) ?_ _;clear qc rc uc;generalize ee:World.setCell w9 _ _=w10;have hsz10:=sizeS1 ee;replace HP:=pO1 HP ee;replace HF:=fN1 HF ee;replace HBr:=bF1 HBr ee;replace HBu:Hid (Bo w10 (w.heap.size+2) 60 #[.int .i64 7,.string (nowT ts i).s,.int .i64 0,.slice a9 m9 c9,.int .i64 l,.int .i64 c]):=zz (by rw [←ee];exact HBu.out.set 3 (.slice a9 m9 c9));replace HOz:=oS1 HOz ee;clear ee;clear hI;have qc:=kcP HP;have rc:=kc6 HBr;have uc:=kc6 HBu;have hI:=iq_12_0 q w w10;have hZ:=iq_12_0 q w w9
    go_wp2_with (fail)
    clear qc rc uc;generalize ee:World.setCell _ ⟨(w.heap.size+1),5,none⟩ _=w11;have hsz11:=sizeS6 ee;replace HP:=pO6 HP ee;replace HF:=fN6 HF ee;replace HBr:=bS6 HBr ee;replace HBu:=bF6 HBu ee;replace HOz:=oS6 HOz ee;clear ee;clear hI hZ;cases hr;have fc:=kc6 HBr;refine bodyPost_ret (v:=.agg #[.int .i64 7,.string (nowT ts i).s,.int .i64 0,.slice a9 m9 c9,.int .i64 l,.int .i64 c]) (by clear HP HF HBr HBu HOz;simp [results,Tryz.results135,go_sem,fc]) rfl ?_;exact ⟨_,_,_,rfl,HF.out.out,HP.out,memNw HOz.out.mem (by omega)⟩
end
end
section
open Go.RowKit
def upD (q:Nat):Deferred:= { target:=.fn (.func 133) #[],args:=#[.pointer (some ⟨q,0,none⟩)] }
section
variable (ts:List Tk) (aL:Option Addr) (n cap q:Nat)
def DoorBad (r:Rd1) (W:World) (chain:List PanicEntry) (ds:List Deferred) (w':World):Prop:=
  ∃ l c,r=.bad l c∧chain=faultV l c∧(ds=[]∨ds=[upD q])∧FarQ q W w'∧∃ i' d':Int,Bo w' q 162 #[.slice aL n cap,.int .i64 i',.int .i64 d']
def doorQ (fn:Func) (r:Rd1) (deep:Nat) (W:World) (e:Exit) (a:Act) (w':World):Prop:=
  match e with
  | .panic chain=>DoorBad aL n cap q r W chain a.defers w'
  | e=>bodyPostD Tryz.prog fn (Ans ts aL n cap q r deep W) e a w'
end
section
variable {ts:List Tk} {aL:Option Addr} {n cap q:Nat}
theorem doorQ_mono (fn:Func) (r:Rd1) (deep:Nat) (W:World) (e:Exit) (a:Act) (w':World) (h:doorQ ts aL n cap q fn r deep W e a w'):bodyPostD Tryz.prog fn (Ans ts aL n cap q r deep W) e a w':=by
  cases e with
  | panic chain =>
    obtain ⟨l,c,rfl,rfl,hd,hf,i',d',hb⟩:=h
    show Leaves Tryz.prog fn a.tmps _ a.defers (.panicking (faultV l c)) w'
    rcases hd with hd | hd
    · rw [hd]
      exact ⟨rfl,hf,i',d',hb⟩
    · rw [hd]
      refine leaves_cons (f:=133) (args:=#[.pointer (some ⟨q,0,none⟩)]) (by simp) (by simp [go_sem]) ?_;refine (up_any _ w' hb).mono ?_;rintro e u' w'' ⟨rfl,rfl,rfl⟩;exact ⟨rfl,hf.trans (FarQ.set _ _ _),i',_,hb.set 2 _⟩
  | _=>exact h
theorem door_plain {fn:Func} {r:Rd1} {deep:Nat} {W:World} {tmps:Array Value} {w':World} (h:∃ v,(results fn tmps).run Tryz.prog w'=.ok v w'∧Ans ts aL n cap q r deep W (.returned v) w'):
    doorQ ts aL n cap q fn r deep W .ret { tmps:=tmps,defers:=[] } w':=h
theorem door_up {fn:Func} {r:Rd1} {deep:Nat} {W:World} {tmps:Array Value} {w':World} {i' d':Int} (hb:Bo w' q 162 #[.slice aL n cap,.int .i64 i',.int .i64 d'])
    (h:∃ v,(results fn tmps).run Tryz.prog (w'.setCell ⟨q,2,none⟩ (.int .i64 (wrap64 (d' - 1))))=.ok v (w'.setCell ⟨q,2,none⟩ (.int .i64 (wrap64 (d' - 1))))∧Ans ts aL n cap q r deep W (.returned v) (w'.setCell ⟨q,2,none⟩ (.int .i64 (wrap64 (d' - 1))))):
    doorQ ts aL n cap q fn r deep W .ret { tmps:=tmps,defers:=[upD q] } w':=by
  show Leaves Tryz.prog fn tmps _ [upD q] .returning w'
  refine leaves_cons (f:=133) (args:=#[.pointer (some ⟨q,0,none⟩)]) (by simp) (by simp [go_sem]) ?_;refine (up_any _ w' hb).mono ?_;rintro e u' w'' ⟨rfl,rfl,rfl⟩;exact h
theorem wrap_up {deep:Nat} (h:deep≤40):wrap64 (((deep+1:Nat):Int) - 1)=(deep:Int):=by
  have e:((deep+1:Nat):Int) - 1=(deep:Int):=by omega
  rw [e]
  unfold wrap64;omega
end
end
section
open Go.RowKit
attribute [local go_sem] tk_pos
section
variable {ts:List Tk} {aL:Option Addr} {n cap q:Nat}
theorem expr_succ {f i deep:Nat} {r:Rd1} (hr:readE ts (f+1) .expr i deep=some r) (w:World) (hd:deep≤40) (H:AllR ts aL n cap q (f+1)) (hp:PS ts aL n cap q i (deep:Int) w):
  Calls Tryz.prog 97 #[.pointer (some ⟨q,0,none⟩)] w (Ans ts aL n cap q r deep w):=by
 have HP:=zz hp;have hq0:=hp.lt;have HF:=zz (FarB.refl q w.heap.size w);clear hp;rw [readE] at hr
 try simp only at hr
 go_enter_defers Tryz.func97,Tryz.ntmps97
 refine Code.wp_mono (doorQ_mono _ r deep w) ?_
 go_wp2_with (fail)
 generalize ee:World.alloc w _=w1;have hsa1:=sizeA ee;replace HP:=pA HP ee;replace HF:=fA HF ee;have HBr:=nB ee (w.heap.size);clear ee;have qc:=kcP HP;have rc:=kc6 HBr;have hI:=iq_0_0 q w w1;have hZ:=iq_01 q w;clear qc rc;refine (now_any _ HP.out.bo HP.out.mem).mono ?_;rintro _ w2 ⟨rfl,hb⟩;have hf:=FarQ.of (q:=q) hb;replace HBr:=qB HBr hf;replace HF:=qF HF hf;have hs2:=hf.size;replace HP:=kP HP hb;clear hf hb;simp only [tkV];clear hI hZ;have qc:=kcP HP;have rc:=kc6 HBr;have hI:=iq_0_0 q w w2
 go_wp2_with (fail)
 clear qc rc;generalize ee:World.alloc w2 _=w3;have hsa3:=sizeA ee;replace HP:=pA HP ee;replace HF:=fA HF ee;replace HBr:=bA HBr ee;have HBp:=nB ee (w2.heap.size);clear ee;clear hI;have qc:=kcP HP;have rc:=kc6 HBr;have pc:=kc2 HBp;have hI:=iq_0_0_0 q w w2 w3;have hZ:=iq_0_01 q w w2
 rcases hlet:isT ts i 5 wLet
 rotate_left
 ·
  simp only [hlet,if_true] at hr;clear qc rc pc;refine (is_any 5 wLet _ HP.out).mono ?_;rintro _ w4 ⟨rfl,hb⟩;have hf:=FarQ.of (q:=q) hb;replace HBr:=qB HBr hf;replace HBp:=qB HBp hf;replace HF:=qF HF hf;have hs4:=hf.size;replace HP:=kP HP hb;clear hf hb;rw [hlet];clear hI hZ;have qc:=kcP HP;have rc:=kc6 HBr;have pc:=kc2 HBp;have hI:=iq_0_0_0 q w w2 w4
  go_wp2_with (fail)
  by_cases h40:deep=40
  ·
   rw [if_pos h40] at hr;cases hr;subst h40;clear qc rc pc;refine (down_bad _ (by exact HP.out)).mono ?_;rintro _ w5 ⟨rfl,hb⟩;have hf:=FarQ.of (q:=q) hb;have hbo:=(HP.out.keep hb).any
   go_wp2_with (fail)
   exact ⟨_,_,rfl,rfl,.inl rfl,FarB.out (HF.out.farq hf),hbo⟩
  rw [if_neg h40] at hr;have hil:i<ts.length:=isT_lt hlet (by decide)
  have hd1:deep+1≤40:=by omega
  clear qc rc pc;refine (down_ok _ HP.out (by omega) (by omega) (by omega) hil).mono ?_;rintro _ w5 ⟨rfl,hf,hp⟩;replace HBr:=qB HBr hf;replace HBp:=qB HBp hf;replace HF:=qF HF hf;have hs5:=hf.size;replace HP:=zz hp;clear hf hp
  replace HP:=zz (by have h:=HP.out;rw [show ((deep:Int)+1)=((deep+1:Nat):Int) by omega] at h;exact h)
  clear hI;have qc:=kcP HP;have rc:=kc6 HBr;have pc:=kc2 HBp;have hI:=iq_0_0_0 q w w2 w5
  go_wp2_with (fail)
  have hr2:letE ts f (i+1) (deep+1) (nowT ts i).l (nowT ts i).c=some r:=by unfold letE;exact hr
  clear hr
  cases r with
  | bad l_ c_=>
   clear qc rc pc;refine (let_reads hr2 _ hd1 H HP.out).mono ?_;rintro _ w6 ⟨rfl,hf,hbo⟩
   go_wp2_with (fail)
   exact ⟨_,_,rfl,rfl,.inr rfl,FarB.out (HF.out.farq hf),hbo⟩
  | ok x j=>
   clear qc rc pc;refine (let_reads hr2 _ hd1 H HP.out).mono ?_;rintro _ w6 ⟨ax,mx,cx,rfl,hf,hp,hm⟩;replace HBr:=qB HBr hf;replace HBp:=qB HBp hf;replace HF:=qF HF hf;have hs6:=hf.size;replace HP:=zz hp;have HMx:=zz hm;clear hf hp hm;simp only [exV];clear hI;have qc:=kcP HP;have rc:=kc6 HBr;have pc:=kc2 HBp;have hI:=iq_0_0_0 q w w2 w6
   go_wp2_with (fail)
   clear qc rc pc;generalize ee:World.setCell _ ⟨w.heap.size,5,none⟩ _=w7;have hsz7:=sizeS6 ee;replace HP:=pO6 HP ee;replace HF:=fN6 HF ee;replace HBr:=bS6 HBr ee;replace HBp:=bF6 HBp ee;replace HMx:=mS6 HMx ee;clear ee;clear hI;refine door_up HP.out.bo ?_;generalize ee:World.setCell w7 _ _=w8;have hsz8:=sizeS1 ee;replace HP:=zz (HP.out.setDE (k:=((deep:Int))) ee (wrap_up hd));replace HF:=zz (HF.out.setQE ee);replace HBr:=bF1 HBr ee;replace HBp:=bF1 HBp ee;replace HMx:=mS1 HMx ee;clear ee;have fc:=kc6 HBr;refine ⟨.agg #[.int .i64 x.kind,.string x.name,.int .i64 x.n,.slice ax mx cx,.int .i64 x.line,.int .i64 x.col],(by clear HP HF HBr HBp HMx;simp [results,Tryz.results97,go_sem,fc]),?_⟩;exact ⟨_,_,_,rfl,HF.out.out,HP.out,memNw HMx.out (by omega)⟩
 simp only [hlet,Bool.false_eq_true,if_false] at hr;clear qc rc pc;refine (is_any 5 wLet _ HP.out).mono ?_;rintro _ w4 ⟨rfl,hb⟩;have hf:=FarQ.of (q:=q) hb;replace HBr:=qB HBr hf;replace HBp:=qB HBp hf;replace HF:=qF HF hf;have hs4:=hf.size;replace HP:=kP HP hb;clear hf hb;rw [hlet];clear hI hZ;have qc:=kcP HP;have rc:=kc6 HBr;have pc:=kc2 HBp;have hI:=iq_0_0_0 q w w2 w4
 go_wp2_with (fail)
 rcases hif:isT ts i 5 wIf
 ·
  simp only [hif,Bool.false_eq_true,if_false] at hr;clear qc rc pc;refine (is_any 5 wIf _ HP.out).mono ?_;rintro _ w5 ⟨rfl,hb⟩;have hf:=FarQ.of (q:=q) hb;replace HBr:=qB HBr hf;replace HBp:=qB HBp hf;replace HF:=qF HF hf;have hs5:=hf.size;replace HP:=kP HP hb;clear hf hb;rw [hif];clear hI;have qc:=kcP HP;have rc:=kc6 HBr;have pc:=kc2 HBp;have hI:=iq_0_0_0 q w w2 w5
  go_wp2_with (fail)
  cases r with
  | bad l_ c_=>
   clear qc rc pc;refine ((H.or f (Nat.lt_succ_self f)) i deep _ _ hd hr HP.out).mono ?_;rintro _ w6 ⟨rfl,hf,hbo⟩
   go_wp2_with (fail)
   exact ⟨_,_,rfl,rfl,.inl rfl,FarB.out (HF.out.farq hf),hbo⟩
  | ok x j=>
   clear qc rc pc;refine ((H.or f (Nat.lt_succ_self f)) i deep _ _ hd hr HP.out).mono ?_;rintro _ w6 ⟨ax,mx,cx,rfl,hf,hp,hm⟩;replace HBr:=qB HBr hf;replace HBp:=qB HBp hf;replace HF:=qF HF hf;have hs6:=hf.size;replace HP:=zz hp;have HMx:=zz hm;clear hf hp hm;simp only [exV];clear hI;have qc:=kcP HP;have rc:=kc6 HBr;have pc:=kc2 HBp;have hI:=iq_0_0_0 q w w2 w6
   go_wp2_with (fail)
   clear qc rc pc;generalize ee:World.setCell _ ⟨w.heap.size,5,none⟩ _=w7;have hsz7:=sizeS6 ee;replace HP:=pO6 HP ee;replace HF:=fN6 HF ee;replace HBr:=bS6 HBr ee;replace HBp:=bF6 HBp ee;replace HMx:=mS6 HMx ee;clear ee;clear hI;refine door_plain ?_;have fc:=kc6 HBr;refine ⟨.agg #[.int .i64 x.kind,.string x.name,.int .i64 x.n,.slice ax mx cx,.int .i64 x.line,.int .i64 x.col],(by clear HP HF HBr HBp HMx;simp [results,Tryz.results97,go_sem,fc]),?_⟩;exact ⟨_,_,_,rfl,HF.out.out,HP.out,memNw HMx.out (by omega)⟩
 simp only [hif,if_true] at hr;clear qc rc pc;refine (is_any 5 wIf _ HP.out).mono ?_;rintro _ w5 ⟨rfl,hb⟩;have hf:=FarQ.of (q:=q) hb;replace HBr:=qB HBr hf;replace HBp:=qB HBp hf;replace HF:=qF HF hf;have hs5:=hf.size;replace HP:=kP HP hb;clear hf hb;rw [hif];clear hI;have qc:=kcP HP;have rc:=kc6 HBr;have pc:=kc2 HBp;have hI:=iq_0_0_0 q w w2 w5
 go_wp2_with (fail)
 by_cases h40:deep=40
 ·
  rw [if_pos h40] at hr;cases hr;subst h40;clear qc rc pc;refine (down_bad _ (by exact HP.out)).mono ?_;rintro _ w6 ⟨rfl,hb⟩;have hf:=FarQ.of (q:=q) hb;have hbo:=(HP.out.keep hb).any
  go_wp2_with (fail)
  exact ⟨_,_,rfl,rfl,.inl rfl,FarB.out (HF.out.farq hf),hbo⟩
 rw [if_neg h40] at hr;have hil:i<ts.length:=isT_lt hif (by decide)
 have hd1:deep+1≤40:=by omega
 clear qc rc pc;refine (down_ok _ HP.out (by omega) (by omega) (by omega) hil).mono ?_;rintro _ w6 ⟨rfl,hf,hp⟩;replace HBr:=qB HBr hf;replace HBp:=qB HBp hf;replace HF:=qF HF hf;have hs6:=hf.size;replace HP:=zz hp;clear hf hp
 replace HP:=zz (by have h:=HP.out;rw [show ((deep:Int)+1)=((deep+1:Nat):Int) by omega] at h;exact h)
 clear hI;have qc:=kcP HP;have rc:=kc6 HBr;have pc:=kc2 HBp;have hI:=iq_0_0_0 q w w2 w6
 go_wp2_with (fail)
 rcases hx:readE ts f .expr (i+1) (deep+1) with _ | ⟨x,j⟩ | ⟨l_,c_⟩
 · (rw [hx] at hr;cases hr)
 rotate_left
 ·
  rw [hx] at hr
  first | simp only at hr | simp only [andT] at hr
  cases hr;clear qc rc pc;refine ((H.ex f (Nat.lt_succ_self f)) (i+1) (deep+1) _ _ hd1 hx HP.out).mono ?_;rintro _ w7 ⟨rfl,hf,hbo⟩
  go_wp2_with (fail)
  exact ⟨_,_,rfl,rfl,.inr rfl,FarB.out (HF.out.farq hf),hbo⟩
 rw [hx] at hr
 first | simp only at hr | simp only [andT] at hr
 clear qc rc pc;refine ((H.ex f (Nat.lt_succ_self f)) (i+1) (deep+1) _ _ hd1 hx HP.out).mono ?_;rintro _ w7 ⟨ax,mx,cx,rfl,hf,hp,hm⟩;replace HBr:=qB HBr hf;replace HBp:=qB HBp hf;replace HF:=qF HF hf;have hs7:=hf.size;replace HP:=zz hp;have HMx:=zz hm;clear hf hp hm;simp only [exV];clear hI;have qc:=kcP HP;have rc:=kc6 HBr;have pc:=kc2 HBp;have hI:=iq_0_0_0 q w w2 w7
 go_wp2_with (fail)
 clear qc rc pc;generalize ee:World.alloc w7 _=w8;have hsa8:=sizeA ee;replace HP:=pA HP ee;replace HF:=fA HF ee;replace HBr:=bA HBr ee;replace HBp:=bA HBp ee;replace HMx:=mA HMx ee;have HBg:=nB ee (w7.heap.size);clear ee;clear hI;have qc:=kcP HP;have rc:=kc6 HBr;have pc:=kc2 HBp;have gc:=kc6 HBg;have hI:=iq_0_0_0_0 q w w2 w7 w8;have hZ:=iq_0_0_01 q w w2 w7
 rcases hth:isT ts j 5 wThen
 ·
  first | simp only [hth,Bool.false_eq_true,if_false] at hr | simp only [takeT,hth,Bool.false_eq_true,if_false] at hr
  cases hr;clear qc rc pc gc;refine (take_bad 5 wThen _ HP.out hth).mono ?_;rintro _ w9 ⟨rfl,hb⟩;have hf:=FarQ.of (q:=q) hb;have hbo:=(HP.out.keep hb).any
  go_wp2_with (fail)
  exact ⟨_,_,rfl,rfl,.inr rfl,FarB.out (HF.out.farq hf),hbo⟩
 first | simp only [hth,if_true] at hr | simp only [takeT,hth,if_true] at hr
 clear qc rc pc gc;refine (take_ok 5 wThen _ HP.out hth (by decide)).mono ?_;rintro _ w9 ⟨rfl,hf,hp⟩;replace HBr:=qB HBr hf;replace HBp:=qB HBp hf;replace HBg:=qB HBg hf;replace HMx:=qM HMx hf;replace HF:=qF HF hf;have hs9:=hf.size;replace HP:=zz hp;clear hf hp;clear hI hZ;have qc:=kcP HP;have rc:=kc6 HBr;have pc:=kc2 HBp;have gc:=kc6 HBg;have hI:=iq_0_0_0_0 q w w2 w7 w9
 go_wp2_with (fail)
 rcases hy:readE ts f .expr (j+1) (deep+1) with _ | ⟨y,k⟩ | ⟨l_,c_⟩
 · (rw [hy] at hr;cases hr)
 rotate_left
 ·
  rw [hy] at hr
  first | simp only at hr | simp only [andT] at hr
  cases hr;clear qc rc pc gc;refine ((H.ex f (Nat.lt_succ_self f)) (j+1) (deep+1) _ _ hd1 hy HP.out).mono ?_;rintro _ w10 ⟨rfl,hf,hbo⟩
  go_wp2_with (fail)
  exact ⟨_,_,rfl,rfl,.inr rfl,FarB.out (HF.out.farq hf),hbo⟩
 rw [hy] at hr
 first | simp only at hr | simp only [andT] at hr
 clear qc rc pc gc;refine ((H.ex f (Nat.lt_succ_self f)) (j+1) (deep+1) _ _ hd1 hy HP.out).mono ?_;rintro _ w10 ⟨ay,my,cy,rfl,hf,hp,hm⟩;replace HBr:=qB HBr hf;replace HBp:=qB HBp hf;replace HBg:=qB HBg hf;replace HMx:=qM HMx hf;replace HF:=qF HF hf;have hs10:=hf.size;replace HP:=zz hp;have HMy:=zz hm;clear hf hp hm;simp only [exV];clear hI;have qc:=kcP HP;have rc:=kc6 HBr;have pc:=kc2 HBp;have gc:=kc6 HBg;have hI:=iq_0_0_0_0 q w w2 w7 w10
 go_wp2_with (fail)
 clear qc rc pc gc;generalize ee:World.alloc w10 _=w11;have hsa11:=sizeA ee;replace HP:=pA HP ee;replace HF:=fA HF ee;replace HBr:=bA HBr ee;replace HBp:=bA HBp ee;replace HBg:=bA HBg ee;replace HMx:=mA HMx ee;replace HMy:=mA HMy ee;have HBu:=nB ee (w10.heap.size);clear ee;clear hI;have qc:=kcP HP;have rc:=kc6 HBr;have pc:=kc2 HBp;have gc:=kc6 HBg;have uc:=kc6 HBu;have hI:=iq_0_0_0_0_0 q w w2 w7 w10 w11;have hZ:=iq_0_0_0_01 q w w2 w7 w10
 rcases hel:isT ts k 5 wElse
 ·
  first | simp only [hel,Bool.false_eq_true,if_false] at hr | simp only [takeT,hel,Bool.false_eq_true,if_false] at hr
  cases hr;clear qc rc pc gc uc;refine (take_bad 5 wElse _ HP.out hel).mono ?_;rintro _ w12 ⟨rfl,hb⟩;have hf:=FarQ.of (q:=q) hb;have hbo:=(HP.out.keep hb).any
  go_wp2_with (fail)
  exact ⟨_,_,rfl,rfl,.inr rfl,FarB.out (HF.out.farq hf),hbo⟩
 first | simp only [hel,if_true] at hr | simp only [takeT,hel,if_true] at hr
 clear qc rc pc gc uc;refine (take_ok 5 wElse _ HP.out hel (by decide)).mono ?_;rintro _ w12 ⟨rfl,hf,hp⟩;replace HBr:=qB HBr hf;replace HBp:=qB HBp hf;replace HBg:=qB HBg hf;replace HBu:=qB HBu hf;replace HMx:=qM HMx hf;replace HMy:=qM HMy hf;replace HF:=qF HF hf;have hs12:=hf.size;replace HP:=zz hp;clear hf hp;clear hI hZ;have qc:=kcP HP;have rc:=kc6 HBr;have pc:=kc2 HBp;have gc:=kc6 HBg;have uc:=kc6 HBu;have hI:=iq_0_0_0_0_0 q w w2 w7 w10 w12
 go_wp2_with (fail)
 rcases hz:readE ts f .expr (k+1) (deep+1) with _ | ⟨z,m⟩ | ⟨l_,c_⟩
 · (rw [hz] at hr;cases hr)
 rotate_left
 ·
  rw [hz] at hr
  first | simp only at hr | simp only [andT] at hr
  cases hr;refine wp_region_held_drew (S:=fun w'=>Far (fun b=>b=q∨b=w.heap.size) (w12) w') (by kernel_rfl) (Far.of (below_drew _)) (fun hS10=>?_);refine takeA 0 (v:=?_) rfl ?_ ?_;rotate_left;· intro w hSw;replace gc:=Far.c6z gc hSw;replace uc:=Far.c6z uc hSw;replace pc:=Far.c2z pc hSw;go_simp;try rfl
  (try simp only [pu]);refine takeA 1 (v:=?_) rfl ?_ ?_;rotate_left;· intro w hSw;replace gc:=Far.c6z gc hSw;replace uc:=Far.c6z uc hSw;replace pc:=Far.c2z pc hSw;go_simp;try rfl
  (try simp only [pu]);refine takeA 2 (v:=?_) rfl ?_ ?_;rotate_left;· intro w hSw;replace gc:=Far.c6z gc hSw;replace uc:=Far.c6z uc hSw;replace pc:=Far.c2z pc hSw;go_simp;try rfl
  (try simp only [pu]);refine takeA 5 (v:=?_) rfl ?_ ?_;rotate_left;· intro w hSw;replace gc:=Far.c6z gc hSw;replace uc:=Far.c6z uc hSw;replace pc:=Far.c2z pc hSw;go_simp;try rfl
  (try simp only [pu]);refine callA 3 rfl fun K hK=>?_;go_simp;refine ((H.ex f (Nat.lt_succ_self f)) (k+1) (deep+1) _ _ hd1 hz HP.out.drew).mono ?_;rintro e wx11 ⟨rfl,hf,hbo⟩
  go_wp2_with (fail)
  exact ⟨_,_,rfl,rfl,.inr rfl,FarB.out (HF.out.drew.farq hf),hbo⟩
 rw [hz] at hr
 first | simp only at hr | simp only [andT] at hr
 refine wp_region_held_drew (S:=fun w'=>Far (fun b=>b=q∨b=w.heap.size) (w12) w') (by kernel_rfl) (Far.of (below_drew _)) (fun hS10=>?_);refine takeA 0 (v:=?_) rfl ?_ ?_;rotate_left;· intro w hSw;replace gc:=Far.c6z gc hSw;replace uc:=Far.c6z uc hSw;replace pc:=Far.c2z pc hSw;go_simp;try rfl
 (try simp only [pu]);refine takeA 1 (v:=?_) rfl ?_ ?_;rotate_left;· intro w hSw;replace gc:=Far.c6z gc hSw;replace uc:=Far.c6z uc hSw;replace pc:=Far.c2z pc hSw;go_simp;try rfl
 (try simp only [pu]);refine takeA 2 (v:=?_) rfl ?_ ?_;rotate_left;· intro w hSw;replace gc:=Far.c6z gc hSw;replace uc:=Far.c6z uc hSw;replace pc:=Far.c2z pc hSw;go_simp;try rfl
 (try simp only [pu]);refine takeA 5 (v:=?_) rfl ?_ ?_;rotate_left;· intro w hSw;replace gc:=Far.c6z gc hSw;replace uc:=Far.c6z uc hSw;replace pc:=Far.c2z pc hSw;go_simp;try rfl
 (try simp only [pu]);refine callA 3 rfl fun K hK=>?_;go_simp;refine ((H.ex f (Nat.lt_succ_self f)) (k+1) (deep+1) _ _ hd1 hz HP.out.drew).mono ?_;rintro e wx11 ⟨az,mz,cz,rfl,hf,hp,hm⟩;have hswx11:w12.heap.size≤wx11.heap.size:=hf.size;replace hf:FarQ q w12 wx11:=(FarQ.of (below_drew _)).trans hf;replace HBr:=qB HBr hf;replace HBp:=qB HBp hf;replace HBg:=qB HBg hf;replace HBu:=qB HBu hf;replace HMx:=qM HMx hf;replace HMy:=qM HMy hf;replace HF:=qF HF hf;replace HP:=zz hp;have HMz:Hid (Mem (Nw 0 w12.heap.size _) _ _ _):=zz hm;clear hp hm;simp only [exV];go_simp;refine hK.out _ _ ((Far.mono hf (fun b e=>.inl e))) (fun hS11=>?_);clear hK K;refine callA 4 rfl fun K hK=>?_;go_simp;refine hK.out _ _ (Far.trans hS11 (Far.of (below_new _ _))) (fun hS12=>?_);clear hK K;refine takeA 6 (v:=?_) rfl ?_ ?_;rotate_left;· intros;go_simp;try rfl
 (try simp only [pu]);refine callA 7 rfl fun K hK=>?_;clear qc rc pc gc uc;clear hI;have qc:=kcP HP;have rc:=kc6 HBr;have pc:=kc2 HBp;have gc:=kc6 HBg;have uc:=kc6 HBu;have hI:=iq_0_0_0_0_0 q w w2 w7 w10 wx11;go_simp;refine hK.out _ _ ?_ (fun hS13=>?_);· exact (by repeat' (first | with_reducible exact hS11 | with_reducible refine Far.setCell ?_ (.inr rfl) _ | with_reducible refine Far.trans ?_ (Far.of (below_new _ _))))
 clear hK K;refine wpAnyH_done (by kernel_rfl) ?_ _;clear qc rc pc gc uc;generalize ee:World.setCell _ ⟨w.heap.size,5,none⟩ _=w13_1;have hq1:=sizeS6 ee;replace HP:=pO6 HP ee;replace HF:=fN6 HF ee;replace HBr:=bS6 HBr ee;replace HBp:=bF6 HBp ee;replace HBg:=bF6 HBg ee;replace HBu:=bF6 HBu ee;replace HMx:=mS6 HMx ee;replace HMy:=mS6 HMy ee;replace HMz:=mS6 HMz ee;clear ee;generalize ee:World.alloc w13_1 _=w13;have hq2:=sizeA ee;have HNEW:=zz (builtE3E (base:=w6.heap.size) (memNw HMx.out (by omega)) (memNw HMy.out (by omega)) (memNw HMz.out (by omega)) ee (b:=wx11.heap.size) (by omega) (by omega));replace HNEW:=zz HNEW.out.mem;replace HP:=pA HP ee;replace HF:=fA HF ee;replace HBr:=bA HBr ee;replace HBp:=bA HBp ee;replace HBg:=bA HBg ee;replace HBu:=bA HBu ee;replace HMx:=mA HMx ee;replace HMy:=mA HMy ee;replace HMz:=mA HMz ee;have HMv:=HNEW;clear HNEW;clear ee
 have hsa13:w13.heap.size=wx11.heap.size+1:=by omega
 clear hq1 hq2;clear hI
 go_wp2_with (fail)
 cases hr;refine door_up HP.out.bo ?_;generalize ee:World.setCell w13 _ _=w14;have hsz14:=sizeS1 ee;replace HP:=zz (HP.out.setDE (k:=((deep:Int))) ee (wrap_up hd));replace HF:=zz (HF.out.setQE ee);replace HBr:=bF1 HBr ee;replace HBp:=bF1 HBp ee;replace HBg:=bF1 HBg ee;replace HBu:=bF1 HBu ee;replace HMx:=mS1 HMx ee;replace HMy:=mS1 HMy ee;replace HMz:=mS1 HMz ee;replace HMv:=mS1 HMv ee;clear ee;have fc:=kc6 HBr;refine ⟨.agg #[.int .i64 6,.string ⟨#[]⟩,.int .i64 0,.slice (some ⟨wx11.heap.size,0,none⟩) 3 3,.int .i64 (nowT ts i).l,.int .i64 (nowT ts i).c],(by clear HP HF HBr HBp HBg HBu HMx HMy HMz HMv;simp [results,Tryz.results97,go_sem,fc]),?_⟩;exact ⟨_,_,_,rfl,HF.out.out,HP.out,memNw HMv.out (by omega)⟩
theorem expr_reads (F:Nat) (H:AllR ts aL n cap q F):Reads ts aL n cap q 97 .expr F:=by
 intro i deep r w hd hr hp
 cases F with
 | zero=>rw [readE] at hr;cases hr
 | succ f=>exact expr_succ hr w hd H hp
end
end
end Go.Proofs.YtcoiagfeoonpbaaGreat
