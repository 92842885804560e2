/-
  More on own rows whose elements lie in given blocks. Plain lemmas. No condition.
-/
import Derived.Test.YtcoiagfeoonpbaaGreatSm19
import Derived.Test.YtcoiagfeoonpbaaGreatSm15
import Derived.Test.YtcoiagfeoonpbaaGreatSm7
set_option maxHeartbeats 20000000
set_option maxRecDepth 100000
namespace Go.Proofs.YtcoiagfeoonpbaaGreat
section
open Go.RowKit
section
variable {A A':Nat→Prop} {base sz:Nat} {e:TypeId} {w w':World} {y:Value} {rs:List (List At)}
theorem OwnS.nil (A:Nat→Prop) (base:Nat) (e:TypeId) (sz:Nat) (w:World):OwnS A base e sz w (.slice none 0 0) []:=⟨[],World.ownsRow_nil w base e sz,.nil⟩
theorem OwnS.conv (h:OwnS A base e sz w y rs) (hA:∀ b,A b→b<w.heap.size→A' b):OwnS A' base e sz w y rs:=by
  obtain ⟨css,h1,h2⟩:=h;exact ⟨css,h1,h2.imp fun r cs ⟨hc,hm⟩=>⟨hc,hm.imp fun x y' hx=>hx.mono (fun b hb=>⟨⟨hA b hb.1.1 hb.1.2,hb.1.2⟩,hb.2⟩) fun _ _=>rfl⟩⟩
end
section
variable {P:Program} {w:World} {t e:TypeId} {z:Value} {sz bytes:Nat}
end
end
section
open Go.RowKit
theorem mnow_in {ts:List Tk} {aL:Option Addr} {n cap i q:Nat} {deep e0 e1 e2:Int} (w:World) (hq:Bo w q 51 #[.slice aL n cap,.int .i64 (i:Int),.int .i64 deep,.int .i64 e0,.int .i64 e1,.int .i64 e2]) (h:MemW w (.s 5 (tkRows ts)) (.slice aL n cap)) (hlt:i<n):
    Calls Tryz.prog 19 #[.pointer (some ⟨q,0,none⟩)] w fun e w'=>e=.returned (tkV (nowT ts i))∧Below w.heap.size w w':=by
  have hl:=h.len;rw [tkRows_len] at hl;have HL:=zz hl.1;have hcap:=hl.2.1;have hmx:=hl.2.2;have H:=zz h;have HQ:=zz hq;have hq0:=Bo.lt hq;have z0:w.cell? ⟨q,0,none⟩=some (.slice aL n cap):=hq.cell (j:=0) rfl;have z1:w.cell? ⟨q,1,none⟩=some (.int .i64 (i:Int)):=hq.cell (j:=1) rfl;clear hl h hq
  · have hltz:(i:Int)<(n:Int):=by omega
    obtain ⟨b,o,t,rfl,hb,Ht,x0,x1,x2,x3,x4⟩:=tk_at H.out i hlt;have HNT:Hid (nowT ts i=t):=zz (now_at Ht.out);rw [HNT.out];clear Ht HNT;go_enter Tryz.func19,Tryz.ntmps19
    go_wp2
    have HB0:=zz (below_new w (.cells #[.int .i64 0,.string ⟨#[]⟩,.int .i64 0,.int .i64 0,.int .i64 0] 53));have HR0:=zz (Bo.new w 53 #[.int .i64 0,.string ⟨#[]⟩,.int .i64 0,.int .i64 0,.int .i64 0]);have hs0:(w.alloc (.cells #[.int .i64 0,.string ⟨#[]⟩,.int .i64 0,.int .i64 0,.int .i64 0] 53)).heap.size=w.heap.size+1:=World.size_alloc _ _;have y0:=z0;have y1:=z1;have v0:=x0;have v1:=x1;have v2:=x2;have v3:=x3;have v4:=x4;replace z0:=cell_below z0 HB0.out;replace z1:=cell_below z1 HB0.out;replace x0:=cell_below x0 HB0.out;replace x1:=cell_below x1 HB0.out;replace x2:=cell_below x2 HB0.out;replace x3:=cell_below x3 HB0.out;replace x4:=cell_below x4 HB0.out;generalize w.alloc (.cells #[.int .i64 0,.string ⟨#[]⟩,.int .i64 0,.int .i64 0,.int .i64 0] 53)=w1 at *
    go_quiet (fail)
    go_wp2
    clear z0 z1 x0 x1 x2 x3 x4;have HS:Hid (Below w.heap.size w (w1.drewN nq).drew):=zz ((below_drewN HB0.out nq).trans ((below_drew _).mono (by show w.heap.size≤w1.heap.size;omega)));have HS2:Hid (Below w.heap.size w (w1.drewN nq)):=zz (below_drewN HB0.out nq);have HR1:Hid (Bo (w1.drewN nq) w.heap.size 53 #[.int .i64 0,.string ⟨#[]⟩,.int .i64 0,.int .i64 0,.int .i64 0]):=HR0;generalize w1.drewN nq=w2 at *
    have fz:=fun k=>Bo.frozen HR1.out k
    have c0:=HR1.out.cell (j:=0) rfl;have c1:=HR1.out.cell (j:=1) rfl;have c2:=HR1.out.cell (j:=2) rfl;have c3:=HR1.out.cell (j:=3) rfl;have c4:=HR1.out.cell (j:=4) rfl;refine wp_region_held_drew (S:=fun w'=>Below w.heap.size w w') (by kernel_rfl) HS.out (fun hS0=>?_);refine takeA 0 (v:=?_) rfl ?_ ?_;rotate_left;· intro w hSw;replace y0:=cell_below y0 hSw;replace y1:=cell_below y1 hSw;replace v0:=cell_below v0 hSw;replace v1:=cell_below v1 hSw;replace v2:=cell_below v2 hSw;replace v3:=cell_below v3 hSw;replace v4:=cell_below v4 hSw;go_simp;try rfl
    (try simp only [pu]);refine takeA 1 (v:=?_) rfl ?_ ?_;rotate_left;· intro w hSw;replace y0:=cell_below y0 hSw;replace y1:=cell_below y1 hSw;replace v0:=cell_below v0 hSw;replace v1:=cell_below v1 hSw;replace v2:=cell_below v2 hSw;replace v3:=cell_below v3 hSw;replace v4:=cell_below v4 hSw;go_simp;try rfl
    (try simp only [pu]);refine takeA 2 (v:=?_) rfl ?_ ?_;rotate_left;· intro w hSw;replace y0:=cell_below y0 hSw;replace y1:=cell_below y1 hSw;replace v0:=cell_below v0 hSw;replace v1:=cell_below v1 hSw;replace v2:=cell_below v2 hSw;replace v3:=cell_below v3 hSw;replace v4:=cell_below v4 hSw;go_simp;try rfl
    (try simp only [pu]);refine takeA 3 (v:=?_) rfl ?_ ?_;rotate_left;· intro w hSw;replace y0:=cell_below y0 hSw;replace y1:=cell_below y1 hSw;replace v0:=cell_below v0 hSw;replace v1:=cell_below v1 hSw;replace v2:=cell_below v2 hSw;replace v3:=cell_below v3 hSw;replace v4:=cell_below v4 hSw;go_simp;try rfl
    (try simp only [pu]);refine takeA 4 (v:=?_) rfl ?_ ?_;rotate_left;· intro w hSw;replace y0:=cell_below y0 hSw;replace y1:=cell_below y1 hSw;replace v0:=cell_below v0 hSw;replace v1:=cell_below v1 hSw;replace v2:=cell_below v2 hSw;replace v3:=cell_below v3 hSw;replace v4:=cell_below v4 hSw;go_simp;try rfl
    (try simp only [pu]);refine takeA 5 (v:=?_) rfl ?_ ?_;rotate_left;· intro w hSw;replace y0:=cell_below y0 hSw;replace y1:=cell_below y1 hSw;replace v0:=cell_below v0 hSw;replace v1:=cell_below v1 hSw;replace v2:=cell_below v2 hSw;replace v3:=cell_below v3 hSw;replace v4:=cell_below v4 hSw;go_simp;try rfl
    (try simp only [pu]);refine takeA 6 (v:=?_) rfl ?_ ?_;rotate_left;· intro w hSw;replace y0:=cell_below y0 hSw;replace y1:=cell_below y1 hSw;replace v0:=cell_below v0 hSw;replace v1:=cell_below v1 hSw;replace v2:=cell_below v2 hSw;replace v3:=cell_below v3 hSw;replace v4:=cell_below v4 hSw;go_simp;try rfl
    (try simp only [pu]);refine takeA 7 (v:=?_) rfl ?_ ?_;rotate_left;· intro w hSw;replace y0:=cell_below y0 hSw;replace y1:=cell_below y1 hSw;replace v0:=cell_below v0 hSw;replace v1:=cell_below v1 hSw;replace v2:=cell_below v2 hSw;replace v3:=cell_below v3 hSw;replace v4:=cell_below v4 hSw;go_simp;try rfl
    (try simp only [pu]);refine takeA 8 (v:=?_) rfl ?_ ?_;rotate_left;· intro w hSw;replace y0:=cell_below y0 hSw;replace y1:=cell_below y1 hSw;replace v0:=cell_below v0 hSw;replace v1:=cell_below v1 hSw;replace v2:=cell_below v2 hSw;replace v3:=cell_below v3 hSw;replace v4:=cell_below v4 hSw;go_simp;try rfl
    (try simp only [pu]);refine takeA 9 (v:=?_) rfl ?_ ?_;rotate_left;· intro w hSw;replace y0:=cell_below y0 hSw;replace y1:=cell_below y1 hSw;replace v0:=cell_below v0 hSw;replace v1:=cell_below v1 hSw;replace v2:=cell_below v2 hSw;replace v3:=cell_below v3 hSw;replace v4:=cell_below v4 hSw;go_simp;try rfl
    (try simp only [pu]);refine callA 10 rfl fun K hK=>?_;go_simp;have F0:Far (fun k=>w.heap.size≤k) w w2:=Far.of HS2.out;have F1:=F0.setCell (p:=⟨w.heap.size,0,none⟩) (Nat.le_refl _) (.int .i64 t.k);have F2:=F1.setCell (p:=⟨w.heap.size,1,none⟩) (Nat.le_refl _) (.string t.s);have F3:=F2.setCell (p:=⟨w.heap.size,2,none⟩) (Nat.le_refl _) (.int .i64 t.n);have F4:=F3.setCell (p:=⟨w.heap.size,3,none⟩) (Nat.le_refl _) (.int .i64 t.l);have F5:=F4.setCell (p:=⟨w.heap.size,4,none⟩) (Nat.le_refl _) (.int .i64 t.c);have F6:=F5.toB (Nat.le_refl _);have HF9:=zz (F6.trans ((below_drew _).mono F6.size));clear F0 F1 F2 F3 F4 F5 F6;have HR9:Hid (Bo (((((w2.setCell ⟨w.heap.size,0,none⟩ (.int .i64 t.k)).setCell ⟨w.heap.size,1,none⟩ (.string t.s)).setCell ⟨w.heap.size,2,none⟩ (.int .i64 t.n)).setCell ⟨w.heap.size,3,none⟩ (.int .i64 t.l)).setCell ⟨w.heap.size,4,none⟩ (.int .i64 t.c)).drew w.heap.size 53 #[.int .i64 t.k,.string t.s,.int .i64 t.n,.int .i64 t.l,.int .i64 t.c]):=zz (((((HR1.out.set 0 (.int .i64 t.k)).set 1 (.string t.s)).set 2 (.int .i64 t.n)).set 3 (.int .i64 t.l)).set 4 (.int .i64 t.c));generalize (((((w2.setCell ⟨w.heap.size,0,none⟩ (.int .i64 t.k)).setCell ⟨w.heap.size,1,none⟩ (.string t.s)).setCell ⟨w.heap.size,2,none⟩ (.int .i64 t.n)).setCell ⟨w.heap.size,3,none⟩ (.int .i64 t.l)).setCell ⟨w.heap.size,4,none⟩ (.int .i64 t.c)).drew=w9 at *;refine hK.out _ _ HF9.out (fun hS1=>?_);clear hK K c0 c1 c2 c3 c4 fz;refine wpAnyH_done (by kernel_rfl) ?_ _;have c0:=HR9.out.cell (j:=0) rfl;have c1:=HR9.out.cell (j:=1) rfl;have c2:=HR9.out.cell (j:=2) rfl;have c3:=HR9.out.cell (j:=3) rfl;have c4:=HR9.out.cell (j:=4) rfl
    go_wp2
    refine bodyPost_ret (v:=tkV t) (by clear HQ H HL HB0 HR0 HS HS2 HR1 HR9 HF9 y0 y1 v0 v1 v2 v3 v4;simp [results,Tryz.results19,go_sem,c0,c1,c2,c3,c4,tkV]) rfl ?_;exact ⟨rfl,HF9.out⟩
theorem mnow_out {ts:List Tk} {aL:Option Addr} {n cap i q:Nat} {deep e0 e1 e2:Int} (w:World) (hq:Bo w q 51 #[.slice aL n cap,.int .i64 (i:Int),.int .i64 deep,.int .i64 e0,.int .i64 e1,.int .i64 e2]) (h:MemW w (.s 5 (tkRows ts)) (.slice aL n cap)) (hlt: ¬i<n):
    Calls Tryz.prog 19 #[.pointer (some ⟨q,0,none⟩)] w fun e w'=>e=.returned (tkV (nowT ts i))∧Below w.heap.size w w':=by
  have hl:=h.len;rw [tkRows_len] at hl;have HL:=zz hl.1;have hcap:=hl.2.1;have hmx:=hl.2.2;have H:=zz h;have HQ:=zz hq;have hq0:=Bo.lt hq;have z0:w.cell? ⟨q,0,none⟩=some (.slice aL n cap):=hq.cell (j:=0) rfl;have z1:w.cell? ⟨q,1,none⟩=some (.int .i64 (i:Int)):=hq.cell (j:=1) rfl;clear hl h hq
  have hge: ¬((i:Int)<(n:Int)):=by omega
  by_cases hn:n=0
  · subst hn
    have hts:ts=[]:=List.eq_nil_of_length_eq_zero HL.out;subst hts;have HNT:Hid (nowT [] i=noTk 0 0):=zz now_none;rw [HNT.out];clear HNT;go_enter Tryz.func19,Tryz.ntmps19
    go_wp2
    have HB0:=zz (below_new w (.cells #[.int .i64 0,.string ⟨#[]⟩,.int .i64 0,.int .i64 0,.int .i64 0] 53));have HR0:=zz (Bo.new w 53 #[.int .i64 0,.string ⟨#[]⟩,.int .i64 0,.int .i64 0,.int .i64 0]);have hs0:(w.alloc (.cells #[.int .i64 0,.string ⟨#[]⟩,.int .i64 0,.int .i64 0,.int .i64 0] 53)).heap.size=w.heap.size+1:=World.size_alloc _ _;replace z0:=cell_below z0 HB0.out;replace z1:=cell_below z1 HB0.out;generalize w.alloc (.cells #[.int .i64 0,.string ⟨#[]⟩,.int .i64 0,.int .i64 0,.int .i64 0] 53)=w1 at *
    have fz:=fun k=>Bo.frozen HR0.out k
    have c0:=HR0.out.cell (j:=0) rfl;have c1:=HR0.out.cell (j:=1) rfl;have c2:=HR0.out.cell (j:=2) rfl;have c3:=HR0.out.cell (j:=3) rfl;have c4:=HR0.out.cell (j:=4) rfl
    go_quiet (fail)
    go_wp2
    have F0:Far (fun k=>w.heap.size≤k) w (w1.drewN nq):=Far.of (below_drewN HB0.out nq);have F1:=F0.setCell (p:=⟨w.heap.size,0,none⟩) (Nat.le_refl _) (.int .i64 (-1));have F2:=F1.setCell (p:=⟨w.heap.size,1,none⟩) (Nat.le_refl _) (.string ⟨#[]⟩);have F3:=F2.setCell (p:=⟨w.heap.size,2,none⟩) (Nat.le_refl _) (.int .i64 0);have F4:=F3.setCell (p:=⟨w.heap.size,3,none⟩) (Nat.le_refl _) (.int .i64 0);have F5:=F4.setCell (p:=⟨w.heap.size,4,none⟩) (Nat.le_refl _) (.int .i64 0);have HF9:=zz ((F5.trans (Far.of (below_new _ (.cells #[.int .i64 (-1),.string ⟨#[]⟩,.int .i64 0,.int .i64 0,.int .i64 0] 53)))).toB (Nat.le_refl _));clear F0 F1 F2 F3 F4 F5;have HR9:Hid (Bo (((((((w1.drewN nq).setCell ⟨w.heap.size,0,none⟩ (.int .i64 (-1))).setCell ⟨w.heap.size,1,none⟩ (.string ⟨#[]⟩)).setCell ⟨w.heap.size,2,none⟩ (.int .i64 0)).setCell ⟨w.heap.size,3,none⟩ (.int .i64 0)).setCell ⟨w.heap.size,4,none⟩ (.int .i64 0)).alloc (.cells #[.int .i64 (-1),.string ⟨#[]⟩,.int .i64 0,.int .i64 0,.int .i64 0] 53)) w.heap.size 53 #[.int .i64 (-1),.string ⟨#[]⟩,.int .i64 0,.int .i64 0,.int .i64 0]):=zz ((((((HR0.out.set 0 (.int .i64 (-1))).set 1 (.string ⟨#[]⟩)).set 2 (.int .i64 0)).set 3 (.int .i64 0)).set 4 (.int .i64 0)).alloc _);generalize (((((((w1.drewN nq).setCell ⟨w.heap.size,0,none⟩ (.int .i64 (-1))).setCell ⟨w.heap.size,1,none⟩ (.string ⟨#[]⟩)).setCell ⟨w.heap.size,2,none⟩ (.int .i64 0)).setCell ⟨w.heap.size,3,none⟩ (.int .i64 0)).setCell ⟨w.heap.size,4,none⟩ (.int .i64 0)).alloc (.cells #[.int .i64 (-1),.string ⟨#[]⟩,.int .i64 0,.int .i64 0,.int .i64 0] 53))=w9 at *;clear c0 c1 c2 c3 c4 fz;have c0:=HR9.out.cell (j:=0) rfl;have c1:=HR9.out.cell (j:=1) rfl;have c2:=HR9.out.cell (j:=2) rfl;have c3:=HR9.out.cell (j:=3) rfl;have c4:=HR9.out.cell (j:=4) rfl;refine bodyPost_ret (v:=tkV (noTk 0 0)) (by clear HQ H HL HB0 HR0 HR9 HF9;simp [results,Tryz.results19,go_sem,c0,c1,c2,c3,c4,tkV,noTk];try rfl) rfl ?_;exact ⟨rfl,HF9.out⟩
  · obtain ⟨m,rfl⟩:∃ m,n=m+1:=⟨n - 1,by omega⟩
    obtain ⟨b,o,t,rfl,hb,Ht,x0,x1,x2,x3,x4⟩:=tk_at H.out m (by omega)
    have HNT:Hid (nowT ts i=noTk t.l t.c):=zz (now_past (by have :=HL.out;omega) (by rw [List.getLast?_eq_getElem?,HL.out];exact Ht.out))
    rw [HNT.out];clear Ht HNT x0 x1 x2
    have hm0:(m:Int)+1 - 1=(m:Int):=by omega
    have hm1: ¬(((m:Nat):Int)+1≤0):=by omega
    have hm2:m<m+1:=by omega
    go_enter Tryz.func19,Tryz.ntmps19
    go_wp2
    have HB0:=zz (below_new w (.cells #[.int .i64 0,.string ⟨#[]⟩,.int .i64 0,.int .i64 0,.int .i64 0] 53));have HR0:=zz (Bo.new w 53 #[.int .i64 0,.string ⟨#[]⟩,.int .i64 0,.int .i64 0,.int .i64 0]);have hs0:(w.alloc (.cells #[.int .i64 0,.string ⟨#[]⟩,.int .i64 0,.int .i64 0,.int .i64 0] 53)).heap.size=w.heap.size+1:=World.size_alloc _ _;replace z0:=cell_below z0 HB0.out;replace z1:=cell_below z1 HB0.out;replace x3:=cell_below x3 HB0.out;replace x4:=cell_below x4 HB0.out;generalize w.alloc (.cells #[.int .i64 0,.string ⟨#[]⟩,.int .i64 0,.int .i64 0,.int .i64 0] 53)=w1 at *
    have fz:=fun k=>Bo.frozen HR0.out k
    have c0:=HR0.out.cell (j:=0) rfl;have c1:=HR0.out.cell (j:=1) rfl;have c2:=HR0.out.cell (j:=2) rfl;have c3:=HR0.out.cell (j:=3) rfl;have c4:=HR0.out.cell (j:=4) rfl
    go_quiet (fail)
    go_wp2
    have F0:Far (fun k=>w.heap.size≤k) w (w1.drewN nq):=Far.of (below_drewN HB0.out nq);have F1:=F0.setCell (p:=⟨w.heap.size,0,none⟩) (Nat.le_refl _) (.int .i64 (-1));have F2:=F1.setCell (p:=⟨w.heap.size,1,none⟩) (Nat.le_refl _) (.string ⟨#[]⟩);have F3:=F2.setCell (p:=⟨w.heap.size,2,none⟩) (Nat.le_refl _) (.int .i64 0);have F4:=F3.setCell (p:=⟨w.heap.size,3,none⟩) (Nat.le_refl _) (.int .i64 t.l);have F5:=F4.setCell (p:=⟨w.heap.size,4,none⟩) (Nat.le_refl _) (.int .i64 t.c);have HF9:=zz ((F5.trans (Far.of (below_new _ (.cells #[.int .i64 (-1),.string ⟨#[]⟩,.int .i64 0,.int .i64 t.l,.int .i64 t.c] 53)))).toB (Nat.le_refl _));clear F0 F1 F2 F3 F4 F5;have HR9:Hid (Bo (((((((w1.drewN nq).setCell ⟨w.heap.size,0,none⟩ (.int .i64 (-1))).setCell ⟨w.heap.size,1,none⟩ (.string ⟨#[]⟩)).setCell ⟨w.heap.size,2,none⟩ (.int .i64 0)).setCell ⟨w.heap.size,3,none⟩ (.int .i64 t.l)).setCell ⟨w.heap.size,4,none⟩ (.int .i64 t.c)).alloc (.cells #[.int .i64 (-1),.string ⟨#[]⟩,.int .i64 0,.int .i64 t.l,.int .i64 t.c] 53)) w.heap.size 53 #[.int .i64 (-1),.string ⟨#[]⟩,.int .i64 0,.int .i64 t.l,.int .i64 t.c]):=zz ((((((HR0.out.set 0 (.int .i64 (-1))).set 1 (.string ⟨#[]⟩)).set 2 (.int .i64 0)).set 3 (.int .i64 t.l)).set 4 (.int .i64 t.c)).alloc _);generalize (((((((w1.drewN nq).setCell ⟨w.heap.size,0,none⟩ (.int .i64 (-1))).setCell ⟨w.heap.size,1,none⟩ (.string ⟨#[]⟩)).setCell ⟨w.heap.size,2,none⟩ (.int .i64 0)).setCell ⟨w.heap.size,3,none⟩ (.int .i64 t.l)).setCell ⟨w.heap.size,4,none⟩ (.int .i64 t.c)).alloc (.cells #[.int .i64 (-1),.string ⟨#[]⟩,.int .i64 0,.int .i64 t.l,.int .i64 t.c] 53))=w9 at *;clear c0 c1 c2 c3 c4 fz;have c0:=HR9.out.cell (j:=0) rfl;have c1:=HR9.out.cell (j:=1) rfl;have c2:=HR9.out.cell (j:=2) rfl;have c3:=HR9.out.cell (j:=3) rfl;have c4:=HR9.out.cell (j:=4) rfl;refine bodyPost_ret (v:=tkV (noTk t.l t.c)) (by clear HQ H HL HB0 HR0 HR9 HF9 x3 x4;simp [results,Tryz.results19,go_sem,c0,c1,c2,c3,c4,tkV,noTk];try rfl) rfl ?_;exact ⟨rfl,HF9.out⟩
theorem mnow_any {ts:List Tk} {aL:Option Addr} {n cap i q:Nat} {deep e0 e1 e2:Int} (w:World) (hq:Bo w q 51 #[.slice aL n cap,.int .i64 (i:Int),.int .i64 deep,.int .i64 e0,.int .i64 e1,.int .i64 e2]) (h:MemW w (.s 5 (tkRows ts)) (.slice aL n cap)):
    Calls Tryz.prog 19 #[.pointer (some ⟨q,0,none⟩)] w fun e w'=>e=.returned (tkV (nowT ts i))∧Below w.heap.size w w':=by
  by_cases hlt:i<n
  · exact mnow_in w hq h hlt
  · exact mnow_out w hq h hlt
end
section
open Go.RowKit
def eB:Option (Int × Int)→Int
  | none=>0
  | some _=>1
def lB:Option (Int × Int)→Int
  | none=>0
  | some p=>p.1
def cB:Option (Int × Int)→Int
  | none=>0
  | some p=>p.2
theorem ok_eB (s:MS):(eB s.b==0)=s.ok:=by
  unfold MS.ok eB
  cases s.b <;> rfl
structure RS (ts:List Tk) (aL:Option Addr) (n cap q:Nat) (s:MS) (d:Int) (w:World):Prop where
  bo:Bo w q 51 #[.slice aL n cap,.int .i64 (s.i:Int),.int .i64 d,.int .i64 (eB s.b),.int .i64 (lB s.b),.int .i64 (cB s.b)]
  tk:Mem (· <q) w (.s 5 (tkRows ts)) (.slice aL n cap)
  sm:n≤1048576
section
variable {ts:List Tk} {aL:Option Addr} {n cap q:Nat} {s:MS} {d:Int} {w w':World}
theorem RS.lt (h:RS ts aL n cap q s d w):q<w.heap.size:=h.bo.lt
theorem RS.mem (h:RS ts aL n cap q s d w):MemW w (.s 5 (tkRows ts)) (.slice aL n cap):=h.tk.le (Nat.le_of_lt h.lt)
theorem RS.len (h:RS ts aL n cap q s d w):ts.length=n∧n≤9223372036854775807:=by
  have :=h.tk.len;rw [tkRows_len] at this;exact ⟨this.1,by omega⟩
theorem RS.keep (h:RS ts aL n cap q s d w) (hb:Below w.heap.size w w'):RS ts aL n cap q s d w':=
  ⟨h.bo.keep hb,h.tk.mono (fun _ hb=>hb) fun b hbq=>hb.block b (Nat.lt_trans hbq h.lt),h.sm⟩
theorem RS.alloc (h:RS ts aL n cap q s d w) (o:Obj):RS ts aL n cap q s d (w.alloc o):=h.keep (below_new w o)
theorem RS.drew (h:RS ts aL n cap q s d w):RS ts aL n cap q s d w.drew:=h.keep (below_drew w)
theorem RS.of (h:RS ts aL n cap q s d w) {s':MS} {d':Int} (hf:FarQ q w w') (hb:Bo w' q 51 #[.slice aL n cap,.int .i64 (s'.i:Int),.int .i64 d',.int .i64 (eB s'.b),.int .i64 (lB s'.b),.int .i64 (cB s'.b)]):RS ts aL n cap q s' d' w':=
  ⟨hb,h.tk.mono (fun _ hb=>hb) fun b hbq=>hf.block b (Nat.lt_trans hbq h.lt) (Nat.ne_of_lt hbq),h.sm⟩
theorem RS.setI (h:RS ts aL n cap q s d w) {v:Int} {k:Nat} (hv:v=(k:Int)):RS ts aL n cap q ⟨k,s.b⟩ d (w.setCell ⟨q,1,none⟩ (.int .i64 v)):=by subst hv;exact h.of (FarQ.set _ _ _) (h.bo.set 1 _)
theorem RS.setD (h:RS ts aL n cap q s d w) {v k:Int} (hv:v=k):RS ts aL n cap q s k (w.setCell ⟨q,2,none⟩ (.int .i64 v)):=by subst hv;exact h.of (FarQ.set _ _ _) (h.bo.set 2 _)
theorem RS.off (h:RS ts aL n cap q s d w) {g:Nat} (hg:q<g) (j:Nat) (v:Value):RS ts aL n cap q s d (w.setCell ⟨g,j,none⟩ v):=
  ⟨h.bo.far j v (Nat.ne_of_lt hg),h.tk.mono (fun _ hb=>hb) fun b hbq=>heap_setCell_other w ⟨g,j,none⟩ b v (Nat.ne_of_lt (Nat.lt_trans hbq hg)),h.sm⟩
theorem RS.grown {r:Option Nat} (h:RS ts aL n cap q s d w) (hg:w.grownBy w' r) (hr:∀ k,r=some k→q<k):RS ts aL n cap q s d w':=
  ⟨h.bo.grown hg fun k hk e=>by have :=hr k hk;omega,h.tk.mono (fun _ hb=>hb) fun b hb=>hg.block b (Nat.lt_trans hb h.lt) (fun e=>by have :=hr b e.symm;have :b<q:=hb;omega),h.sm⟩
theorem krP (h:Hid (RS ts aL n cap q s d w)) (hb:Below w.heap.size w w'):Hid (RS ts aL n cap q s d w'):=zz (h.out.keep hb)
theorem kcR (h:Hid (RS ts aL n cap q s d w)):w.cell? ⟨q,0,none⟩=some (.slice aL n cap)∧w.cell? ⟨q,1,none⟩=some (.int .i64 (s.i:Int))∧w.cell? ⟨q,2,none⟩=some (.int .i64 d)∧w.cell? ⟨q,3,none⟩=some (.int .i64 (eB s.b))∧w.cell? ⟨q,4,none⟩=some (.int .i64 (lB s.b))∧w.cell? ⟨q,5,none⟩=some (.int .i64 (cB s.b))∧∀ i:Nat,w.frozen? ⟨q,i,none⟩=false:=h.out.bo.c6z
theorem rpA {o:Obj} (h:Hid (RS ts aL n cap q s d w)) (e:w.alloc o=w'):Hid (RS ts aL n cap q s d w'):=zz (e ▸ h.out.alloc o)
theorem rpD (h:Hid (RS ts aL n cap q s d w)) (e:w.drew=w'):Hid (RS ts aL n cap q s d w'):=zz (e ▸ h.out.drew)
theorem RS.setIE (h:RS ts aL n cap q s d w) {k:Nat} {v:Int} (e:w.setCell ⟨q,1,none⟩ (.int .i64 v)=w') (hv:v=(k:Int)):RS ts aL n cap q ⟨k,s.b⟩ d w':=e ▸ h.setI hv
theorem RS.setDE (h:RS ts aL n cap q s d w) {k v:Int} (e:w.setCell ⟨q,2,none⟩ (.int .i64 v)=w') (hv:v=k):RS ts aL n cap q s k w':=e ▸ h.setD hv
theorem rpO1 {g j:Nat} {v0:Value} (h:Hid (RS ts aL n cap q s d w)) (e:(w.setCell ⟨g,j,none⟩ v0)=w') (hg:q<g:=by omega):Hid (RS ts aL n cap q s d w'):=zz (e ▸ (h.out.off hg j v0))
theorem rpO3 {g:Nat} {v0 v1 v2:Value} (h:Hid (RS ts aL n cap q s d w)) (e:(((w.setCell ⟨g,0,none⟩ v0).setCell ⟨g,1,none⟩ v1).setCell ⟨g,2,none⟩ v2)=w') (hg:q<g:=by omega):Hid (RS ts aL n cap q s d w'):=zz (e ▸ (((h.out.off hg 0 v0).off hg 1 v1).off hg 2 v2))
theorem rpO4 {g:Nat} {v0 v1 v2 v3:Value} (h:Hid (RS ts aL n cap q s d w)) (e:((((w.setCell ⟨g,0,none⟩ v0).setCell ⟨g,1,none⟩ v1).setCell ⟨g,2,none⟩ v2).setCell ⟨g,3,none⟩ v3)=w') (hg:q<g:=by omega):Hid (RS ts aL n cap q s d w'):=zz (e ▸ ((((h.out.off hg 0 v0).off hg 1 v1).off hg 2 v2).off hg 3 v3))
theorem rpO5 {g:Nat} {v0 v1 v2 v3 v4:Value} (h:Hid (RS ts aL n cap q s d w)) (e:(((((w.setCell ⟨g,0,none⟩ v0).setCell ⟨g,1,none⟩ v1).setCell ⟨g,2,none⟩ v2).setCell ⟨g,3,none⟩ v3).setCell ⟨g,4,none⟩ v4)=w') (hg:q<g:=by omega):Hid (RS ts aL n cap q s d w'):=zz (e ▸ (((((h.out.off hg 0 v0).off hg 1 v1).off hg 2 v2).off hg 3 v3).off hg 4 v4))
theorem rpO6 {g:Nat} {v0 v1 v2 v3 v4 v5:Value} (h:Hid (RS ts aL n cap q s d w)) (e:((((((w.setCell ⟨g,0,none⟩ v0).setCell ⟨g,1,none⟩ v1).setCell ⟨g,2,none⟩ v2).setCell ⟨g,3,none⟩ v3).setCell ⟨g,4,none⟩ v4).setCell ⟨g,5,none⟩ v5)=w') (hg:q<g:=by omega):Hid (RS ts aL n cap q s d w'):=zz (e ▸ ((((((h.out.off hg 0 v0).off hg 1 v1).off hg 2 v2).off hg 3 v3).off hg 4 v4).off hg 5 v5))
end
section
variable {w w' a:World} {q g j B:Nat} {t:TypeId}
theorem Bo.c4z {v0 v1 v2 v3:Value} (h:Bo w q t #[v0,v1,v2,v3]):w.cell? ⟨q,0,none⟩=some v0∧w.cell? ⟨q,1,none⟩=some v1∧w.cell? ⟨q,2,none⟩=some v2∧w.cell? ⟨q,3,none⟩=some v3∧∀ i:Nat,w.frozen? ⟨q,i,none⟩=false:=⟨h.cell (j:=0) rfl,h.cell (j:=1) rfl,h.cell (j:=2) rfl,h.cell (j:=3) rfl,fun i=>Bo.frozen h i⟩
theorem Far.c4z {v0 v1 v2 v3:Value} {Z:Nat→Prop} (h:w.cell? ⟨q,0,none⟩=some v0∧w.cell? ⟨q,1,none⟩=some v1∧w.cell? ⟨q,2,none⟩=some v2∧w.cell? ⟨q,3,none⟩=some v3∧∀ i:Nat,w.frozen? ⟨q,i,none⟩=false) (hf:Far Z w w') (hz: ¬Z q:=by intro e;rcases e with e | e <;> omega) (hq:q<w.heap.size:=by omega):w'.cell? ⟨q,0,none⟩=some v0∧w'.cell? ⟨q,1,none⟩=some v1∧w'.cell? ⟨q,2,none⟩=some v2∧w'.cell? ⟨q,3,none⟩=some v3∧∀ i:Nat,w'.frozen? ⟨q,i,none⟩=false:=
  ⟨(World.cell?_of_block (hf.block q hq hz)).trans h.1,(World.cell?_of_block (hf.block q hq hz)).trans h.2.1,(World.cell?_of_block (hf.block q hq hz)).trans h.2.2.1,(World.cell?_of_block (hf.block q hq hz)).trans h.2.2.2.1,fun i=>(by have e:=hf.block q hq hz;have e2:=h.2.2.2.2 i;unfold World.frozen? at e2 ⊢;rw [e];exact e2)⟩
theorem Bo.set4 {a0 a1 a2 a3:Value} {v0 v1 v2 v3:Value} (h:Bo w q t #[a0,a1,a2,a3]) (e:((((w.setCell ⟨q,0,none⟩ v0).setCell ⟨q,1,none⟩ v1).setCell ⟨q,2,none⟩ v2).setCell ⟨q,3,none⟩ v3)=w'):Bo w' q t #[v0,v1,v2,v3]:=e ▸ ((((h.set 0 v0).set 1 v1).set 2 v2).set 3 v3)
theorem Bo.far4 {cs:Array Value} {v0 v1 v2 v3:Value} (h:Bo w q t cs) (e:((((w.setCell ⟨g,0,none⟩ v0).setCell ⟨g,1,none⟩ v1).setCell ⟨g,2,none⟩ v2).setCell ⟨g,3,none⟩ v3)=w') (hg:q≠g):Bo w' q t cs:=e ▸ ((((h.far 0 v0 hg).far 1 v1 hg).far 2 v2 hg).far 3 v3 hg)
theorem memSet4 {base:Nat} {x:At} {y:Value} {v0 v1 v2 v3:Value} (h:Mem (Nw 0 base w.heap.size) w x y) (e:((((w.setCell ⟨g,0,none⟩ v0).setCell ⟨g,1,none⟩ v1).setCell ⟨g,2,none⟩ v2).setCell ⟨g,3,none⟩ v3)=w') (hg:g<base):Mem (Nw 0 base w'.heap.size) w' x y:=e ▸ (memSet (memSet (memSet (memSet h hg 0 v0) hg 1 v1) hg 2 v2) hg 3 v3)
theorem FarB.setN4 {v0 v1 v2 v3:Value} (h:FarB q B a w) (e:((((w.setCell ⟨g,0,none⟩ v0).setCell ⟨g,1,none⟩ v1).setCell ⟨g,2,none⟩ v2).setCell ⟨g,3,none⟩ v3)=w') (hg:B≤g):FarB q B a w':=e ▸ ((((h.setN hg 0 v0).setN hg 1 v1).setN hg 2 v2).setN hg 3 v3)
theorem sizeS4 {v0 v1 v2 v3:Value} (e:((((w.setCell ⟨g,0,none⟩ v0).setCell ⟨g,1,none⟩ v1).setCell ⟨g,2,none⟩ v2).setCell ⟨g,3,none⟩ v3)=w'):w'.heap.size=w.heap.size:=by rw [←e];simp only [World.setCell,Array.size_modify]
theorem bF4 {cs:Array Value} {v0 v1 v2 v3:Value} (h:Hid (Bo w q t cs)) (e:((((w.setCell ⟨g,0,none⟩ v0).setCell ⟨g,1,none⟩ v1).setCell ⟨g,2,none⟩ v2).setCell ⟨g,3,none⟩ v3)=w') (hg:q≠g:=by omega):Hid (Bo w' q t cs):=zz (h.out.far4 e hg)
theorem mS4 {base:Nat} {x:At} {y:Value} {v0 v1 v2 v3:Value} (h:Hid (Mem (Nw 0 base w.heap.size) w x y)) (e:((((w.setCell ⟨g,0,none⟩ v0).setCell ⟨g,1,none⟩ v1).setCell ⟨g,2,none⟩ v2).setCell ⟨g,3,none⟩ v3)=w') (hg:g<base:=by omega):Hid (Mem (Nw 0 base w'.heap.size) w' x y):=zz (memSet4 h.out e hg)
theorem fN4 {v0 v1 v2 v3:Value} (h:Hid (FarB q B a w)) (e:((((w.setCell ⟨g,0,none⟩ v0).setCell ⟨g,1,none⟩ v1).setCell ⟨g,2,none⟩ v2).setCell ⟨g,3,none⟩ v3)=w') (hg:B≤g:=by omega):Hid (FarB q B a w'):=zz (h.out.setN4 e hg)
theorem bS4 {a0 a1 a2 a3:Value} {v0 v1 v2 v3:Value} (h:Hid (Bo w q t #[a0,a1,a2,a3])) (e:((((w.setCell ⟨q,0,none⟩ v0).setCell ⟨q,1,none⟩ v1).setCell ⟨q,2,none⟩ v2).setCell ⟨q,3,none⟩ v3)=w'):Hid (Bo w' q t #[v0,v1,v2,v3]):=zz (h.out.set4 e)
theorem kc4 {v0 v1 v2 v3:Value} (h:Hid (Bo w q t #[v0,v1,v2,v3])):w.cell? ⟨q,0,none⟩=some v0∧w.cell? ⟨q,1,none⟩=some v1∧w.cell? ⟨q,2,none⟩=some v2∧w.cell? ⟨q,3,none⟩=some v3∧∀ i:Nat,w.frozen? ⟨q,i,none⟩=false:=h.out.c4z
end
theorem Bo.c11z {w:World} {q:Nat} {t:TypeId} {v0 v1 v2 v3 v4 v5 v6 v7 v8 v9 v10:Value} (h:Bo w q t #[v0,v1,v2,v3,v4,v5,v6,v7,v8,v9,v10]):w.cell? ⟨q,0,none⟩=some v0∧w.cell? ⟨q,1,none⟩=some v1∧w.cell? ⟨q,2,none⟩=some v2∧w.cell? ⟨q,3,none⟩=some v3∧w.cell? ⟨q,4,none⟩=some v4∧w.cell? ⟨q,5,none⟩=some v5∧w.cell? ⟨q,6,none⟩=some v6∧w.cell? ⟨q,7,none⟩=some v7∧w.cell? ⟨q,8,none⟩=some v8∧w.cell? ⟨q,9,none⟩=some v9∧w.cell? ⟨q,10,none⟩=some v10∧∀ i:Nat,w.frozen? ⟨q,i,none⟩=false:=⟨h.cell (j:=0) rfl,h.cell (j:=1) rfl,h.cell (j:=2) rfl,h.cell (j:=3) rfl,h.cell (j:=4) rfl,h.cell (j:=5) rfl,h.cell (j:=6) rfl,h.cell (j:=7) rfl,h.cell (j:=8) rfl,h.cell (j:=9) rfl,h.cell (j:=10) rfl,fun i=>Bo.frozen h i⟩
end
section
open Go.RowKit
def strRow (s:ByteArray):List At:=[.v (.string s)]
def Cn.row (c:Cn):List At:=[.v (.string c.name),.s 4 (Tm.rows c.types),.v (.int .i64 c.l),.v (.int .i64 c.c)]
def Da.row (d:Da):List At:=[.v (.string d.name),.s 1 (d.vars.map strRow),.s 4 (d.cons.map Cn.row),.v (.int .i64 d.l),.v (.int .i64 d.c)]
def Ru.row (r:Ru):List At:=[.v (.string r.name),.s 6 (Ex.rows r.pats),.s 6 (Ex.rows r.guard),.v (.int .i64 r.body.kind),.v (.string r.body.name),.v (.int .i64 r.body.n),.s 6 (Ex.rows r.body.args),.v (.int .i64 r.body.line),.v (.int .i64 r.body.col),.v (.int .i64 r.l),.v (.int .i64 r.c)]
def tmV (x:Tm) (a:Option Addr) (n c:Nat):Value:=.agg #[.int .i64 x.kind,.string x.name,.int .i64 x.n,.slice a n c]
def cnV (x:Cn) (a:Option Addr) (n c:Nat):Value:=.agg #[.string x.name,.slice a n c,.int .i64 x.l,.int .i64 x.c]
def daV (x:Da) (a:Option Addr) (n c:Nat) (a':Option Addr) (n' c':Nat):Value:=.agg #[.string x.name,.slice a n c,.slice a' n' c',.int .i64 x.l,.int .i64 x.c]
section
variable {S:Nat→Prop} {w:World}
theorem mem_slice {sz:Nat} {rs:List (List At)} {v:Value} (h:Mem S w (.s sz rs) v):∃ a n c,v=.slice a n c:=by
  cases h with
  | e a cap sz hc=>exact ⟨_,_,_,rfl⟩
  | s=>exact ⟨_,_,_,rfl⟩
theorem mem_v {x y:Value} (h:Mem S w (.v x) y):y=x:=by cases h;rfl
theorem cn_mem {x:Cn} {a:Option Addr} {n c:Nat} (h:Mem S w (.s 4 (Tm.rows x.types)) (.slice a n c)):All2 (Mem S w) x.row [.string x.name,.slice a n c,.int .i64 x.l,.int .i64 x.c]:=
  .cons (.v _ rfl) (.cons h (.cons (.v _ rfl) (.cons (.v _ rfl) .nil)))
theorem da_mem {x:Da} {a a':Option Addr} {n c n' c':Nat} (h:Mem S w (.s 1 (x.vars.map strRow)) (.slice a n c)) (h':Mem S w (.s 4 (x.cons.map Cn.row)) (.slice a' n' c')):All2 (Mem S w) x.row [.string x.name,.slice a n c,.slice a' n' c',.int .i64 x.l,.int .i64 x.c]:=
  .cons (.v _ rfl) (.cons h (.cons h' (.cons (.v _ rfl) (.cons (.v _ rfl) .nil))))
theorem ru_mem {x:Ru} {a a' b:Option Addr} {n c n' c' m k:Nat} (h:Mem S w (.s 6 (Ex.rows x.pats)) (.slice a n c)) (h':Mem S w (.s 6 (Ex.rows x.guard)) (.slice a' n' c')) (hb:Mem S w (.s 6 (Ex.rows x.body.args)) (.slice b m k)):
    All2 (Mem S w) x.row [.string x.name,.slice a n c,.slice a' n' c',.int .i64 x.body.kind,.string x.body.name,.int .i64 x.body.n,.slice b m k,.int .i64 x.body.line,.int .i64 x.body.col,.int .i64 x.l,.int .i64 x.c]:=
  .cons (.v _ rfl) (.cons h (.cons h' (.cons (.v _ rfl) (.cons (.v _ rfl) (.cons (.v _ rfl) (.cons hb (.cons (.v _ rfl) (.cons (.v _ rfl) (.cons (.v _ rfl) (.cons (.v _ rfl) .nil))))))))))
theorem str_mem {s:ByteArray} :All2 (Mem S w) (strRow s) [.string s]:=.cons (.v _ rfl) .nil
theorem tm_mem {x:Tm} {a:Option Addr} {n c:Nat} (h:Mem S w (.s 4 (Tm.rows x.args)) (.slice a n c)):All2 (Mem S w) x.row [.int .i64 x.kind,.string x.name,.int .i64 x.n,.slice a n c]:=by
  rw [Tm.row_eq];exact .cons (.v _ rfl) (.cons (.v _ rfl) (.cons (.v _ rfl) (.cons h .nil)))
theorem cn_cells {x:Cn} {cs:List Value} (h:All2 (Mem S w) x.row cs):∃ a n c,cs=[.string x.name,.slice a n c,.int .i64 x.l,.int .i64 x.c]∧Mem S w (.s 4 (Tm.rows x.types)) (.slice a n c):=by
  unfold Cn.row at h
  cases h with | cons h0 h=>cases h with | cons h1 h=>cases h with | cons h2 h=>cases h with | cons h3 h=>cases h with | nil=>
  obtain ⟨a,n,c,rfl⟩:=mem_slice h1;exact ⟨a,n,c,by rw [mem_v h0,mem_v h2,mem_v h3],h1⟩
theorem da_cells {x:Da} {cs:List Value} (h:All2 (Mem S w) x.row cs):∃ a n c a' n' c',cs=[.string x.name,.slice a n c,.slice a' n' c',.int .i64 x.l,.int .i64 x.c]∧Mem S w (.s 1 (x.vars.map strRow)) (.slice a n c)∧Mem S w (.s 4 (x.cons.map Cn.row)) (.slice a' n' c'):=by
  unfold Da.row at h
  cases h with | cons h0 h=>cases h with | cons h1 h=>cases h with | cons h2 h=>cases h with | cons h3 h=>cases h with | cons h4 h=>cases h with | nil=>
  obtain ⟨a,n,c,rfl⟩:=mem_slice h1;obtain ⟨a',n',c',rfl⟩:=mem_slice h2;exact ⟨a,n,c,a',n',c',by rw [mem_v h0,mem_v h3,mem_v h4],h1,h2⟩
theorem ru_cells {x:Ru} {cs:List Value} (h:All2 (Mem S w) x.row cs):∃ a n c a' n' c' b m k,cs=[.string x.name,.slice a n c,.slice a' n' c',.int .i64 x.body.kind,.string x.body.name,.int .i64 x.body.n,.slice b m k,.int .i64 x.body.line,.int .i64 x.body.col,.int .i64 x.l,.int .i64 x.c]∧Mem S w (.s 6 (Ex.rows x.pats)) (.slice a n c)∧Mem S w (.s 6 (Ex.rows x.guard)) (.slice a' n' c')∧Mem S w (.s 6 (Ex.rows x.body.args)) (.slice b m k):=by
  unfold Ru.row at h
  cases h with | cons h0 h=>cases h with | cons h1 h=>cases h with | cons h2 h=>cases h with | cons h3 h=>cases h with | cons h4 h=>cases h with | cons h5 h=>cases h with | cons h6 h=>cases h with | cons h7 h=>cases h with | cons h8 h=>cases h with | cons h9 h=>cases h with | cons h10 h=>cases h with | nil=>
  obtain ⟨a,n,c,rfl⟩:=mem_slice h1;obtain ⟨a',n',c',rfl⟩:=mem_slice h2;obtain ⟨b,m,k,rfl⟩:=mem_slice h6;exact ⟨a,n,c,a',n',c',b,m,k,by rw [mem_v h0,mem_v h3,mem_v h4,mem_v h5,mem_v h7,mem_v h8,mem_v h9,mem_v h10],h1,h2,h6⟩
end
section
variable {w w':World} {base:Nat}
theorem row_new {t:TypeId} {sz:Nat} {r:List At} {cs:Array Value} (hr:All2 (Mem (Nw 0 base w.heap.size) w) r cs.toList) (hs:cs.toList.length=sz) (hb:base≤w.heap.size):OwnD 0 base t sz (w.alloc (.cells cs t)) (.slice (some ⟨w.heap.size,0,none⟩) 1 1) [r]:=
  OwnD.built (css:=[cs.toList]) (.cons ⟨hs,hr⟩ .nil) hb 1 rfl (by decide) cs (by simp)
theorem row_app {t:TypeId} {sz:Nat} {y:Value} {rs:List (List At)} {W:World} {r:List At} {cs:Array Value} (h:OwnD 0 base t sz W y rs) (hb:base≤W.heap.size) (hs:W.heap.size≤w.heap.size) (hr:All2 (Mem (Nw 0 W.heap.size w.heap.size) w) r cs.toList) (hsz:cs.toList.length=sz):
    Mem (fun b=>Nw 0 base (w.alloc (.cells cs t)).heap.size b∧y.ownBlock≠some b) (w.alloc (.cells cs t)) (.s sz [r]) (.slice (some ⟨w.heap.size,0,none⟩) 1 1):=
  h.apart (Nat.zero_le _) hb (row_new hr hsz hs).mem
end
end
end Go.Proofs.YtcoiagfeoonpbaaGreat
