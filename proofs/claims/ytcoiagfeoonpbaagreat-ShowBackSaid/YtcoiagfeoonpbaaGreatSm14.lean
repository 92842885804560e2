/-
  The parser's small steps: what comes next. No condition but how the parser and the tokens lie.
-/
import Derived.Test.YtcoiagfeoonpbaaGreatSm7
import Derived.BigQuiet
import Derived.Test.YtcoiagfeoonpbaaGreatSm13
import Derived.Test.YtcoiagfeoonpbaaGreatSm1
import Derived.WalkLawsBesides
import Derived.Defers
set_option maxHeartbeats 20000000
set_option maxRecDepth 100000
namespace Go.Proofs.YtcoiagfeoonpbaaGreat
section
open Go.RowKit
def tkV (t:Tk):Value:=.agg #[.int .i64 t.k,.string t.s,.int .i64 t.n,.int .i64 t.l,.int .i64 t.c]
theorem now_in {ts:List Tk} {aL:Option Addr} {n cap i q:Nat} {deep:Int} (w:World) (hq:Bo w q 162 #[.slice aL n cap,.int .i64 (i:Int),.int .i64 deep]) (h:MemW w (.s 5 (tkRows ts)) (.slice aL n cap)) (hlt:i<n):
    Calls Tryz.prog 128 #[.pointer (some ⟨q,0,none⟩)] w fun e w'=>e=.returned (tkV (nowT ts i))∧Below w.heap.size w w':=by
  have hl:=h.len;rw [tkRows_len] at hl;have HL:=zz hl.1;have hcap:=hl.2.1;have hmx:=hl.2.2;have H:=zz h;have HQ:=zz hq;have hq0:=Bo.lt hq;have z0:w.cell? ⟨q,0,none⟩=some (.slice aL n cap):=hq.cell (j:=0) rfl;have z1:w.cell? ⟨q,1,none⟩=some (.int .i64 (i:Int)):=hq.cell (j:=1) rfl;clear hl h hq
  · have hltz:(i:Int)<(n:Int):=by omega
    obtain ⟨b,o,t,rfl,hb,Ht,x0,x1,x2,x3,x4⟩:=tk_at H.out i hlt;have HNT:Hid (nowT ts i=t):=zz (now_at Ht.out);rw [HNT.out];clear Ht HNT;go_enter Tryz.func128,Tryz.ntmps128
    go_wp2
    have HB0:=zz (below_new w (.cells #[.int .i64 0,.string ⟨#[]⟩,.int .i64 0,.int .i64 0,.int .i64 0] 53));have HR0:=zz (Bo.new w 53 #[.int .i64 0,.string ⟨#[]⟩,.int .i64 0,.int .i64 0,.int .i64 0]);have hs0:(w.alloc (.cells #[.int .i64 0,.string ⟨#[]⟩,.int .i64 0,.int .i64 0,.int .i64 0] 53)).heap.size=w.heap.size+1:=World.size_alloc _ _;have y0:=z0;have y1:=z1;have v0:=x0;have v1:=x1;have v2:=x2;have v3:=x3;have v4:=x4;replace z0:=cell_below z0 HB0.out;replace z1:=cell_below z1 HB0.out;replace x0:=cell_below x0 HB0.out;replace x1:=cell_below x1 HB0.out;replace x2:=cell_below x2 HB0.out;replace x3:=cell_below x3 HB0.out;replace x4:=cell_below x4 HB0.out;generalize w.alloc (.cells #[.int .i64 0,.string ⟨#[]⟩,.int .i64 0,.int .i64 0,.int .i64 0] 53)=w1 at *
    go_quiet (fail)
    go_wp2
    clear z0 z1 x0 x1 x2 x3 x4;have HS:Hid (Below w.heap.size w (w1.drewN nq).drew):=zz ((below_drewN HB0.out nq).trans ((below_drew _).mono (by show w.heap.size≤w1.heap.size;omega)));have HS2:Hid (Below w.heap.size w (w1.drewN nq)):=zz (below_drewN HB0.out nq);have HR1:Hid (Bo (w1.drewN nq) w.heap.size 53 #[.int .i64 0,.string ⟨#[]⟩,.int .i64 0,.int .i64 0,.int .i64 0]):=HR0;generalize w1.drewN nq=w2 at *
    have fz:=fun k=>Bo.frozen HR1.out k
    have c0:=HR1.out.cell (j:=0) rfl;have c1:=HR1.out.cell (j:=1) rfl;have c2:=HR1.out.cell (j:=2) rfl;have c3:=HR1.out.cell (j:=3) rfl;have c4:=HR1.out.cell (j:=4) rfl;refine wp_region_held_drew (S:=fun w'=>Below w.heap.size w w') (by kernel_rfl) HS.out (fun hS0=>?_);refine takeL 0 (v:=?_) rfl (by kernel_rfl) (by kernel_rfl) (by kernel_rfl) (fun _ _ _ h=>h) (by rfl) ?_ (by assumption) ?_;rotate_left;· intro w hSw;replace y0:=cell_below y0 hSw;replace y1:=cell_below y1 hSw;replace v0:=cell_below v0 hSw;replace v1:=cell_below v1 hSw;replace v2:=cell_below v2 hSw;replace v3:=cell_below v3 hSw;replace v4:=cell_below v4 hSw;go_simp;try rfl
    try simp only [Act.put,List.setIfInBounds_toArray,List.set_cons_zero,List.set_cons_succ]
    refine takeL 1 (v:=?_) rfl (by kernel_rfl) (by kernel_rfl) (by kernel_rfl) (fun _ _ _ h=>h) (by rfl) ?_ (by assumption) ?_;rotate_left;· intro w hSw;replace y0:=cell_below y0 hSw;replace y1:=cell_below y1 hSw;replace v0:=cell_below v0 hSw;replace v1:=cell_below v1 hSw;replace v2:=cell_below v2 hSw;replace v3:=cell_below v3 hSw;replace v4:=cell_below v4 hSw;go_simp;try rfl
    try simp only [Act.put,List.setIfInBounds_toArray,List.set_cons_zero,List.set_cons_succ]
    refine takeL 2 (v:=?_) rfl (by kernel_rfl) (by kernel_rfl) (by kernel_rfl) (fun _ _ _ h=>h) (by rfl) ?_ (by assumption) ?_;rotate_left;· intro w hSw;replace y0:=cell_below y0 hSw;replace y1:=cell_below y1 hSw;replace v0:=cell_below v0 hSw;replace v1:=cell_below v1 hSw;replace v2:=cell_below v2 hSw;replace v3:=cell_below v3 hSw;replace v4:=cell_below v4 hSw;go_simp;try rfl
    try simp only [Act.put,List.setIfInBounds_toArray,List.set_cons_zero,List.set_cons_succ]
    refine takeL 3 (v:=?_) rfl (by kernel_rfl) (by kernel_rfl) (by kernel_rfl) (fun _ _ _ h=>h) (by rfl) ?_ (by assumption) ?_;rotate_left;· intro w hSw;replace y0:=cell_below y0 hSw;replace y1:=cell_below y1 hSw;replace v0:=cell_below v0 hSw;replace v1:=cell_below v1 hSw;replace v2:=cell_below v2 hSw;replace v3:=cell_below v3 hSw;replace v4:=cell_below v4 hSw;go_simp;try rfl
    try simp only [Act.put,List.setIfInBounds_toArray,List.set_cons_zero,List.set_cons_succ]
    refine takeL 4 (v:=?_) rfl (by kernel_rfl) (by kernel_rfl) (by kernel_rfl) (fun _ _ _ h=>h) (by rfl) ?_ (by assumption) ?_;rotate_left;· intro w hSw;replace y0:=cell_below y0 hSw;replace y1:=cell_below y1 hSw;replace v0:=cell_below v0 hSw;replace v1:=cell_below v1 hSw;replace v2:=cell_below v2 hSw;replace v3:=cell_below v3 hSw;replace v4:=cell_below v4 hSw;go_simp;try rfl
    try simp only [Act.put,List.setIfInBounds_toArray,List.set_cons_zero,List.set_cons_succ]
    refine takeL 5 (v:=?_) rfl (by kernel_rfl) (by kernel_rfl) (by kernel_rfl) (fun _ _ _ h=>h) (by rfl) ?_ (by assumption) ?_;rotate_left;· intro w hSw;replace y0:=cell_below y0 hSw;replace y1:=cell_below y1 hSw;replace v0:=cell_below v0 hSw;replace v1:=cell_below v1 hSw;replace v2:=cell_below v2 hSw;replace v3:=cell_below v3 hSw;replace v4:=cell_below v4 hSw;go_simp;try rfl
    try simp only [Act.put,List.setIfInBounds_toArray,List.set_cons_zero,List.set_cons_succ]
    refine takeL 6 (v:=?_) rfl (by kernel_rfl) (by kernel_rfl) (by kernel_rfl) (fun _ _ _ h=>h) (by rfl) ?_ (by assumption) ?_;rotate_left;· intro w hSw;replace y0:=cell_below y0 hSw;replace y1:=cell_below y1 hSw;replace v0:=cell_below v0 hSw;replace v1:=cell_below v1 hSw;replace v2:=cell_below v2 hSw;replace v3:=cell_below v3 hSw;replace v4:=cell_below v4 hSw;go_simp;try rfl
    try simp only [Act.put,List.setIfInBounds_toArray,List.set_cons_zero,List.set_cons_succ]
    refine takeL 7 (v:=?_) rfl (by kernel_rfl) (by kernel_rfl) (by kernel_rfl) (fun _ _ _ h=>h) (by rfl) ?_ (by assumption) ?_;rotate_left;· intro w hSw;replace y0:=cell_below y0 hSw;replace y1:=cell_below y1 hSw;replace v0:=cell_below v0 hSw;replace v1:=cell_below v1 hSw;replace v2:=cell_below v2 hSw;replace v3:=cell_below v3 hSw;replace v4:=cell_below v4 hSw;go_simp;try rfl
    try simp only [Act.put,List.setIfInBounds_toArray,List.set_cons_zero,List.set_cons_succ]
    refine takeL 8 (v:=?_) rfl (by kernel_rfl) (by kernel_rfl) (by kernel_rfl) (fun _ _ _ h=>h) (by rfl) ?_ (by assumption) ?_;rotate_left;· intro w hSw;replace y0:=cell_below y0 hSw;replace y1:=cell_below y1 hSw;replace v0:=cell_below v0 hSw;replace v1:=cell_below v1 hSw;replace v2:=cell_below v2 hSw;replace v3:=cell_below v3 hSw;replace v4:=cell_below v4 hSw;go_simp;try rfl
    try simp only [Act.put,List.setIfInBounds_toArray,List.set_cons_zero,List.set_cons_succ]
    refine takeL 9 (v:=?_) rfl (by kernel_rfl) (by kernel_rfl) (by kernel_rfl) (fun _ _ _ h=>h) (by rfl) ?_ (by assumption) ?_;rotate_left;· intro w hSw;replace y0:=cell_below y0 hSw;replace y1:=cell_below y1 hSw;replace v0:=cell_below v0 hSw;replace v1:=cell_below v1 hSw;replace v2:=cell_below v2 hSw;replace v3:=cell_below v3 hSw;replace v4:=cell_below v4 hSw;go_simp;try rfl
    try simp only [Act.put,List.setIfInBounds_toArray,List.set_cons_zero,List.set_cons_succ]
    refine callL 10 rfl (by kernel_rfl) (by rfl) (fun K hK=>?_);go_simp;have F0:Far (fun k=>w.heap.size≤k) w w2:=Far.of HS2.out;have F1:=F0.setCell (p:=⟨w.heap.size,0,none⟩) (Nat.le_refl _) (.int .i64 t.k);have F2:=F1.setCell (p:=⟨w.heap.size,1,none⟩) (Nat.le_refl _) (.string t.s);have F3:=F2.setCell (p:=⟨w.heap.size,2,none⟩) (Nat.le_refl _) (.int .i64 t.n);have F4:=F3.setCell (p:=⟨w.heap.size,3,none⟩) (Nat.le_refl _) (.int .i64 t.l);have F5:=F4.setCell (p:=⟨w.heap.size,4,none⟩) (Nat.le_refl _) (.int .i64 t.c);have F6:=F5.toB (Nat.le_refl _);have HF9:=zz (F6.trans ((below_drew _).mono F6.size));clear F0 F1 F2 F3 F4 F5 F6;have HR9:Hid (Bo (((((w2.setCell ⟨w.heap.size,0,none⟩ (.int .i64 t.k)).setCell ⟨w.heap.size,1,none⟩ (.string t.s)).setCell ⟨w.heap.size,2,none⟩ (.int .i64 t.n)).setCell ⟨w.heap.size,3,none⟩ (.int .i64 t.l)).setCell ⟨w.heap.size,4,none⟩ (.int .i64 t.c)).drew w.heap.size 53 #[.int .i64 t.k,.string t.s,.int .i64 t.n,.int .i64 t.l,.int .i64 t.c]):=zz (((((HR1.out.set 0 (.int .i64 t.k)).set 1 (.string t.s)).set 2 (.int .i64 t.n)).set 3 (.int .i64 t.l)).set 4 (.int .i64 t.c));generalize (((((w2.setCell ⟨w.heap.size,0,none⟩ (.int .i64 t.k)).setCell ⟨w.heap.size,1,none⟩ (.string t.s)).setCell ⟨w.heap.size,2,none⟩ (.int .i64 t.n)).setCell ⟨w.heap.size,3,none⟩ (.int .i64 t.l)).setCell ⟨w.heap.size,4,none⟩ (.int .i64 t.c)).drew=w9 at *;refine hK.out _ _ HF9.out (fun hS1=>?_);clear hK K c0 c1 c2 c3 c4 fz;refine wpAnyH_done (by kernel_rfl) ?_ _;have c0:=HR9.out.cell (j:=0) rfl;have c1:=HR9.out.cell (j:=1) rfl;have c2:=HR9.out.cell (j:=2) rfl;have c3:=HR9.out.cell (j:=3) rfl;have c4:=HR9.out.cell (j:=4) rfl
    go_wp2
    refine bodyPost_ret (v:=tkV t) (by clear HQ H HL HB0 HR0 HS HS2 HR1 HR9 HF9 y0 y1 v0 v1 v2 v3 v4;simp [results,Tryz.results128,go_sem,c0,c1,c2,c3,c4,tkV]) rfl ?_;exact ⟨rfl,HF9.out⟩
end
section
open Go.RowKit
theorem now_out {ts:List Tk} {aL:Option Addr} {n cap i q:Nat} {deep:Int} (w:World) (hq:Bo w q 162 #[.slice aL n cap,.int .i64 (i:Int),.int .i64 deep]) (h:MemW w (.s 5 (tkRows ts)) (.slice aL n cap)) (hlt: ¬i<n):
    Calls Tryz.prog 128 #[.pointer (some ⟨q,0,none⟩)] w fun e w'=>e=.returned (tkV (nowT ts i))∧Below w.heap.size w w':=by
  have hl:=h.len;rw [tkRows_len] at hl;have HL:=zz hl.1;have hcap:=hl.2.1;have hmx:=hl.2.2;have H:=zz h;have HQ:=zz hq;have hq0:=Bo.lt hq;have z0:w.cell? ⟨q,0,none⟩=some (.slice aL n cap):=hq.cell (j:=0) rfl;have z1:w.cell? ⟨q,1,none⟩=some (.int .i64 (i:Int)):=hq.cell (j:=1) rfl;clear hl h hq
  have hge: ¬((i:Int)<(n:Int)):=by omega
  by_cases hn:n=0
  · subst hn
    have hts:ts=[]:=List.eq_nil_of_length_eq_zero HL.out;subst hts;have HNT:Hid (nowT [] i=noTk 0 0):=zz now_none;rw [HNT.out];clear HNT;go_enter Tryz.func128,Tryz.ntmps128
    go_wp2
    have HB0:=zz (below_new w (.cells #[.int .i64 0,.string ⟨#[]⟩,.int .i64 0,.int .i64 0,.int .i64 0] 53));have HR0:=zz (Bo.new w 53 #[.int .i64 0,.string ⟨#[]⟩,.int .i64 0,.int .i64 0,.int .i64 0]);have hs0:(w.alloc (.cells #[.int .i64 0,.string ⟨#[]⟩,.int .i64 0,.int .i64 0,.int .i64 0] 53)).heap.size=w.heap.size+1:=World.size_alloc _ _;replace z0:=cell_below z0 HB0.out;replace z1:=cell_below z1 HB0.out;generalize w.alloc (.cells #[.int .i64 0,.string ⟨#[]⟩,.int .i64 0,.int .i64 0,.int .i64 0] 53)=w1 at *
    have fz:=fun k=>Bo.frozen HR0.out k
    have c0:=HR0.out.cell (j:=0) rfl;have c1:=HR0.out.cell (j:=1) rfl;have c2:=HR0.out.cell (j:=2) rfl;have c3:=HR0.out.cell (j:=3) rfl;have c4:=HR0.out.cell (j:=4) rfl
    go_quiet (fail)
    go_wp2
    have F0:Far (fun k=>w.heap.size≤k) w (w1.drewN nq):=Far.of (below_drewN HB0.out nq);have F1:=F0.setCell (p:=⟨w.heap.size,0,none⟩) (Nat.le_refl _) (.int .i64 (-1));have F2:=F1.setCell (p:=⟨w.heap.size,1,none⟩) (Nat.le_refl _) (.string ⟨#[]⟩);have F3:=F2.setCell (p:=⟨w.heap.size,2,none⟩) (Nat.le_refl _) (.int .i64 0);have F4:=F3.setCell (p:=⟨w.heap.size,3,none⟩) (Nat.le_refl _) (.int .i64 0);have F5:=F4.setCell (p:=⟨w.heap.size,4,none⟩) (Nat.le_refl _) (.int .i64 0);have HF9:=zz ((F5.trans (Far.of (below_new _ (.cells #[.int .i64 (-1),.string ⟨#[]⟩,.int .i64 0,.int .i64 0,.int .i64 0] 53)))).toB (Nat.le_refl _));clear F0 F1 F2 F3 F4 F5;have HR9:Hid (Bo (((((((w1.drewN nq).setCell ⟨w.heap.size,0,none⟩ (.int .i64 (-1))).setCell ⟨w.heap.size,1,none⟩ (.string ⟨#[]⟩)).setCell ⟨w.heap.size,2,none⟩ (.int .i64 0)).setCell ⟨w.heap.size,3,none⟩ (.int .i64 0)).setCell ⟨w.heap.size,4,none⟩ (.int .i64 0)).alloc (.cells #[.int .i64 (-1),.string ⟨#[]⟩,.int .i64 0,.int .i64 0,.int .i64 0] 53)) w.heap.size 53 #[.int .i64 (-1),.string ⟨#[]⟩,.int .i64 0,.int .i64 0,.int .i64 0]):=zz ((((((HR0.out.set 0 (.int .i64 (-1))).set 1 (.string ⟨#[]⟩)).set 2 (.int .i64 0)).set 3 (.int .i64 0)).set 4 (.int .i64 0)).alloc _);generalize (((((((w1.drewN nq).setCell ⟨w.heap.size,0,none⟩ (.int .i64 (-1))).setCell ⟨w.heap.size,1,none⟩ (.string ⟨#[]⟩)).setCell ⟨w.heap.size,2,none⟩ (.int .i64 0)).setCell ⟨w.heap.size,3,none⟩ (.int .i64 0)).setCell ⟨w.heap.size,4,none⟩ (.int .i64 0)).alloc (.cells #[.int .i64 (-1),.string ⟨#[]⟩,.int .i64 0,.int .i64 0,.int .i64 0] 53))=w9 at *;clear c0 c1 c2 c3 c4 fz;have c0:=HR9.out.cell (j:=0) rfl;have c1:=HR9.out.cell (j:=1) rfl;have c2:=HR9.out.cell (j:=2) rfl;have c3:=HR9.out.cell (j:=3) rfl;have c4:=HR9.out.cell (j:=4) rfl;refine bodyPost_ret (v:=tkV (noTk 0 0)) (by clear HQ H HL HB0 HR0 HR9 HF9;simp [results,Tryz.results128,go_sem,c0,c1,c2,c3,c4,tkV,noTk];try rfl) rfl ?_;exact ⟨rfl,HF9.out⟩
  · obtain ⟨m,rfl⟩:∃ m,n=m+1:=⟨n - 1,by omega⟩
    obtain ⟨b,o,t,rfl,hb,Ht,x0,x1,x2,x3,x4⟩:=tk_at H.out m (by omega)
    have HNT:Hid (nowT ts i=noTk t.l t.c):=zz (now_past (by have :=HL.out;omega) (by rw [List.getLast?_eq_getElem?,HL.out];exact Ht.out))
    rw [HNT.out];clear Ht HNT x0 x1 x2
    have hm0:(m:Int)+1 - 1=(m:Int):=by omega
    have hm1: ¬(((m:Nat):Int)+1≤0):=by omega
    have hm2:m<m+1:=by omega
    go_enter Tryz.func128,Tryz.ntmps128
    go_wp2
    have HB0:=zz (below_new w (.cells #[.int .i64 0,.string ⟨#[]⟩,.int .i64 0,.int .i64 0,.int .i64 0] 53));have HR0:=zz (Bo.new w 53 #[.int .i64 0,.string ⟨#[]⟩,.int .i64 0,.int .i64 0,.int .i64 0]);have hs0:(w.alloc (.cells #[.int .i64 0,.string ⟨#[]⟩,.int .i64 0,.int .i64 0,.int .i64 0] 53)).heap.size=w.heap.size+1:=World.size_alloc _ _;replace z0:=cell_below z0 HB0.out;replace z1:=cell_below z1 HB0.out;replace x3:=cell_below x3 HB0.out;replace x4:=cell_below x4 HB0.out;generalize w.alloc (.cells #[.int .i64 0,.string ⟨#[]⟩,.int .i64 0,.int .i64 0,.int .i64 0] 53)=w1 at *
    have fz:=fun k=>Bo.frozen HR0.out k
    have c0:=HR0.out.cell (j:=0) rfl;have c1:=HR0.out.cell (j:=1) rfl;have c2:=HR0.out.cell (j:=2) rfl;have c3:=HR0.out.cell (j:=3) rfl;have c4:=HR0.out.cell (j:=4) rfl
    go_quiet (fail)
    go_wp2
    have F0:Far (fun k=>w.heap.size≤k) w (w1.drewN nq):=Far.of (below_drewN HB0.out nq);have F1:=F0.setCell (p:=⟨w.heap.size,0,none⟩) (Nat.le_refl _) (.int .i64 (-1));have F2:=F1.setCell (p:=⟨w.heap.size,1,none⟩) (Nat.le_refl _) (.string ⟨#[]⟩);have F3:=F2.setCell (p:=⟨w.heap.size,2,none⟩) (Nat.le_refl _) (.int .i64 0);have F4:=F3.setCell (p:=⟨w.heap.size,3,none⟩) (Nat.le_refl _) (.int .i64 t.l);have F5:=F4.setCell (p:=⟨w.heap.size,4,none⟩) (Nat.le_refl _) (.int .i64 t.c);have HF9:=zz ((F5.trans (Far.of (below_new _ (.cells #[.int .i64 (-1),.string ⟨#[]⟩,.int .i64 0,.int .i64 t.l,.int .i64 t.c] 53)))).toB (Nat.le_refl _));clear F0 F1 F2 F3 F4 F5;have HR9:Hid (Bo (((((((w1.drewN nq).setCell ⟨w.heap.size,0,none⟩ (.int .i64 (-1))).setCell ⟨w.heap.size,1,none⟩ (.string ⟨#[]⟩)).setCell ⟨w.heap.size,2,none⟩ (.int .i64 0)).setCell ⟨w.heap.size,3,none⟩ (.int .i64 t.l)).setCell ⟨w.heap.size,4,none⟩ (.int .i64 t.c)).alloc (.cells #[.int .i64 (-1),.string ⟨#[]⟩,.int .i64 0,.int .i64 t.l,.int .i64 t.c] 53)) w.heap.size 53 #[.int .i64 (-1),.string ⟨#[]⟩,.int .i64 0,.int .i64 t.l,.int .i64 t.c]):=zz ((((((HR0.out.set 0 (.int .i64 (-1))).set 1 (.string ⟨#[]⟩)).set 2 (.int .i64 0)).set 3 (.int .i64 t.l)).set 4 (.int .i64 t.c)).alloc _);generalize (((((((w1.drewN nq).setCell ⟨w.heap.size,0,none⟩ (.int .i64 (-1))).setCell ⟨w.heap.size,1,none⟩ (.string ⟨#[]⟩)).setCell ⟨w.heap.size,2,none⟩ (.int .i64 0)).setCell ⟨w.heap.size,3,none⟩ (.int .i64 t.l)).setCell ⟨w.heap.size,4,none⟩ (.int .i64 t.c)).alloc (.cells #[.int .i64 (-1),.string ⟨#[]⟩,.int .i64 0,.int .i64 t.l,.int .i64 t.c] 53))=w9 at *;clear c0 c1 c2 c3 c4 fz;have c0:=HR9.out.cell (j:=0) rfl;have c1:=HR9.out.cell (j:=1) rfl;have c2:=HR9.out.cell (j:=2) rfl;have c3:=HR9.out.cell (j:=3) rfl;have c4:=HR9.out.cell (j:=4) rfl;refine bodyPost_ret (v:=tkV (noTk t.l t.c)) (by clear HQ H HL HB0 HR0 HR9 HF9 x3 x4;simp [results,Tryz.results128,go_sem,c0,c1,c2,c3,c4,tkV,noTk];try rfl) rfl ?_;exact ⟨rfl,HF9.out⟩
theorem now_any {ts:List Tk} {aL:Option Addr} {n cap i q:Nat} {deep:Int} (w:World) (hq:Bo w q 162 #[.slice aL n cap,.int .i64 (i:Int),.int .i64 deep]) (h:MemW w (.s 5 (tkRows ts)) (.slice aL n cap)):
    Calls Tryz.prog 128 #[.pointer (some ⟨q,0,none⟩)] w fun e w'=>e=.returned (tkV (nowT ts i))∧Below w.heap.size w w':=by
  by_cases hlt:i<n
  · exact now_in w hq h hlt
  · exact now_out w hq h hlt
theorem tk_pos (k n l c:Int) (s:ByteArray) (w:World):Sem.run Tryz.prog (Instr.field 53 (.agg #[.int .i64 k,.string s,.int .i64 n,.int .i64 l,.int .i64 c]) 3) w=.ok (.agg #[.int .i64 l,.int .i64 c]) w:=by kernel_rfl
attribute [local go_sem] tk_pos
def faultV (l c:Int):List PanicEntry:=[{ v:=.iface 164 (.agg #[.int .i64 l,.int .i64 c]),recovered:=false }]
theorem fail_any {ts:List Tk} {aL:Option Addr} {n cap i q:Nat} {deep:Int} (w:World) (hq:Bo w q 162 #[.slice aL n cap,.int .i64 (i:Int),.int .i64 deep]) (h:MemW w (.s 5 (tkRows ts)) (.slice aL n cap)):
    Calls Tryz.prog 131 #[.pointer (some ⟨q,0,none⟩)] w fun e w'=>e=.panicked (faultV (nowT ts i).l (nowT ts i).c)∧Below w.heap.size w w':=by
  have H:=zz h;have HQ:=zz hq;clear h hq;go_enter Tryz.func131,Tryz.ntmps131
  go_wp2_with (first | (go_at_call 128;refine (now_any w HQ.out H.out).mono ?_;(rintro e w1 ⟨rfl,hb1⟩;have HB1:=zz hb1;clear hb1;simp only [tkV])))
  exact ⟨rfl,rfl,HB1.out⟩
end
section
open Go.RowKit
structure PS (ts:List Tk) (aL:Option Addr) (n cap q:Nat) (i:Nat) (d:Int) (w:World):Prop where
  bo:Bo w q 162 #[.slice aL n cap,.int .i64 (i:Int),.int .i64 d]
  tk:Mem (· <q) w (.s 5 (tkRows ts)) (.slice aL n cap)
  sm:n≤1048576
def FarQ (q:Nat) (w w':World):Prop:=Far (fun b=>b=q) w w'
section
variable {ts:List Tk} {aL:Option Addr} {n cap q i:Nat} {d:Int} {w w':World}
theorem PS.lt (h:PS ts aL n cap q i d w):q<w.heap.size:=h.bo.lt
theorem PS.mem (h:PS ts aL n cap q i d w):MemW w (.s 5 (tkRows ts)) (.slice aL n cap):=h.tk.le (Nat.le_of_lt h.lt)
theorem PS.len (h:PS ts aL n cap q i d w):ts.length=n∧n≤9223372036854775807:=by
  have :=h.tk.len;rw [tkRows_len] at this;exact ⟨this.1,by omega⟩
theorem PS.keep (h:PS ts aL n cap q i d w) (hb:Below w.heap.size w w'):PS ts aL n cap q i d w':=
  ⟨h.bo.keep hb,h.tk.mono (fun _ hb=>hb) fun b hbq=>hb.block b (Nat.lt_trans hbq h.lt),h.sm⟩
theorem PS.alloc (h:PS ts aL n cap q i d w) (o:Obj):PS ts aL n cap q i d (w.alloc o):=h.keep (below_new w o)
theorem PS.drew (h:PS ts aL n cap q i d w):PS ts aL n cap q i d w.drew:=h.keep (below_drew w)
theorem PS.dn (h:PS ts aL n cap q i d w) (k:Nat):PS ts aL n cap q i d (w.drewN k):=h.keep (below_drewN (Below.refl _ _) k)
theorem PS.setI (h:PS ts aL n cap q i d w) {j:Nat} {v:Int} (hv:v=(j:Int)):PS ts aL n cap q j d (w.setCell ⟨q,1,none⟩ (.int .i64 v)):=
  ⟨hv ▸ h.bo.set 1 (.int .i64 v),h.tk.mono (fun _ hb=>hb) fun b hbq=>heap_setCell_other w ⟨q,1,none⟩ b _ (Nat.ne_of_lt hbq),h.sm⟩
theorem PS.setD (h:PS ts aL n cap q i d w) (e:Int):PS ts aL n cap q i e (w.setCell ⟨q,2,none⟩ (.int .i64 e)):=
  ⟨h.bo.set 2 (.int .i64 e),h.tk.mono (fun _ hb=>hb) fun b hbq=>heap_setCell_other w ⟨q,2,none⟩ b _ (Nat.ne_of_lt hbq),h.sm⟩
theorem PS.c3 (h:PS ts aL n cap q i d w):w.cell? ⟨q,0,none⟩=some (.slice aL n cap)∧w.cell? ⟨q,1,none⟩=some (.int .i64 (i:Int))∧w.cell? ⟨q,2,none⟩=some (.int .i64 d):=⟨h.bo.cell (j:=0) rfl,h.bo.cell (j:=1) rfl,h.bo.cell (j:=2) rfl⟩
theorem PS.fz (h:PS ts aL n cap q i d w) (k:Nat):w.frozen? ⟨q,k,none⟩=false:=h.bo.frozen k
theorem FarQ.refl (q:Nat) (w:World):FarQ q w w:=Far.refl _ _
theorem FarQ.trans {a b c:World} (h:FarQ q a b) (k:FarQ q b c):FarQ q a c:=Far.trans h k
theorem FarQ.of (h:Below w.heap.size w w'):FarQ q w w':=Far.of h
theorem FarQ.set (w:World) (j:Nat) (v:Value):FarQ q w (w.setCell ⟨q,j,none⟩ v):=(Far.refl (fun b=>b=q) w).setCell (p:=⟨q,j,none⟩) rfl v
theorem Far.cellZ {Z:Nat→Prop} {b o:Nat} {v:Value} (hc:w.cell? ⟨b,o,none⟩=some v) (h:Far Z w w') (hb: ¬Z b):w'.cell? ⟨b,o,none⟩=some v:=
  (Far.cell h (World.block_lt_of_cell? w _ hc) hb).trans hc
theorem FarQ.cell {b o:Nat} {v:Value} (hc:w.cell? ⟨b,o,none⟩=some v) (h:FarQ q w w') (hb:b≠q):w'.cell? ⟨b,o,none⟩=some v:=by
  have hlt:b<w.heap.size:=World.block_lt_of_cell? w _ hc;exact (Far.cell h hlt hb).trans hc
theorem FarQ.mem {base:Nat} {x:At} {y:Value} (hm:Mem (Nw 0 base w.heap.size) w x y) (h:FarQ q w w') (hq:q<base):Mem (Nw 0 base w'.heap.size) w' x y:=
  hm.mono (fun b hb=>⟨hb.1,Nat.lt_of_lt_of_le hb.2 h.size⟩) fun b hb=>h.block b hb.2 (fun e=>by have h1:=hb.1;have :b=q:=e;omega)
def FarB (q B:Nat) (w w':World):Prop:=Far (fun b=>b=q∨B≤b) w w'
theorem FarB.refl (q B:Nat) (w:World):FarB q B w w:=Far.refl _ _
theorem FarB.below {B:Nat} {a:World} (h:FarB q B a w) (hb:Below w.heap.size w w'):FarB q B a w':=Far.trans h (Far.of hb)
theorem FarB.alloc {B:Nat} {a:World} (h:FarB q B a w) (o:Obj):FarB q B a (w.alloc o):=h.below (below_new w o)
theorem FarB.drew {B:Nat} {a:World} (h:FarB q B a w):FarB q B a w.drew:=h.below (below_drew w)
theorem FarB.dn {B:Nat} {a:World} (h:FarB q B a w) (k:Nat):FarB q B a (w.drewN k):=h.below (below_drewN (Below.refl _ _) k)
theorem FarB.setQ {B:Nat} {a:World} (h:FarB q B a w) (j:Nat) (v:Value):FarB q B a (w.setCell ⟨q,j,none⟩ v):=Far.setCell (p:=⟨q,j,none⟩) h (.inl rfl) v
theorem FarB.setN {B:Nat} {a:World} (h:FarB q B a w) {g:Nat} (hg:B≤g) (j:Nat) (v:Value):FarB q B a (w.setCell ⟨g,j,none⟩ v):=Far.setCell (p:=⟨g,j,none⟩) h (.inr hg) v
theorem FarB.farq {B:Nat} {a:World} (h:FarB q B a w) (k:FarQ q w w'):FarB q B a w':=Far.trans h (Far.mono k fun _ e=>.inl e)
theorem FarB.out {a:World} (h:FarB q a.heap.size a w):FarQ q a w:=⟨h.os,h.tape,h.output,h.size,fun k hk hq=>h.block k hk (fun e=>by rcases e with e | e;exact hq e;omega)⟩
theorem PS.off (h:PS ts aL n cap q i d w) {g:Nat} (hg:q<g) (j:Nat) (v:Value):PS ts aL n cap q i d (w.setCell ⟨g,j,none⟩ v):=
  ⟨h.bo.far j v (Nat.ne_of_lt hg),h.tk.mono (fun _ hb=>hb) fun b hbq=>heap_setCell_other w ⟨g,j,none⟩ b v (Nat.ne_of_lt (Nat.lt_trans hbq hg)),h.sm⟩
theorem PS.farq {B:Nat} {_a:World} (h:PS ts aL n cap q i d w) (k:FarB q B w w') (hB:q<B) {j:Nat} {e:Int} (hb:Bo w' q 162 #[.slice aL n cap,.int .i64 (j:Int),.int .i64 e]):PS ts aL n cap q j e w':=
  ⟨hb,h.tk.mono (fun _ hb=>hb) fun b hbq=>k.block b (Nat.lt_trans hbq h.lt) (fun e=>by rcases e with e | e <;> omega),h.sm⟩
theorem FarQ.bo {b:Nat} {t:TypeId} {cs:Array Value} (hb:Bo w b t cs) (h:FarQ q w w') (hq:b≠q):Bo w' b t cs:=(h.block b hb.lt hq).trans hb
end
section
variable {ts:List Tk} {aL:Option Addr} {n cap q i:Nat} {d:Int}
theorem ba_eq (a b:ByteArray):(a==b)=decide (a=b):=by
  by_cases h:a=b
  · rw [decide_eq_true h];exact beq_iff_eq.2 h
  · rw [decide_eq_false h];exact beq_eq_false_iff_ne.2 h
theorem is_any (k:Int) (s:ByteArray) (w:World) (hp:PS ts aL n cap q i d w):
    Calls Tryz.prog 129 #[.pointer (some ⟨q,0,none⟩),.int .i64 k,.string s] w fun e w'=>e=.returned (.bool (isT ts i k s))∧Below w.heap.size w w':=by
  have HP:=zz hp;clear hp;go_enter Tryz.func129,Tryz.ntmps129
  go_wp2_with (first | (go_at_call 128;refine (now_any w HP.out.bo HP.out.mem).mono ?_;(rintro e w1 ⟨rfl,hb1⟩;have HB1:=zz hb1;clear hb1;simp only [tkV])))
  all_goals
    refine bodyPost_ret (results_tmp rfl _ _ _) rfl ?_
    rename_i hk
    refine ⟨congrArg (fun b=>Ending.returned (.bool b)) ?_,HB1.out.trans ((below_new w1 _).mono HB1.out.size)⟩;unfold isT
    first
      | rw [decide_eq_true hk,Bool.true_and, ←ba_eq, ←toList_beq]
      | rw [decide_eq_false hk,Bool.false_and]
theorem take_ok (k:Int) (s:ByteArray) (w:World) (hp:PS ts aL n cap q i d w) (hk:isT ts i k s=true) (hk1:k≠ -1):
    Calls Tryz.prog 134 #[.pointer (some ⟨q,0,none⟩),.int .i64 k,.string s] w fun e w'=>e=.returned (.tuple #[])∧FarQ q w w'∧PS ts aL n cap q (i+1) d w':=by
  have HP:=zz hp;have hi:=isT_lt hk hk1;have hl:=hp.len
  have hov:(i:Int)+1≤9223372036854775807:=by omega
  clear hp;go_enter Tryz.func134,Tryz.ntmps134
  go_wp2_with (first | (go_at_call 129;refine (is_any k s w HP.out).mono ?_;(rintro e w1 ⟨rfl,hb1⟩;have HB1:=zz hb1;clear hb1;rw [hk];have HP1:=zz (HP.out.keep HB1.out);have c0:=HP1.out.c3.1;have c1:=HP1.out.c3.2.1;have c2:=HP1.out.c3.2.2;have fz:=HP1.out.fz;have hql:=HP1.out.lt;have hqn:=Nat.ne_of_lt HP1.out.lt;have hqm:=Nat.ne_of_gt HP1.out.lt)))
  go_end0
  exact ⟨rfl,(FarQ.of HB1.out).trans (FarQ.set _ _ _),HP1.out.setI (by omega)⟩
theorem take_bad (k:Int) (s:ByteArray) (w:World) (hp:PS ts aL n cap q i d w) (hk:isT ts i k s=false):
    Calls Tryz.prog 134 #[.pointer (some ⟨q,0,none⟩),.int .i64 k,.string s] w fun e w'=>e=.panicked (faultV (nowT ts i).l (nowT ts i).c)∧Below w.heap.size w w':=by
  have HP:=zz hp;clear hp;go_enter Tryz.func134,Tryz.ntmps134
  go_wp2_with (first | (go_at_call 129;refine (is_any k s w HP.out).mono ?_;(rintro e w1 ⟨rfl,hb1⟩;have HB1:=zz hb1;clear hb1;rw [hk];have HP1:=zz (HP.out.keep HB1.out))))
  go_wp2_with (first | (go_at_call 131;refine (fail_any _ HP1.out.bo HP1.out.mem).mono ?_;(rintro e w2 ⟨rfl,hb2⟩;have HB2:=zz hb2;clear hb2)))
  exact ⟨rfl,rfl,HB1.out.trans (HB2.out.mono HB1.out.size)⟩
theorem down_ok (w:World) (hp:PS ts aL n cap q i d w) (hd:d≠40) (hd0:0≤d) (hd1:d≤40) (hi:i<ts.length):
    Calls Tryz.prog 132 #[.pointer (some ⟨q,0,none⟩)] w fun e w'=>e=.returned (.tuple #[])∧FarQ q w w'∧PS ts aL n cap q (i+1) (d+1) w':=by
  have HP:=zz hp;have hl:=hp.len
  have hov:(i:Int)+1≤9223372036854775807:=by omega
  have hdv:(d==40)=false:=by simp [hd]
  clear hp;have c0:=HP.out.c3.1;have c1:=HP.out.c3.2.1;have c2:=HP.out.c3.2.2;have fz:=HP.out.fz;have hql:=HP.out.lt;have hqn:=Nat.ne_of_lt HP.out.lt;have hqm:=Nat.ne_of_gt HP.out.lt;go_enter Tryz.func132,Tryz.ntmps132
  go_wp2
  go_end0
  exact ⟨rfl,(FarQ.set _ _ _).trans (FarQ.set _ _ _),(HP.out.setD (d+1)).setI (by omega)⟩
theorem down_bad (w:World) (hp:PS ts aL n cap q i 40 w):
    Calls Tryz.prog 132 #[.pointer (some ⟨q,0,none⟩)] w fun e w'=>e=.panicked (faultV (nowT ts i).l (nowT ts i).c)∧Below w.heap.size w w':=by
  have HP:=zz hp;clear hp;have c0:=HP.out.c3.1;have c1:=HP.out.c3.2.1;have c2:=HP.out.c3.2.2;have fz:=HP.out.fz;have hql:=HP.out.lt;have hqn:=Nat.ne_of_lt HP.out.lt;have hqm:=Nat.ne_of_gt HP.out.lt;go_enter Tryz.func132,Tryz.ntmps132
  go_wp2_with (first | (go_at_call 131;refine (fail_any _ HP.out.bo HP.out.mem).mono ?_;(rintro e w2 ⟨rfl,hb2⟩;have HB2:=zz hb2;clear hb2)))
  exact ⟨rfl,rfl,HB2.out⟩
theorem up_any (u:FrameMode) (w:World) {i d:Int} (hb:Bo w q 162 #[.slice aL n cap,.int .i64 i,.int .i64 d]):
    CallsD Tryz.prog 133 #[.pointer (some ⟨q,0,none⟩)] u w fun e u' w'=>u'=u∧(e=.returned (.tuple #[])∧w'=w.setCell ⟨q,2,none⟩ (.int .i64 (wrap64 (d - 1)))):=by
  have c2:w.cell? ⟨q,2,none⟩=some (.int .i64 d):=hb.cell (j:=2) rfl;have fz:=hb.frozen
  go_enter_d Tryz.func133,Tryz.ntmps133
  go_wp2
  refine bodyPost_end (results_none rfl _ _ _) rfl ?_;exact ⟨rfl,rfl⟩
theorem name_ok (w:World) (hp:PS ts aL n cap q i d w) (hk:(nowT ts i).k=2):
    Calls Tryz.prog 146 #[.pointer (some ⟨q,0,none⟩)] w fun e w'=>e=.returned (.string (nowT ts i).s)∧FarQ q w w'∧PS ts aL n cap q (i+1) d w':=by
  have HP:=zz hp;have hi:i<ts.length:=now_lt (by rw [hk];decide)
  have hov:(i:Int)+1≤9223372036854775807:=by have :=hp.len;omega
  clear hp hi;obtain ⟨t,HT⟩:∃ t,nowT ts i=t:=⟨_,rfl⟩;rw [HT] at hk ⊢;replace HT:=zz HT;go_enter Tryz.func146,Tryz.ntmps146
  go_wp2_with (first | (go_at_call 128;refine (now_any w HP.out.bo HP.out.mem).mono ?_;(rintro e w1 ⟨rfl,hb1⟩;have HB1:=zz hb1;clear hb1;rw [HT.out];simp only [tkV];have HP1:=zz (HP.out.keep HB1.out);have c0:=HP1.out.c3.1;have c1:=HP1.out.c3.2.1;have c2:=HP1.out.c3.2.2;have fz:=HP1.out.fz;have hql:=HP1.out.lt;have hqn:=Nat.ne_of_lt HP1.out.lt;have hqm:=Nat.ne_of_gt HP1.out.lt)))
  refine bodyPost_ret (results_tmp rfl _ _ _) rfl ?_;exact ⟨rfl,((FarQ.of HB1.out).trans (FarQ.set _ _ _)).trans (FarQ.of (below_new _ _)),(HP1.out.setI (by omega)).alloc _⟩
theorem name_bad (w:World) (hp:PS ts aL n cap q i d w) (hk: ¬(nowT ts i).k=2):
    Calls Tryz.prog 146 #[.pointer (some ⟨q,0,none⟩)] w fun e w'=>e=.panicked (faultV (nowT ts i).l (nowT ts i).c)∧Below w.heap.size w w':=by
  have HP:=zz hp;clear hp;obtain ⟨t,HT⟩:∃ t,nowT ts i=t:=⟨_,rfl⟩;rw [HT] at hk ⊢;replace HT:=zz HT;go_enter Tryz.func146,Tryz.ntmps146
  go_wp2_with (first | (go_at_call 128;refine (now_any w HP.out.bo HP.out.mem).mono ?_;(rintro e w1 ⟨rfl,hb1⟩;have HB1:=zz hb1;clear hb1;rw [HT.out];simp only [tkV];have HP1:=zz (HP.out.keep HB1.out))) | (go_at_call 131;refine (fail_any _ (HP1.out.alloc _).bo (HP1.out.alloc _).mem).mono ?_;(rintro e w2 ⟨rfl,hb2⟩;have HB2:=zz hb2;clear hb2)))
  refine ⟨rfl,by rw [HT.out],?_⟩;exact Below.toA HB1.out HB2.out
end
end
section
open Go.RowKit
section
variable {ts:List Tk} {aL:Option Addr} {n cap q i:Nat} {d:Int}
theorem plain_2 (w:World) (hp:PS ts aL n cap q i d w) (hk:(nowT ts i).k=2):
    Calls Tryz.prog 130 #[.pointer (some ⟨q,0,none⟩)] w fun e w'=>e=.returned (.tuple #[.agg #[.int .i64 1,.string (nowT ts i).s,.int .i64 0,.slice none 0 0,.int .i64 (nowT ts i).l,.int .i64 (nowT ts i).c],.bool true])∧FarQ q w w'∧PS ts aL n cap q (i+1) d w':=by
  have HP:=zz hp;have hi:i<ts.length:=now_lt (by rw [hk];decide)
  have hov:(i:Int)+1≤9223372036854775807:=by have :=hp.len;omega
  clear hi;clear hp;obtain ⟨t,HT⟩:∃ t,nowT ts i=t:=⟨_,rfl⟩;rw [HT] at hk ⊢;replace HT:=zz HT;have hq0:=HP.out.lt;have hq1:=Nat.ne_of_lt HP.out.lt;have hq2:=Nat.ne_of_gt HP.out.lt;go_enter Tryz.func130,Tryz.ntmps130
  go_wp2_with (first | (go_at_call 128;refine (now_any _ (HP.out.alloc _).bo (HP.out.alloc _).mem).mono ?_;(rintro e w1 ⟨rfl,hb1⟩;rw [HT.out];simp only [tkV];have HP1:=zz ((HP.out.alloc _).keep hb1);have HR1:=zz ((Bo.new w 60 _).keep hb1);have HF1:=zz (((FarB.refl q w.heap.size w).alloc _).below hb1);have hs1:=hb1.size;rw [World.size_alloc] at hs1;clear hb1;have c0:=HP1.out.c3.1;have c1:=HP1.out.c3.2.1;have c2:=HP1.out.c3.2.2;have fz:=HP1.out.fz;have hql:=HP1.out.lt;have hqn:=Nat.ne_of_lt HP1.out.lt;have hqm:=Nat.ne_of_gt HP1.out.lt;have r0:=HR1.out.cell (j:=0) rfl;have r1:=HR1.out.cell (j:=1) rfl;have r2:=HR1.out.cell (j:=2) rfl;have r3:=HR1.out.cell (j:=3) rfl;have r4:=HR1.out.cell (j:=4) rfl;have r5:=HR1.out.cell (j:=5) rfl;have rz:=Bo.frozen HR1.out;have rl:=Bo.lt HR1.out;have rn:=Nat.ne_of_lt (Bo.lt HR1.out);have rm:=Nat.ne_of_gt (Bo.lt HR1.out))))
  have HPE:=HP1;have HFE:=HF1;clear HT HP1 HR1 HP HF1;refine bodyPost_ret (v:=.tuple #[.agg #[.int .i64 1,.string t.s,.int .i64 0,.slice none 0 0,.int .i64 t.l,.int .i64 t.c],.bool true]) (by clear HPE HFE;simp [results,Tryz.results130,go_sem,r0,r1,r2,r3,r4,r5,rl]) rfl ?_;refine ⟨rfl,FarB.out ?_,?_⟩
  · (repeat' (first | with_reducible exact HFE.out | with_reducible refine FarB.alloc ?_ _ | with_reducible refine FarB.drew ?_ | with_reducible refine FarB.dn ?_ _ | with_reducible refine FarB.setQ ?_ _ _ | with_reducible refine FarB.setN ?_ (by omega) _ _))
  · (repeat' (first | with_reducible exact HPE.out | with_reducible refine PS.alloc ?_ _ | with_reducible refine PS.drew ?_ | with_reducible refine PS.dn ?_ _ | with_reducible refine PS.setI (i:=i) ?_ (by omega) | with_reducible refine PS.off ?_ (by omega) _ _))
theorem plain_3 (w:World) (hp:PS ts aL n cap q i d w) (hk:(nowT ts i).k=3):
    Calls Tryz.prog 130 #[.pointer (some ⟨q,0,none⟩)] w fun e w'=>e=.returned (.tuple #[.agg #[.int .i64 2,.string (nowT ts i).s,.int .i64 0,.slice none 0 0,.int .i64 (nowT ts i).l,.int .i64 (nowT ts i).c],.bool true])∧FarQ q w w'∧PS ts aL n cap q (i+1) d w':=by
  have HP:=zz hp;have hi:i<ts.length:=now_lt (by rw [hk];decide)
  have hov:(i:Int)+1≤9223372036854775807:=by have :=hp.len;omega
  clear hi;clear hp;obtain ⟨t,HT⟩:∃ t,nowT ts i=t:=⟨_,rfl⟩;rw [HT] at hk ⊢;replace HT:=zz HT;have hq0:=HP.out.lt;have hq1:=Nat.ne_of_lt HP.out.lt;have hq2:=Nat.ne_of_gt HP.out.lt;go_enter Tryz.func130,Tryz.ntmps130
  go_wp2_with (first | (go_at_call 128;refine (now_any _ (HP.out.alloc _).bo (HP.out.alloc _).mem).mono ?_;(rintro e w1 ⟨rfl,hb1⟩;rw [HT.out];simp only [tkV];have HP1:=zz ((HP.out.alloc _).keep hb1);have HR1:=zz ((Bo.new w 60 _).keep hb1);have HF1:=zz (((FarB.refl q w.heap.size w).alloc _).below hb1);have hs1:=hb1.size;rw [World.size_alloc] at hs1;clear hb1;have c0:=HP1.out.c3.1;have c1:=HP1.out.c3.2.1;have c2:=HP1.out.c3.2.2;have fz:=HP1.out.fz;have hql:=HP1.out.lt;have hqn:=Nat.ne_of_lt HP1.out.lt;have hqm:=Nat.ne_of_gt HP1.out.lt;have r0:=HR1.out.cell (j:=0) rfl;have r1:=HR1.out.cell (j:=1) rfl;have r2:=HR1.out.cell (j:=2) rfl;have r3:=HR1.out.cell (j:=3) rfl;have r4:=HR1.out.cell (j:=4) rfl;have r5:=HR1.out.cell (j:=5) rfl;have rz:=Bo.frozen HR1.out;have rl:=Bo.lt HR1.out;have rn:=Nat.ne_of_lt (Bo.lt HR1.out);have rm:=Nat.ne_of_gt (Bo.lt HR1.out))))
  have HPE:=HP1;have HFE:=HF1;clear HT HP1 HR1 HP HF1;refine bodyPost_ret (v:=.tuple #[.agg #[.int .i64 2,.string t.s,.int .i64 0,.slice none 0 0,.int .i64 t.l,.int .i64 t.c],.bool true]) (by clear HPE HFE;simp [results,Tryz.results130,go_sem,r0,r1,r2,r3,r4,r5,rl]) rfl ?_;refine ⟨rfl,FarB.out ?_,?_⟩
  · (repeat' (first | with_reducible exact HFE.out | with_reducible refine FarB.alloc ?_ _ | with_reducible refine FarB.drew ?_ | with_reducible refine FarB.dn ?_ _ | with_reducible refine FarB.setQ ?_ _ _ | with_reducible refine FarB.setN ?_ (by omega) _ _))
  · (repeat' (first | with_reducible exact HPE.out | with_reducible refine PS.alloc ?_ _ | with_reducible refine PS.drew ?_ | with_reducible refine PS.dn ?_ _ | with_reducible refine PS.setI (i:=i) ?_ (by omega) | with_reducible refine PS.off ?_ (by omega) _ _))
theorem plain_0 (w:World) (hp:PS ts aL n cap q i d w) (hk2: ¬(nowT ts i).k=2) (hk3: ¬(nowT ts i).k=3) (hk4: ¬(nowT ts i).k=4):
    Calls Tryz.prog 130 #[.pointer (some ⟨q,0,none⟩)] w fun e w'=>e=.returned (.tuple #[.agg #[.int .i64 0,.string (nowT ts i).s,.int .i64 0,.slice none 0 0,.int .i64 (nowT ts i).l,.int .i64 (nowT ts i).c],.bool false])∧FarQ q w w'∧PS ts aL n cap q i d w':=by
  have HP:=zz hp;clear hp;obtain ⟨t,HT⟩:∃ t,nowT ts i=t:=⟨_,rfl⟩;rw [HT] at hk2 hk3 hk4 ⊢;replace HT:=zz HT;have hq0:=HP.out.lt;have hq1:=Nat.ne_of_lt HP.out.lt;have hq2:=Nat.ne_of_gt HP.out.lt;go_enter Tryz.func130,Tryz.ntmps130
  go_wp2_with (first | (go_at_call 128;refine (now_any _ (HP.out.alloc _).bo (HP.out.alloc _).mem).mono ?_;(rintro e w1 ⟨rfl,hb1⟩;rw [HT.out];simp only [tkV];have HP1:=zz ((HP.out.alloc _).keep hb1);have HR1:=zz ((Bo.new w 60 _).keep hb1);have HF1:=zz (((FarB.refl q w.heap.size w).alloc _).below hb1);have hs1:=hb1.size;rw [World.size_alloc] at hs1;clear hb1;have c0:=HP1.out.c3.1;have c1:=HP1.out.c3.2.1;have c2:=HP1.out.c3.2.2;have fz:=HP1.out.fz;have hql:=HP1.out.lt;have hqn:=Nat.ne_of_lt HP1.out.lt;have hqm:=Nat.ne_of_gt HP1.out.lt;have r0:=HR1.out.cell (j:=0) rfl;have r1:=HR1.out.cell (j:=1) rfl;have r2:=HR1.out.cell (j:=2) rfl;have r3:=HR1.out.cell (j:=3) rfl;have r4:=HR1.out.cell (j:=4) rfl;have r5:=HR1.out.cell (j:=5) rfl;have rz:=Bo.frozen HR1.out;have rl:=Bo.lt HR1.out;have rn:=Nat.ne_of_lt (Bo.lt HR1.out);have rm:=Nat.ne_of_gt (Bo.lt HR1.out))))
  have HPE:=HP1;have HFE:=HF1;clear HT HP1 HR1 HP HF1;refine bodyPost_ret (v:=.tuple #[.agg #[.int .i64 0,.string t.s,.int .i64 0,.slice none 0 0,.int .i64 t.l,.int .i64 t.c],.bool false]) (by clear HPE HFE;simp [results,Tryz.results130,go_sem,r0,r1,r2,r3,r4,r5,rl]) rfl ?_;refine ⟨rfl,FarB.out ?_,?_⟩
  · (repeat' (first | with_reducible exact HFE.out | with_reducible refine FarB.alloc ?_ _ | with_reducible refine FarB.drew ?_ | with_reducible refine FarB.dn ?_ _ | with_reducible refine FarB.setQ ?_ _ _ | with_reducible refine FarB.setN ?_ (by omega) _ _))
  · (repeat' (first | with_reducible exact HPE.out | with_reducible refine PS.alloc ?_ _ | with_reducible refine PS.drew ?_ | with_reducible refine PS.dn ?_ _ | with_reducible refine PS.setI (i:=i) ?_ (by omega) | with_reducible refine PS.off ?_ (by omega) _ _))
theorem plain_4 (w:World) (hp:PS ts aL n cap q i d w) (hk:(nowT ts i).k=4):
    Calls Tryz.prog 130 #[.pointer (some ⟨q,0,none⟩)] w fun e w'=>e=.returned (.tuple #[.agg #[.int .i64 3,.string ⟨#[]⟩,.int .i64 (nowT ts i).n,.slice none 0 0,.int .i64 (nowT ts i).l,.int .i64 (nowT ts i).c],.bool true])∧FarQ q w w'∧PS ts aL n cap q (i+1) d w':=by
  have HP:=zz hp;have hi:i<ts.length:=now_lt (by rw [hk];decide)
  have hov:(i:Int)+1≤9223372036854775807:=by have :=hp.len;omega
  clear hi;clear hp;obtain ⟨t,HT⟩:∃ t,nowT ts i=t:=⟨_,rfl⟩;rw [HT] at hk ⊢;replace HT:=zz HT;have hq0:=HP.out.lt;have hq1:=Nat.ne_of_lt HP.out.lt;have hq2:=Nat.ne_of_gt HP.out.lt;go_enter Tryz.func130,Tryz.ntmps130
  go_wp2_with (first | (go_at_call 128;refine (now_any _ (HP.out.alloc _).bo (HP.out.alloc _).mem).mono ?_;(rintro e w1 ⟨rfl,hb1⟩;rw [HT.out];simp only [tkV];have HP1:=zz ((HP.out.alloc _).keep hb1);have HR1:=zz ((Bo.new w 60 _).keep hb1);have HF1:=zz (((FarB.refl q w.heap.size w).alloc _).below hb1);have hs1:=hb1.size;rw [World.size_alloc] at hs1;clear hb1;have c0:=HP1.out.c3.1;have c1:=HP1.out.c3.2.1;have c2:=HP1.out.c3.2.2;have fz:=HP1.out.fz;have hql:=HP1.out.lt;have hqn:=Nat.ne_of_lt HP1.out.lt;have hqm:=Nat.ne_of_gt HP1.out.lt;have r0:=HR1.out.cell (j:=0) rfl;have r1:=HR1.out.cell (j:=1) rfl;have r2:=HR1.out.cell (j:=2) rfl;have r3:=HR1.out.cell (j:=3) rfl;have r4:=HR1.out.cell (j:=4) rfl;have r5:=HR1.out.cell (j:=5) rfl;have rz:=Bo.frozen HR1.out;have rl:=Bo.lt HR1.out;have rn:=Nat.ne_of_lt (Bo.lt HR1.out);have rm:=Nat.ne_of_gt (Bo.lt HR1.out))))
  have hs3:((w1.alloc (.cells #[.int .i64 4,.string t.s,.int .i64 t.n,.int .i64 t.l,.int .i64 t.c] 53)).alloc (.cells #[.int .i64 0,.string t.s,.int .i64 0,.slice none 0 0,.int .i64 t.l,.int .i64 t.c] 60)).heap.size=w1.heap.size+1+1:=by rw [World.size_alloc,World.size_alloc]
  have HP3:Hid (PS ts aL n cap q i d ((w1.alloc (.cells #[.int .i64 4,.string t.s,.int .i64 t.n,.int .i64 t.l,.int .i64 t.c] 53)).alloc (.cells #[.int .i64 0,.string t.s,.int .i64 0,.slice none 0 0,.int .i64 t.l,.int .i64 t.c] 60))):=zz ((HP1.out.alloc _).alloc _);have HR3:Hid (Bo ((w1.alloc (.cells #[.int .i64 4,.string t.s,.int .i64 t.n,.int .i64 t.l,.int .i64 t.c] 53)).alloc (.cells #[.int .i64 0,.string t.s,.int .i64 0,.slice none 0 0,.int .i64 t.l,.int .i64 t.c] 60)) w.heap.size 60 _):=zz ((HR1.out.alloc _).alloc _);have HF3:Hid (FarB q w.heap.size w ((w1.alloc (.cells #[.int .i64 4,.string t.s,.int .i64 t.n,.int .i64 t.l,.int .i64 t.c] 53)).alloc (.cells #[.int .i64 0,.string t.s,.int .i64 0,.slice none 0 0,.int .i64 t.l,.int .i64 t.c] 60))):=zz ((HF1.out.alloc _).alloc _);have HT4:Hid (Bo ((w1.alloc (.cells #[.int .i64 4,.string t.s,.int .i64 t.n,.int .i64 t.l,.int .i64 t.c] 53)).alloc (.cells #[.int .i64 0,.string t.s,.int .i64 0,.slice none 0 0,.int .i64 t.l,.int .i64 t.c] 60)) w1.heap.size 53 _):=zz ((Bo.new w1 53 #[.int .i64 4,.string t.s,.int .i64 t.n,.int .i64 t.l,.int .i64 t.c]).alloc _);have HT5:Hid (Bo ((w1.alloc (.cells #[.int .i64 4,.string t.s,.int .i64 t.n,.int .i64 t.l,.int .i64 t.c] 53)).alloc (.cells #[.int .i64 0,.string t.s,.int .i64 0,.slice none 0 0,.int .i64 t.l,.int .i64 t.c] 60)) (w1.heap.size+1) 60 _):=zz (by rw [←World.size_alloc w1];exact Bo.new _ 60 #[.int .i64 0,.string t.s,.int .i64 0,.slice none 0 0,.int .i64 t.l,.int .i64 t.c]);generalize ((w1.alloc (.cells #[.int .i64 4,.string t.s,.int .i64 t.n,.int .i64 t.l,.int .i64 t.c] 53)).alloc (.cells #[.int .i64 0,.string t.s,.int .i64 0,.slice none 0 0,.int .i64 t.l,.int .i64 t.c] 60))=w3 at *;clear c0 c1 c2 fz hql hqn hqm r0 r1 r2 r3 r4 r5 rz rn rm HP1 HR1 HF1;have y2:=HT4.out.cell (j:=2) rfl;have v0:=HT5.out.cell (j:=0) rfl;have v1:=HT5.out.cell (j:=1) rfl;have v2:=HT5.out.cell (j:=2) rfl;have v3:=HT5.out.cell (j:=3) rfl;have v4:=HT5.out.cell (j:=4) rfl;have v5:=HT5.out.cell (j:=5) rfl;have vz:=Bo.frozen HT5.out;have vl:=Bo.lt HT5.out;have vn:=Nat.ne_of_lt (Bo.lt HT5.out);have vm:=Nat.ne_of_gt (Bo.lt HT5.out);refine wp_region_held_drew (S:=fun w'=>Far (fun b=>b=w1.heap.size+1) (w3) w') (by kernel_rfl) (Far.of (below_drew _)) (fun hS0=>?_);refine takeL 0 (v:=?_) rfl (by kernel_rfl) (by kernel_rfl) (by kernel_rfl) (fun _ _ _ h=>h) (by rfl) ?_ (by assumption) ?_;rotate_left;· intro w hSw;replace y2:=Far.cellZ y2 hSw (by omega);go_simp;try rfl
  try simp only [Act.put,List.setIfInBounds_toArray,List.set_cons_zero,List.set_cons_succ]
  refine takeL 1 (v:=?_) rfl (by kernel_rfl) (by kernel_rfl) (by kernel_rfl) (fun _ _ _ h=>h) (by rfl) ?_ (by assumption) ?_;rotate_left;· intro w hSw;replace y2:=Far.cellZ y2 hSw (by omega);go_simp;try rfl
  try simp only [Act.put,List.setIfInBounds_toArray,List.set_cons_zero,List.set_cons_succ]
  refine takeL 2 (v:=?_) rfl (by kernel_rfl) (by kernel_rfl) (by kernel_rfl) (fun _ _ _ h=>h) (by rfl) ?_ (by assumption) ?_;rotate_left;· intro w hSw;replace y2:=Far.cellZ y2 hSw (by omega);go_simp;try rfl
  try simp only [Act.put,List.setIfInBounds_toArray,List.set_cons_zero,List.set_cons_succ]
  refine callL 3 rfl (by kernel_rfl) (by rfl) (fun K hK=>?_);go_simp;refine hK.out _ _ (Far.setCell hS0 rfl _) (fun hS1=>?_);clear hK K;refine takeL 4 (v:=?_) rfl (by kernel_rfl) (by kernel_rfl) (by kernel_rfl) (fun _ _ _ h=>h) (by rfl) ?_ (by assumption) ?_;rotate_left;· intro w hSw;replace y2:=Far.cellZ y2 hSw (by omega);go_simp;try rfl
  try simp only [Act.put,List.setIfInBounds_toArray,List.set_cons_zero,List.set_cons_succ]
  refine callL 5 rfl (by kernel_rfl) (by rfl) (fun K hK=>?_);go_simp;refine hK.out _ _ (Far.setCell hS1 rfl _) (fun hS2=>?_);clear hK K;refine takeL 6 (v:=?_) rfl (by kernel_rfl) (by kernel_rfl) (by kernel_rfl) (fun _ _ _ h=>h) (by rfl) ?_ (by assumption) ?_;rotate_left;· intro w hSw;replace y2:=Far.cellZ y2 hSw (by omega);go_simp;try rfl
  try simp only [Act.put,List.setIfInBounds_toArray,List.set_cons_zero,List.set_cons_succ]
  refine callL 7 rfl (by kernel_rfl) (by rfl) (fun K hK=>?_);go_simp;refine hK.out _ _ (Far.setCell hS2 rfl _) (fun hS3=>?_);clear hK K;refine wpAnyH_done (by kernel_rfl) ?_ _
  have hs9:((((w3.setCell ⟨w1.heap.size+1,0,none⟩ (.int .i64 3)).setCell ⟨w1.heap.size+1,1,none⟩ (.string ⟨#[]⟩)).setCell ⟨w1.heap.size+1,2,none⟩ (.int .i64 t.n)).drew).heap.size=w3.heap.size:=by simp [World.setCell,World.drew]
  have HP9:Hid (PS ts aL n cap q i d (((w3.setCell ⟨w1.heap.size+1,0,none⟩ (.int .i64 3)).setCell ⟨w1.heap.size+1,1,none⟩ (.string ⟨#[]⟩)).setCell ⟨w1.heap.size+1,2,none⟩ (.int .i64 t.n)).drew):=zz (by (repeat' (first | with_reducible exact HP3.out | with_reducible refine PS.alloc ?_ _ | with_reducible refine PS.drew ?_ | with_reducible refine PS.dn ?_ _ | with_reducible refine PS.setI (i:=i) ?_ (by omega) | with_reducible refine PS.off ?_ (by omega) _ _)));have HF9:Hid (FarB q w.heap.size w (((w3.setCell ⟨w1.heap.size+1,0,none⟩ (.int .i64 3)).setCell ⟨w1.heap.size+1,1,none⟩ (.string ⟨#[]⟩)).setCell ⟨w1.heap.size+1,2,none⟩ (.int .i64 t.n)).drew):=zz (by (repeat' (first | with_reducible exact HF3.out | with_reducible refine FarB.alloc ?_ _ | with_reducible refine FarB.drew ?_ | with_reducible refine FarB.dn ?_ _ | with_reducible refine FarB.setQ ?_ _ _ | with_reducible refine FarB.setN ?_ (by omega) _ _)));have HR9:Hid (Bo (((w3.setCell ⟨w1.heap.size+1,0,none⟩ (.int .i64 3)).setCell ⟨w1.heap.size+1,1,none⟩ (.string ⟨#[]⟩)).setCell ⟨w1.heap.size+1,2,none⟩ (.int .i64 t.n)).drew w.heap.size 60 _):=zz ((((HR3.out.far 0 (.int .i64 3) (g:=w1.heap.size+1) (by omega)).far 1 (.string ⟨#[]⟩) (g:=w1.heap.size+1) (by omega)).far 2 (.int .i64 t.n) (g:=w1.heap.size+1) (by omega)).drew);have HV9:Hid (Bo (((w3.setCell ⟨w1.heap.size+1,0,none⟩ (.int .i64 3)).setCell ⟨w1.heap.size+1,1,none⟩ (.string ⟨#[]⟩)).setCell ⟨w1.heap.size+1,2,none⟩ (.int .i64 t.n)).drew (w1.heap.size+1) 60 #[.int .i64 3,.string ⟨#[]⟩,.int .i64 t.n,.slice none 0 0,.int .i64 t.l,.int .i64 t.c]):=zz ((((HT5.out.set 0 (.int .i64 3)).set 1 (.string ⟨#[]⟩)).set 2 (.int .i64 t.n)).drew);clear v0 v1 v2 v3 v4 v5 vz vl vn vm y2 hS0 hS1 hS2 hS3 HT5 HT4 HP3 HF3 HR3;generalize (((w3.setCell ⟨w1.heap.size+1,0,none⟩ (.int .i64 3)).setCell ⟨w1.heap.size+1,1,none⟩ (.string ⟨#[]⟩)).setCell ⟨w1.heap.size+1,2,none⟩ (.int .i64 t.n)).drew=w9 at *;have c0:=HP9.out.c3.1;have c1:=HP9.out.c3.2.1;have c2:=HP9.out.c3.2.2;have fz:=HP9.out.fz;have hql:=HP9.out.lt;have hqn:=Nat.ne_of_lt HP9.out.lt;have hqm:=Nat.ne_of_gt HP9.out.lt;have r0:=HR9.out.cell (j:=0) rfl;have r1:=HR9.out.cell (j:=1) rfl;have r2:=HR9.out.cell (j:=2) rfl;have r3:=HR9.out.cell (j:=3) rfl;have r4:=HR9.out.cell (j:=4) rfl;have r5:=HR9.out.cell (j:=5) rfl;have rz:=Bo.frozen HR9.out;have rl:=Bo.lt HR9.out;have rn:=Nat.ne_of_lt (Bo.lt HR9.out);have rm:=Nat.ne_of_gt (Bo.lt HR9.out);have v0:=HV9.out.cell (j:=0) rfl;have v1:=HV9.out.cell (j:=1) rfl;have v2:=HV9.out.cell (j:=2) rfl;have v3:=HV9.out.cell (j:=3) rfl;have v4:=HV9.out.cell (j:=4) rfl;have v5:=HV9.out.cell (j:=5) rfl;have vz:=Bo.frozen HV9.out;have vl:=Bo.lt HV9.out;have vn:=Nat.ne_of_lt (Bo.lt HV9.out);have vm:=Nat.ne_of_gt (Bo.lt HV9.out)
  have hg1:w.heap.size≠w1.heap.size+1:=by omega
  have hg2:w1.heap.size+1≠w.heap.size:=by omega
  have hg3:q≠w1.heap.size+1:=by omega
  have hg4:w1.heap.size+1≠q:=by omega
  go_wp2
  clear HT HP HR9 HV9;refine bodyPost_ret (v:=.tuple #[.agg #[.int .i64 3,.string ⟨#[]⟩,.int .i64 t.n,.slice none 0 0,.int .i64 t.l,.int .i64 t.c],.bool true]) (by clear HP9 HF9;simp [results,Tryz.results130,go_sem,r0,r1,r2,r3,r4,r5,]) rfl ?_;refine ⟨rfl,FarB.out ?_,?_⟩
  · (repeat' (first | with_reducible exact HF9.out | with_reducible refine FarB.alloc ?_ _ | with_reducible refine FarB.drew ?_ | with_reducible refine FarB.dn ?_ _ | with_reducible refine FarB.setQ ?_ _ _ | with_reducible refine FarB.setN ?_ (by omega) _ _))
  · (repeat' (first | with_reducible exact HP9.out | with_reducible refine PS.alloc ?_ _ | with_reducible refine PS.drew ?_ | with_reducible refine PS.dn ?_ _ | with_reducible refine PS.setI (i:=i) ?_ (by omega) | with_reducible refine PS.off ?_ (by omega) _ _))
theorem plain_ok (w:World) (hp:PS ts aL n cap q i d w) {x:Ex} (h:plainE (nowT ts i)=some x):
    Calls Tryz.prog 130 #[.pointer (some ⟨q,0,none⟩)] w fun e w'=>e=.returned (.tuple #[exV x none 0 0,.bool true])∧FarQ q w w'∧PS ts aL n cap q (i+1) d w':=by
  unfold plainE at h
  split at h
  · cases h;exact plain_2 w hp (by assumption)
  · split at h
    · cases h;exact plain_3 w hp (by assumption)
    · split at h
      · cases h;exact plain_4 w hp (by assumption)
      · cases h
theorem plain_args {t:Tk} {x:Ex} (h:plainE t=some x):x.args=[]:=by
  unfold plainE at h
  split at h
  · cases h;rfl
  · split at h
    · cases h;rfl
    · split at h
      · cases h;rfl
      · cases h
theorem plain_bad (w:World) (hp:PS ts aL n cap q i d w) (h:plainE (nowT ts i)=none):
    Calls Tryz.prog 130 #[.pointer (some ⟨q,0,none⟩)] w fun e w'=>(∃ s l c,e=.returned (.tuple #[.agg #[.int .i64 0,.string s,.int .i64 0,.slice none 0 0,.int .i64 l,.int .i64 c],.bool false]))∧FarQ q w w'∧PS ts aL n cap q i d w':=by
  unfold plainE at h
  split at h
  · cases h
  · split at h
    · cases h
    · split at h
      · cases h
      · exact (plain_0 w hp (by assumption) (by assumption) (by assumption)).mono fun e w' hh=>⟨⟨_,_,_,hh.1⟩,hh.2⟩
end
end
end Go.Proofs.YtcoiagfeoonpbaaGreat
