/-
  The parser's small steps: what comes next. No condition but how the parser and the tokens lie.
-/
import Derived.Test.YtcoiagfeoonpbaaGreatMp3
import Derived.BigQuiet
import Derived.Test.YtcoiagfeoonpbaaGreatMp6
import Derived.Test.YtcoiagfeoonpbaaGreatMp0
import Derived.WalkLawsBesides
import Derived.Defers
set_option maxHeartbeats 20000000
set_option maxRecDepth 100000
namespace Go.Proofs.YtcoiagfeoonpbaaGreat
section
open Go.RowKit
def tkV (t:Tk):Value:=.agg #[.int .i64 t.k,.string t.s,.int .i64 t.n,.int .i64 t.l,.int .i64 t.c]
theorem now_in {ts:List Tk} {aL:Option Addr} {n cap i q:Nat} {Z:Int} (w:World) (J:Bo w q 162 #[.slice aL n cap,.int .i64 (i:Int),.int .i64 Z]) (h:MemW w (.s 5 (tkRows ts)) (.slice aL n cap)) (a0:i<n):
    Calls Tryz.prog 128 #[.pointer (some ⟨q,0,none⟩)] w fun e L=>e=.returned (tkV (nowT ts i))∧Below w.heap.size w L:=by
  have T:=h.len;rw [tkRows_len] at T;have H:=zz h;have C:w.cell? ⟨q,0,none⟩=some (.slice aL n cap):=J.cell (j:=0) rfl;have D:w.cell? ⟨q,1,none⟩=some (.int .i64 (i:Int)):=J.cell (j:=1) rfl;clear T h J
  · have a3:(i:Int)<(n:Int):=by omega
    obtain ⟨b,o,t,rfl,hb,Ht,U,V,W,X,Y⟩:=tk_at H.out i a0;have N:Hid (nowT ts i=t):=zz (now_at Ht.out);rw [N.out];clear Ht N;go_enter Tryz.func128,Tryz.ntmps128
    go_wp2
    have A:=zz (below_new w (.cells #[.int .i64 0,.string ⟨#[]⟩,.int .i64 0,.int .i64 0,.int .i64 0] 53));have O:=zz (Bo.new w 53 #[.int .i64 0,.string ⟨#[]⟩,.int .i64 0,.int .i64 0,.int .i64 0]);have a4:(w.alloc (.cells #[.int .i64 0,.string ⟨#[]⟩,.int .i64 0,.int .i64 0,.int .i64 0] 53)).heap.size=w.heap.size+1:=World.size_alloc _ _;have u:=C;have x:=D;have d:=U;have f:=V;have g:=W;have m:=X;have r:=Y;replace C:=cell_below C A.out;replace D:=cell_below D A.out;generalize w.alloc (.cells #[.int .i64 0,.string ⟨#[]⟩,.int .i64 0,.int .i64 0,.int .i64 0] 53)=B at *
    go_quiet (fail)
    go_wp2
    clear C D U V W X Y;have P:Hid (Below w.heap.size w (B.drewN nq).drew):=zz ((below_drewN A.out nq).trans ((below_drew _).mono (by show w.heap.size≤B.heap.size;omega)));have Q:Hid (Below w.heap.size w (B.drewN nq)):=zz (below_drewN A.out nq);have y:Hid (Bo (B.drewN nq) w.heap.size 53 #[.int .i64 0,.string ⟨#[]⟩,.int .i64 0,.int .i64 0,.int .i64 0]):=O;generalize B.drewN nq=M at *
    have fz:=fun k=>Bo.frozen y.out k
    have F:=y.out.cell (j:=0) rfl;have G:=y.out.cell (j:=1) rfl;have I:=y.out.cell (j:=2) rfl;have c3:=y.out.cell (j:=3) rfl;have c4:=y.out.cell (j:=4) rfl;refine wp_region_held_drew (S:=fun L=>Below w.heap.size w L) (by kernel_rfl) P.out (fun a1=>?_);refine takeL 0 (v:=?_) rfl (by kernel_rfl) (by kernel_rfl) (by kernel_rfl) (fun _ _ _ h=>h) (by rfl) ?_ (by assumption) ?_;rotate_left
    · (intro w a;(try dsimp only at a);replace u:=cell_below u a;replace x:=cell_below x a;replace d:=cell_below d a;replace f:=cell_below f a;replace g:=cell_below g a;replace m:=cell_below m a;replace r:=cell_below r a;go_simp;try rfl)
    try simp only [Act.put,List.setIfInBounds_toArray,List.set_cons_zero,List.set_cons_succ]
    refine takeL 1 (v:=?_) rfl (by kernel_rfl) (by kernel_rfl) (by kernel_rfl) (fun _ _ _ h=>h) (by rfl) ?_ (by assumption) ?_;rotate_left
    · (intro w a;(try dsimp only at a);replace u:=cell_below u a;replace x:=cell_below x a;replace d:=cell_below d a;replace f:=cell_below f a;replace g:=cell_below g a;replace m:=cell_below m a;replace r:=cell_below r a;go_simp;try rfl)
    try simp only [Act.put,List.setIfInBounds_toArray,List.set_cons_zero,List.set_cons_succ]
    refine takeL 2 (v:=?_) rfl (by kernel_rfl) (by kernel_rfl) (by kernel_rfl) (fun _ _ _ h=>h) (by rfl) ?_ (by assumption) ?_;rotate_left
    · (intro w a;(try dsimp only at a);replace u:=cell_below u a;replace x:=cell_below x a;replace d:=cell_below d a;replace f:=cell_below f a;replace g:=cell_below g a;replace m:=cell_below m a;replace r:=cell_below r a;go_simp;try rfl)
    try simp only [Act.put,List.setIfInBounds_toArray,List.set_cons_zero,List.set_cons_succ]
    refine takeL 3 (v:=?_) rfl (by kernel_rfl) (by kernel_rfl) (by kernel_rfl) (fun _ _ _ h=>h) (by rfl) ?_ (by assumption) ?_;rotate_left
    · (intro w a;(try dsimp only at a);replace u:=cell_below u a;replace x:=cell_below x a;replace d:=cell_below d a;replace f:=cell_below f a;replace g:=cell_below g a;replace m:=cell_below m a;replace r:=cell_below r a;go_simp;try rfl)
    try simp only [Act.put,List.setIfInBounds_toArray,List.set_cons_zero,List.set_cons_succ]
    refine takeL 4 (v:=?_) rfl (by kernel_rfl) (by kernel_rfl) (by kernel_rfl) (fun _ _ _ h=>h) (by rfl) ?_ (by assumption) ?_;rotate_left
    · (intro w a;(try dsimp only at a);replace u:=cell_below u a;replace x:=cell_below x a;replace d:=cell_below d a;replace f:=cell_below f a;replace g:=cell_below g a;replace m:=cell_below m a;replace r:=cell_below r a;go_simp;try rfl)
    try simp only [Act.put,List.setIfInBounds_toArray,List.set_cons_zero,List.set_cons_succ]
    refine takeL 5 (v:=?_) rfl (by kernel_rfl) (by kernel_rfl) (by kernel_rfl) (fun _ _ _ h=>h) (by rfl) ?_ (by assumption) ?_;rotate_left
    · (intro w a;(try dsimp only at a);replace u:=cell_below u a;replace x:=cell_below x a;replace d:=cell_below d a;replace f:=cell_below f a;replace g:=cell_below g a;replace m:=cell_below m a;replace r:=cell_below r a;go_simp;try rfl)
    try simp only [Act.put,List.setIfInBounds_toArray,List.set_cons_zero,List.set_cons_succ]
    refine takeL 6 (v:=?_) rfl (by kernel_rfl) (by kernel_rfl) (by kernel_rfl) (fun _ _ _ h=>h) (by rfl) ?_ (by assumption) ?_;rotate_left
    · (intro w a;(try dsimp only at a);replace u:=cell_below u a;replace x:=cell_below x a;replace d:=cell_below d a;replace f:=cell_below f a;replace g:=cell_below g a;replace m:=cell_below m a;replace r:=cell_below r a;go_simp;try rfl)
    try simp only [Act.put,List.setIfInBounds_toArray,List.set_cons_zero,List.set_cons_succ]
    refine takeL 7 (v:=?_) rfl (by kernel_rfl) (by kernel_rfl) (by kernel_rfl) (fun _ _ _ h=>h) (by rfl) ?_ (by assumption) ?_;rotate_left
    · (intro w a;(try dsimp only at a);replace u:=cell_below u a;replace x:=cell_below x a;replace d:=cell_below d a;replace f:=cell_below f a;replace g:=cell_below g a;replace m:=cell_below m a;replace r:=cell_below r a;go_simp;try rfl)
    try simp only [Act.put,List.setIfInBounds_toArray,List.set_cons_zero,List.set_cons_succ]
    refine takeL 8 (v:=?_) rfl (by kernel_rfl) (by kernel_rfl) (by kernel_rfl) (fun _ _ _ h=>h) (by rfl) ?_ (by assumption) ?_;rotate_left
    · (intro w a;(try dsimp only at a);replace u:=cell_below u a;replace x:=cell_below x a;replace d:=cell_below d a;replace f:=cell_below f a;replace g:=cell_below g a;replace m:=cell_below m a;replace r:=cell_below r a;go_simp;try rfl)
    try simp only [Act.put,List.setIfInBounds_toArray,List.set_cons_zero,List.set_cons_succ]
    refine takeL 9 (v:=?_) rfl (by kernel_rfl) (by kernel_rfl) (by kernel_rfl) (fun _ _ _ h=>h) (by rfl) ?_ (by assumption) ?_;rotate_left
    · (intro w a;(try dsimp only at a);replace u:=cell_below u a;replace x:=cell_below x a;replace d:=cell_below d a;replace f:=cell_below f a;replace g:=cell_below g a;replace m:=cell_below m a;replace r:=cell_below r a;go_simp;try rfl)
    try simp only [Act.put,List.setIfInBounds_toArray,List.set_cons_zero,List.set_cons_succ]
    refine callL 10 rfl (by kernel_rfl) (by rfl) (fun K R=>?_);go_simp;have F0:Far (fun k=>w.heap.size≤k) w M:=Far.of Q.out;have F1:=F0.setCell (p:=⟨w.heap.size,0,none⟩) (Nat.le_refl _) (.int .i64 t.k);have F2:=F1.setCell (p:=⟨w.heap.size,1,none⟩) (Nat.le_refl _) (.string t.s);have F3:=F2.setCell (p:=⟨w.heap.size,2,none⟩) (Nat.le_refl _) (.int .i64 t.n);have F4:=F3.setCell (p:=⟨w.heap.size,3,none⟩) (Nat.le_refl _) (.int .i64 t.l);have F5:=F4.setCell (p:=⟨w.heap.size,4,none⟩) (Nat.le_refl _) (.int .i64 t.c);have F6:=F5.toB (Nat.le_refl _);have E:=zz (F6.trans ((below_drew _).mono F6.size));clear F0 F1 F2 F3 F4 F5 F6;have z:Hid (Bo (((((M.setCell ⟨w.heap.size,0,none⟩ (.int .i64 t.k)).setCell ⟨w.heap.size,1,none⟩ (.string t.s)).setCell ⟨w.heap.size,2,none⟩ (.int .i64 t.n)).setCell ⟨w.heap.size,3,none⟩ (.int .i64 t.l)).setCell ⟨w.heap.size,4,none⟩ (.int .i64 t.c)).drew w.heap.size 53 #[.int .i64 t.k,.string t.s,.int .i64 t.n,.int .i64 t.l,.int .i64 t.c]):=zz (((((y.out.set 0 (.int .i64 t.k)).set 1 (.string t.s)).set 2 (.int .i64 t.n)).set 3 (.int .i64 t.l)).set 4 (.int .i64 t.c));generalize (((((M.setCell ⟨w.heap.size,0,none⟩ (.int .i64 t.k)).setCell ⟨w.heap.size,1,none⟩ (.string t.s)).setCell ⟨w.heap.size,2,none⟩ (.int .i64 t.n)).setCell ⟨w.heap.size,3,none⟩ (.int .i64 t.l)).setCell ⟨w.heap.size,4,none⟩ (.int .i64 t.c)).drew=w9 at *;refine R.out _ _ E.out (fun a2=>?_);clear R K F G I c3 c4 fz;refine wpAnyH_done (by kernel_rfl) ?_ _;have F:=z.out.cell (j:=0) rfl;have G:=z.out.cell (j:=1) rfl;have I:=z.out.cell (j:=2) rfl;have c3:=z.out.cell (j:=3) rfl;have c4:=z.out.cell (j:=4) rfl
    go_wp2
    refine bodyPost_ret (v:=tkV t) (by clear H A O P Q y z E u x d f g m r;simp [results,Tryz.results128,go_sem,F,G,I,c3,c4,tkV]) rfl ?_;exact ⟨rfl,E.out⟩
end
section
open Go.RowKit
theorem now_out {ts:List Tk} {aL:Option Addr} {n cap i q:Nat} {J:Int} (w:World) (C:Bo w q 162 #[.slice aL n cap,.int .i64 (i:Int),.int .i64 J]) (h:MemW w (.s 5 (tkRows ts)) (.slice aL n cap)) (V: ¬i<n):
    Calls Tryz.prog 128 #[.pointer (some ⟨q,0,none⟩)] w fun e N=>e=.returned (tkV (nowT ts i))∧Below w.heap.size w N:=by
  have B:=h.len;rw [tkRows_len] at B;have z:=zz B.1;have T:=B.2.1;have Z:=B.2.2;have H:=zz h;have I:=zz C;have a0:=Bo.lt C;have D:w.cell? ⟨q,0,none⟩=some (.slice aL n cap):=C.cell (j:=0) rfl;have E:w.cell? ⟨q,1,none⟩=some (.int .i64 (i:Int)):=C.cell (j:=1) rfl;clear B h C
  have U: ¬((i:Int)<(n:Int)):=by omega
  by_cases K:n=0
  · subst K
    have M:ts=[]:=List.eq_nil_of_length_eq_zero z.out;subst M;have A:Hid (nowT [] i=noTk 0 0):=zz now_none;rw [A.out];clear A;go_enter Tryz.func128,Tryz.ntmps128
    go_wp2
    have f:=zz (below_new w (.cells #[.int .i64 0,.string ⟨#[]⟩,.int .i64 0,.int .i64 0,.int .i64 0] 53));have a:=zz (Bo.new w 53 #[.int .i64 0,.string ⟨#[]⟩,.int .i64 0,.int .i64 0,.int .i64 0]);have L:(w.alloc (.cells #[.int .i64 0,.string ⟨#[]⟩,.int .i64 0,.int .i64 0,.int .i64 0] 53)).heap.size=w.heap.size+1:=World.size_alloc _ _;replace D:=cell_below D f.out;replace E:=cell_below E f.out;generalize w.alloc (.cells #[.int .i64 0,.string ⟨#[]⟩,.int .i64 0,.int .i64 0,.int .i64 0] 53)=x at *
    have fz:=fun k=>Bo.frozen a.out k
    have g:=a.out.cell (j:=0) rfl;have r:=a.out.cell (j:=1) rfl;have u:=a.out.cell (j:=2) rfl;have c3:=a.out.cell (j:=3) rfl;have c4:=a.out.cell (j:=4) rfl
    go_quiet (fail)
    go_wp2
    have F0:Far (fun k=>w.heap.size≤k) w (x.drewN nq):=Far.of (below_drewN f.out nq);have F1:=F0.setCell (p:=⟨w.heap.size,0,none⟩) (Nat.le_refl _) (.int .i64 (-1));have F2:=F1.setCell (p:=⟨w.heap.size,1,none⟩) (Nat.le_refl _) (.string ⟨#[]⟩);have F3:=F2.setCell (p:=⟨w.heap.size,2,none⟩) (Nat.le_refl _) (.int .i64 0);have F4:=F3.setCell (p:=⟨w.heap.size,3,none⟩) (Nat.le_refl _) (.int .i64 0);have F5:=F4.setCell (p:=⟨w.heap.size,4,none⟩) (Nat.le_refl _) (.int .i64 0);have y:=zz ((F5.trans (Far.of (below_new _ (.cells #[.int .i64 (-1),.string ⟨#[]⟩,.int .i64 0,.int .i64 0,.int .i64 0] 53)))).toB (Nat.le_refl _));clear F0 F1 F2 F3 F4 F5;have d:Hid (Bo (((((((x.drewN nq).setCell ⟨w.heap.size,0,none⟩ (.int .i64 (-1))).setCell ⟨w.heap.size,1,none⟩ (.string ⟨#[]⟩)).setCell ⟨w.heap.size,2,none⟩ (.int .i64 0)).setCell ⟨w.heap.size,3,none⟩ (.int .i64 0)).setCell ⟨w.heap.size,4,none⟩ (.int .i64 0)).alloc (.cells #[.int .i64 (-1),.string ⟨#[]⟩,.int .i64 0,.int .i64 0,.int .i64 0] 53)) w.heap.size 53 #[.int .i64 (-1),.string ⟨#[]⟩,.int .i64 0,.int .i64 0,.int .i64 0]):=zz ((((((a.out.set 0 (.int .i64 (-1))).set 1 (.string ⟨#[]⟩)).set 2 (.int .i64 0)).set 3 (.int .i64 0)).set 4 (.int .i64 0)).alloc _);generalize (((((((x.drewN nq).setCell ⟨w.heap.size,0,none⟩ (.int .i64 (-1))).setCell ⟨w.heap.size,1,none⟩ (.string ⟨#[]⟩)).setCell ⟨w.heap.size,2,none⟩ (.int .i64 0)).setCell ⟨w.heap.size,3,none⟩ (.int .i64 0)).setCell ⟨w.heap.size,4,none⟩ (.int .i64 0)).alloc (.cells #[.int .i64 (-1),.string ⟨#[]⟩,.int .i64 0,.int .i64 0,.int .i64 0] 53))=O at *;clear g r u c3 c4 fz;have g:=d.out.cell (j:=0) rfl;have r:=d.out.cell (j:=1) rfl;have u:=d.out.cell (j:=2) rfl;have c3:=d.out.cell (j:=3) rfl;have c4:=d.out.cell (j:=4) rfl;refine bodyPost_ret (v:=tkV (noTk 0 0)) (by clear I H z f a d y;simp [results,Tryz.results128,go_sem,g,r,u,c3,c4,tkV,noTk];try rfl) rfl ?_;exact ⟨rfl,y.out⟩
  · obtain ⟨m,rfl⟩:∃ m,n=m+1:=⟨n - 1,by omega⟩
    obtain ⟨b,o,t,rfl,S,Ht,P,Q,R,F,G⟩:=tk_at H.out m (by omega)
    have A:Hid (nowT ts i=noTk t.l t.c):=zz (now_past (by have :=z.out;omega) (by rw [List.getLast?_eq_getElem?,z.out];exact Ht.out))
    rw [A.out];clear Ht A P Q R
    have W:(m:Int)+1 - 1=(m:Int):=by omega
    have X: ¬(((m:Nat):Int)+1≤0):=by omega
    have Y:m<m+1:=by omega
    go_enter Tryz.func128,Tryz.ntmps128
    go_wp2
    have f:=zz (below_new w (.cells #[.int .i64 0,.string ⟨#[]⟩,.int .i64 0,.int .i64 0,.int .i64 0] 53));have a:=zz (Bo.new w 53 #[.int .i64 0,.string ⟨#[]⟩,.int .i64 0,.int .i64 0,.int .i64 0]);have L:(w.alloc (.cells #[.int .i64 0,.string ⟨#[]⟩,.int .i64 0,.int .i64 0,.int .i64 0] 53)).heap.size=w.heap.size+1:=World.size_alloc _ _;replace D:=cell_below D f.out;replace E:=cell_below E f.out;replace F:=cell_below F f.out;replace G:=cell_below G f.out;generalize w.alloc (.cells #[.int .i64 0,.string ⟨#[]⟩,.int .i64 0,.int .i64 0,.int .i64 0] 53)=x at *
    have fz:=fun k=>Bo.frozen a.out k
    have g:=a.out.cell (j:=0) rfl;have r:=a.out.cell (j:=1) rfl;have u:=a.out.cell (j:=2) rfl;have c3:=a.out.cell (j:=3) rfl;have c4:=a.out.cell (j:=4) rfl
    go_quiet (fail)
    go_wp2
    have F0:Far (fun k=>w.heap.size≤k) w (x.drewN nq):=Far.of (below_drewN f.out nq);have F1:=F0.setCell (p:=⟨w.heap.size,0,none⟩) (Nat.le_refl _) (.int .i64 (-1));have F2:=F1.setCell (p:=⟨w.heap.size,1,none⟩) (Nat.le_refl _) (.string ⟨#[]⟩);have F3:=F2.setCell (p:=⟨w.heap.size,2,none⟩) (Nat.le_refl _) (.int .i64 0);have F4:=F3.setCell (p:=⟨w.heap.size,3,none⟩) (Nat.le_refl _) (.int .i64 t.l);have F5:=F4.setCell (p:=⟨w.heap.size,4,none⟩) (Nat.le_refl _) (.int .i64 t.c);have y:=zz ((F5.trans (Far.of (below_new _ (.cells #[.int .i64 (-1),.string ⟨#[]⟩,.int .i64 0,.int .i64 t.l,.int .i64 t.c] 53)))).toB (Nat.le_refl _));clear F0 F1 F2 F3 F4 F5;have d:Hid (Bo (((((((x.drewN nq).setCell ⟨w.heap.size,0,none⟩ (.int .i64 (-1))).setCell ⟨w.heap.size,1,none⟩ (.string ⟨#[]⟩)).setCell ⟨w.heap.size,2,none⟩ (.int .i64 0)).setCell ⟨w.heap.size,3,none⟩ (.int .i64 t.l)).setCell ⟨w.heap.size,4,none⟩ (.int .i64 t.c)).alloc (.cells #[.int .i64 (-1),.string ⟨#[]⟩,.int .i64 0,.int .i64 t.l,.int .i64 t.c] 53)) w.heap.size 53 #[.int .i64 (-1),.string ⟨#[]⟩,.int .i64 0,.int .i64 t.l,.int .i64 t.c]):=zz ((((((a.out.set 0 (.int .i64 (-1))).set 1 (.string ⟨#[]⟩)).set 2 (.int .i64 0)).set 3 (.int .i64 t.l)).set 4 (.int .i64 t.c)).alloc _);generalize (((((((x.drewN nq).setCell ⟨w.heap.size,0,none⟩ (.int .i64 (-1))).setCell ⟨w.heap.size,1,none⟩ (.string ⟨#[]⟩)).setCell ⟨w.heap.size,2,none⟩ (.int .i64 0)).setCell ⟨w.heap.size,3,none⟩ (.int .i64 t.l)).setCell ⟨w.heap.size,4,none⟩ (.int .i64 t.c)).alloc (.cells #[.int .i64 (-1),.string ⟨#[]⟩,.int .i64 0,.int .i64 t.l,.int .i64 t.c] 53))=O at *;clear g r u c3 c4 fz;have g:=d.out.cell (j:=0) rfl;have r:=d.out.cell (j:=1) rfl;have u:=d.out.cell (j:=2) rfl;have c3:=d.out.cell (j:=3) rfl;have c4:=d.out.cell (j:=4) rfl;refine bodyPost_ret (v:=tkV (noTk t.l t.c)) (by clear I H z f a d y F G;simp [results,Tryz.results128,go_sem,g,r,u,c3,c4,tkV,noTk];try rfl) rfl ?_;exact ⟨rfl,y.out⟩
theorem now_any {ts:List Tk} {aL:Option Addr} {n cap i q:Nat} {d:Int} (w:World) (b:Bo w q 162 #[.slice aL n cap,.int .i64 (i:Int),.int .i64 d]) (h:MemW w (.s 5 (tkRows ts)) (.slice aL n cap)):
    Calls Tryz.prog 128 #[.pointer (some ⟨q,0,none⟩)] w fun e f=>e=.returned (tkV (nowT ts i))∧Below w.heap.size w f:=by
  by_cases a:i<n
  · exact now_in w b h a
  · exact now_out w b h a
theorem tk_pos (k n l c:Int) (s:ByteArray) (w:World):Sem.run Tryz.prog (Instr.field 53 (.agg #[.int .i64 k,.string s,.int .i64 n,.int .i64 l,.int .i64 c]) 3) w=.ok (.agg #[.int .i64 l,.int .i64 c]) w:=by kernel_rfl
attribute [local go_sem] tk_pos
def faultV (l c:Int):List PanicEntry:=[{ v:=.iface 164 (.agg #[.int .i64 l,.int .i64 c]),recovered:=false }]
theorem fail_any {ts:List Tk} {aL:Option Addr} {n cap i q:Nat} {g:Int} (w:World) (b:Bo w q 162 #[.slice aL n cap,.int .i64 (i:Int),.int .i64 g]) (h:MemW w (.s 5 (tkRows ts)) (.slice aL n cap)):
    Calls Tryz.prog 131 #[.pointer (some ⟨q,0,none⟩)] w fun e j=>e=.panicked (faultV (nowT ts i).l (nowT ts i).c)∧Below w.heap.size w j:=by
  have H:=zz h;have f:=zz b;clear h b;go_enter Tryz.func131,Tryz.ntmps131
  go_wp2_with (first | (go_at_call 128;refine (now_any w f.out H.out).mono ?_;(rintro e m ⟨rfl,a⟩;have d:=zz a;clear a;simp only [tkV])))
  exact ⟨rfl,rfl,d.out⟩
end
section
open Go.RowKit
structure PS (ts:List Tk) (aL:Option Addr) (n cap q:Nat) (i:Nat) (d:Int) (w:World):Prop where
  bo:Bo w q 162 #[.slice aL n cap,.int .i64 (i:Int),.int .i64 d]
  tk:Mem (· <q) w (.s 5 (tkRows ts)) (.slice aL n cap)
  sm:n≤1048576
def FarQ (q:Nat) (w w':World):Prop:=Far (fun b=>b=q) w w'
section
variable {ts:List Tk} {aL:Option Addr} {n cap q i:Nat} {d:Int} {w w':World}
theorem PS.lt (h:PS ts aL n cap q i d w):q<w.heap.size:=h.bo.lt
theorem PS.mem (h:PS ts aL n cap q i d w):MemW w (.s 5 (tkRows ts)) (.slice aL n cap):=h.tk.le (Nat.le_of_lt h.lt)
theorem PS.len (h:PS ts aL n cap q i d w):ts.length=n∧n≤9223372036854775807:=by
  have :=h.tk.len;rw [tkRows_len] at this;exact ⟨this.1,by omega⟩
theorem PS.keep (h:PS ts aL n cap q i d w) (a:Below w.heap.size w w'):PS ts aL n cap q i d w':=
  ⟨h.bo.keep a,h.tk.mono (fun _ a=>a) fun b e=>a.block b (Nat.lt_trans e h.lt),h.sm⟩
theorem PS.alloc (h:PS ts aL n cap q i d w) (o:Obj):PS ts aL n cap q i d (w.alloc o):=h.keep (below_new w o)
theorem PS.drew (h:PS ts aL n cap q i d w):PS ts aL n cap q i d w.drew:=h.keep (below_drew w)
theorem PS.dn (h:PS ts aL n cap q i d w) (k:Nat):PS ts aL n cap q i d (w.drewN k):=h.keep (below_drewN (Below.refl _ _) k)
theorem PS.setI (h:PS ts aL n cap q i d w) {j:Nat} {v:Int} (f:v=(j:Int)):PS ts aL n cap q j d (w.setCell ⟨q,1,none⟩ (.int .i64 v)):=
  ⟨f ▸ h.bo.set 1 (.int .i64 v),h.tk.mono (fun _ a=>a) fun b e=>heap_setCell_other w ⟨q,1,none⟩ b _ (Nat.ne_of_lt e),h.sm⟩
theorem PS.setD (h:PS ts aL n cap q i d w) (e:Int):PS ts aL n cap q i e (w.setCell ⟨q,2,none⟩ (.int .i64 e)):=
  ⟨h.bo.set 2 (.int .i64 e),h.tk.mono (fun _ a=>a) fun b f=>heap_setCell_other w ⟨q,2,none⟩ b _ (Nat.ne_of_lt f),h.sm⟩
theorem PS.c3 (h:PS ts aL n cap q i d w):w.cell? ⟨q,0,none⟩=some (.slice aL n cap)∧w.cell? ⟨q,1,none⟩=some (.int .i64 (i:Int))∧w.cell? ⟨q,2,none⟩=some (.int .i64 d):=⟨h.bo.cell (j:=0) rfl,h.bo.cell (j:=1) rfl,h.bo.cell (j:=2) rfl⟩
theorem PS.fz (h:PS ts aL n cap q i d w) (k:Nat):w.frozen? ⟨q,k,none⟩=false:=h.bo.frozen k
theorem FarQ.refl (q:Nat) (w:World):FarQ q w w:=Far.refl _ _
theorem FarQ.trans {a b c:World} (h:FarQ q a b) (k:FarQ q b c):FarQ q a c:=Far.trans h k
theorem FarQ.of (h:Below w.heap.size w w'):FarQ q w w':=Far.of h
theorem FarQ.set (w:World) (j:Nat) (v:Value):FarQ q w (w.setCell ⟨q,j,none⟩ v):=(Far.refl (fun b=>b=q) w).setCell (p:=⟨q,j,none⟩) rfl v
theorem Far.cellZ {Z:Nat→Prop} {b o:Nat} {v:Value} (a:w.cell? ⟨b,o,none⟩=some v) (h:Far Z w w') (e: ¬Z b):w'.cell? ⟨b,o,none⟩=some v:=
  (Far.cell h (World.block_lt_of_cell? w _ a) e).trans a
theorem FarQ.cell {b o:Nat} {v:Value} (a:w.cell? ⟨b,o,none⟩=some v) (h:FarQ q w w') (e:b≠q):w'.cell? ⟨b,o,none⟩=some v:=by
  have f:b<w.heap.size:=World.block_lt_of_cell? w _ a;exact (Far.cell h f e).trans a
theorem FarQ.mem {base:Nat} {x:At} {y:Value} (f:Mem (Nw 0 base w.heap.size) w x y) (h:FarQ q w w') (j:q<base):Mem (Nw 0 base w'.heap.size) w' x y:=
  f.mono (fun b a=>⟨a.1,Nat.lt_of_lt_of_le a.2 h.size⟩) fun b a=>h.block b a.2 (fun e=>by have g:=a.1;have :b=q:=e;omega)
def FarB (q B:Nat) (w w':World):Prop:=Far (fun b=>b=q∨B≤b) w w'
theorem FarB.refl (q B:Nat) (w:World):FarB q B w w:=Far.refl _ _
theorem FarB.below {B:Nat} {a:World} (h:FarB q B a w) (b:Below w.heap.size w w'):FarB q B a w':=Far.trans h (Far.of b)
theorem FarB.alloc {B:Nat} {a:World} (h:FarB q B a w) (o:Obj):FarB q B a (w.alloc o):=h.below (below_new w o)
theorem FarB.drew {B:Nat} {a:World} (h:FarB q B a w):FarB q B a w.drew:=h.below (below_drew w)
theorem FarB.dn {B:Nat} {a:World} (h:FarB q B a w) (k:Nat):FarB q B a (w.drewN k):=h.below (below_drewN (Below.refl _ _) k)
theorem FarB.setQ {B:Nat} {a:World} (h:FarB q B a w) (j:Nat) (v:Value):FarB q B a (w.setCell ⟨q,j,none⟩ v):=Far.setCell (p:=⟨q,j,none⟩) h (.inl rfl) v
theorem FarB.setN {B:Nat} {a:World} (h:FarB q B a w) {g:Nat} (b:B≤g) (j:Nat) (v:Value):FarB q B a (w.setCell ⟨g,j,none⟩ v):=Far.setCell (p:=⟨g,j,none⟩) h (.inr b) v
theorem FarB.farq {B:Nat} {a:World} (h:FarB q B a w) (k:FarQ q w w'):FarB q B a w':=Far.trans h (Far.mono k fun _ e=>.inl e)
theorem FarB.out {a:World} (h:FarB q a.heap.size a w):FarQ q a w:=⟨h.os,h.tape,h.output,h.size,fun k b f=>h.block k b (fun e=>by rcases e with e | e;exact f e;omega)⟩
theorem PS.off (h:PS ts aL n cap q i d w) {g:Nat} (a:q<g) (j:Nat) (v:Value):PS ts aL n cap q i d (w.setCell ⟨g,j,none⟩ v):=
  ⟨h.bo.far j v (Nat.ne_of_lt a),h.tk.mono (fun _ e=>e) fun b f=>heap_setCell_other w ⟨g,j,none⟩ b v (Nat.ne_of_lt (Nat.lt_trans f a)),h.sm⟩
theorem PS.farq {B:Nat} {_a:World} (h:PS ts aL n cap q i d w) (k:FarB q B w w') (m:q<B) {j:Nat} {e:Int} (f:Bo w' q 162 #[.slice aL n cap,.int .i64 (j:Int),.int .i64 e]):PS ts aL n cap q j e w':=
  ⟨f,h.tk.mono (fun _ f=>f) fun b g=>k.block b (Nat.lt_trans g h.lt) (fun e=>by rcases e with e | e <;> omega),h.sm⟩
theorem FarQ.bo {b:Nat} {t:TypeId} {a:Array Value} (e:Bo w b t a) (h:FarQ q w w') (f:b≠q):Bo w' b t a:=(h.block b e.lt f).trans e
end
section
variable {ts:List Tk} {aL:Option Addr} {n cap q i:Nat} {d:Int}
theorem ba_eq (a b:ByteArray):(a==b)=decide (a=b):=by
  by_cases h:a=b
  · rw [decide_eq_true h];exact beq_iff_eq.2 h
  · rw [decide_eq_false h];exact beq_eq_false_iff_ne.2 h
theorem is_any (k:Int) (s:ByteArray) (w:World) (j:PS ts aL n cap q i d w):
    Calls Tryz.prog 129 #[.pointer (some ⟨q,0,none⟩),.int .i64 k,.string s] w fun e w'=>e=.returned (.bool (isT ts i k s))∧Below w.heap.size w w':=by
  have f:=zz j;clear j;go_enter Tryz.func129,Tryz.ntmps129
  go_wp2_with (first | (go_at_call 128;refine (now_any w f.out.bo f.out.mem).mono ?_;(rintro e m ⟨rfl,g⟩;have a:=zz g;clear g;simp only [tkV])))
  all_goals
    refine bodyPost_ret (results_tmp rfl _ _ _) rfl ?_
    rename_i h
    refine ⟨congrArg (fun b=>Ending.returned (.bool b)) ?_,a.out.trans ((below_new m _).mono a.out.size)⟩;unfold isT
    first
      | rw [decide_eq_true h,Bool.true_and, ←ba_eq, ←toList_beq]
      | rw [decide_eq_false h,Bool.false_and]
theorem take_ok (k:Int) (s:ByteArray) (w:World) (b:PS ts aL n cap q i d w) (j:isT ts i k s=true) (m:k≠ -1):
    Calls Tryz.prog 134 #[.pointer (some ⟨q,0,none⟩),.int .i64 k,.string s] w fun e w'=>e=.returned (.tuple #[])∧FarQ q w w'∧PS ts aL n cap q (i+1) d w':=by
  have g:=zz b;have t:=isT_lt j m;have u:=b.len
  have v:(i:Int)+1≤9223372036854775807:=by omega
  clear b;go_enter Tryz.func134,Tryz.ntmps134
  go_wp2_with (first | (go_at_call 129;refine (is_any k s w g.out).mono ?_;(rintro e A ⟨rfl,h⟩;have f:=zz h;clear h;rw [j];have a:=zz (g.out.keep f.out);have o:=a.out.c3.1;have p:=a.out.c3.2.1;have r:=a.out.c3.2.2;have fz:=a.out.fz;have x:=a.out.lt;have z:=Nat.ne_of_lt a.out.lt;have y:=Nat.ne_of_gt a.out.lt)))
  go_end0
  exact ⟨rfl,(FarQ.of f.out).trans (FarQ.set _ _ _),a.out.setI (by omega)⟩
theorem take_bad (k:Int) (s:ByteArray) (w:World) (j:PS ts aL n cap q i d w) (o:isT ts i k s=false):
    Calls Tryz.prog 134 #[.pointer (some ⟨q,0,none⟩),.int .i64 k,.string s] w fun e w'=>e=.panicked (faultV (nowT ts i).l (nowT ts i).c)∧Below w.heap.size w w':=by
  have b:=zz j;clear j;go_enter Tryz.func134,Tryz.ntmps134
  go_wp2_with (first | (go_at_call 129;refine (is_any k s w b.out).mono ?_;(rintro e p ⟨rfl,g⟩;have a:=zz g;clear g;rw [o];have f:=zz (b.out.keep a.out))))
  go_wp2_with (first | (go_at_call 131;refine (fail_any _ f.out.bo f.out.mem).mono ?_;(rintro e r ⟨rfl,h⟩;have m:=zz h;clear h)))
  exact ⟨rfl,rfl,a.out.trans (m.out.mono a.out.size)⟩
theorem down_ok (w:World) (b:PS ts aL n cap q i d w) (f:d≠40) (m:0≤d) (o:d≤40) (r:i<ts.length):
    Calls Tryz.prog 132 #[.pointer (some ⟨q,0,none⟩)] w fun e w'=>e=.returned (.tuple #[])∧FarQ q w w'∧PS ts aL n cap q (i+1) (d+1) w':=by
  have a:=zz b;have s:=b.len
  have t:(i:Int)+1≤9223372036854775807:=by omega
  have p:(d==40)=false:=by simp [f]
  clear b;have g:=a.out.c3.1;have h:=a.out.c3.2.1;have j:=a.out.c3.2.2;have fz:=a.out.fz;have u:=a.out.lt;have x:=Nat.ne_of_lt a.out.lt;have v:=Nat.ne_of_gt a.out.lt;go_enter Tryz.func132,Tryz.ntmps132
  go_wp2
  go_end0
  exact ⟨rfl,(FarQ.set _ _ _).trans (FarQ.set _ _ _),(a.out.setD (d+1)).setI (by omega)⟩
theorem down_bad (w:World) (f:PS ts aL n cap q i 40 w):
    Calls Tryz.prog 132 #[.pointer (some ⟨q,0,none⟩)] w fun e w'=>e=.panicked (faultV (nowT ts i).l (nowT ts i).c)∧Below w.heap.size w w':=by
  have a:=zz f;clear f;have h:=a.out.c3.1;have j:=a.out.c3.2.1;have m:=a.out.c3.2.2;have fz:=a.out.fz;have o:=a.out.lt;have r:=Nat.ne_of_lt a.out.lt;have p:=Nat.ne_of_gt a.out.lt;go_enter Tryz.func132,Tryz.ntmps132
  go_wp2_with (first | (go_at_call 131;refine (fail_any _ a.out.bo a.out.mem).mono ?_;(rintro e s ⟨rfl,b⟩;have g:=zz b;clear b)))
  exact ⟨rfl,rfl,g.out⟩
theorem up_any (u:FrameMode) (w:World) {i d:Int} (a:Bo w q 162 #[.slice aL n cap,.int .i64 i,.int .i64 d]):
    CallsD Tryz.prog 133 #[.pointer (some ⟨q,0,none⟩)] u w fun e b w'=>b=u∧(e=.returned (.tuple #[])∧w'=w.setCell ⟨q,2,none⟩ (.int .i64 (wrap64 (d - 1)))):=by
  have f:w.cell? ⟨q,2,none⟩=some (.int .i64 d):=a.cell (j:=2) rfl;have fz:=a.frozen
  go_enter_d Tryz.func133,Tryz.ntmps133
  go_wp2
  refine bodyPost_end (results_none rfl _ _ _) rfl ?_;exact ⟨rfl,rfl⟩
theorem name_ok (w:World) (g:PS ts aL n cap q i d w) (m:(nowT ts i).k=2):
    Calls Tryz.prog 146 #[.pointer (some ⟨q,0,none⟩)] w fun e w'=>e=.returned (.string (nowT ts i).s)∧FarQ q w w'∧PS ts aL n cap q (i+1) d w':=by
  have f:=zz g;have o:i<ts.length:=now_lt (by rw [m];decide)
  have v:(i:Int)+1≤9223372036854775807:=by have :=g.len;omega
  clear g o;obtain ⟨t,b⟩:∃ t,nowT ts i=t:=⟨_,rfl⟩;rw [b] at m ⊢;replace b:=zz b;go_enter Tryz.func146,Tryz.ntmps146
  go_wp2_with (first | (go_at_call 128;refine (now_any w f.out.bo f.out.mem).mono ?_;(rintro e A ⟨rfl,j⟩;have h:=zz j;clear j;rw [b.out];simp only [tkV];have a:=zz (f.out.keep h.out);have p:=a.out.c3.1;have r:=a.out.c3.2.1;have u:=a.out.c3.2.2;have fz:=a.out.fz;have x:=a.out.lt;have z:=Nat.ne_of_lt a.out.lt;have y:=Nat.ne_of_gt a.out.lt)))
  refine bodyPost_ret (results_tmp rfl _ _ _) rfl ?_;exact ⟨rfl,((FarQ.of h.out).trans (FarQ.set _ _ _)).trans (FarQ.of (below_new _ _)),(a.out.setI (by omega)).alloc _⟩
theorem name_bad (w:World) (m:PS ts aL n cap q i d w) (p: ¬(nowT ts i).k=2):
    Calls Tryz.prog 146 #[.pointer (some ⟨q,0,none⟩)] w fun e w'=>e=.panicked (faultV (nowT ts i).l (nowT ts i).c)∧Below w.heap.size w w':=by
  have b:=zz m;clear m;obtain ⟨t,a⟩:∃ t,nowT ts i=t:=⟨_,rfl⟩;rw [a] at p ⊢;replace a:=zz a;go_enter Tryz.func146,Tryz.ntmps146
  go_wp2_with (first | (go_at_call 128;refine (now_any w b.out.bo b.out.mem).mono ?_;(rintro e r ⟨rfl,h⟩;have f:=zz h;clear h;rw [a.out];simp only [tkV];have g:=zz (b.out.keep f.out))) | (go_at_call 131;refine (fail_any _ (g.out.alloc _).bo (g.out.alloc _).mem).mono ?_;(rintro e s ⟨rfl,j⟩;have o:=zz j;clear j)))
  refine ⟨rfl,by rw [a.out],?_⟩;exact Below.toA f.out o.out
end
end
section
open Go.RowKit
section
variable {ts:List Tk} {aL:Option Addr} {n cap q i:Nat} {d:Int}
theorem plain_2 (w:World) (m:PS ts aL n cap q i d w) (u:(nowT ts i).k=2):
    Calls Tryz.prog 130 #[.pointer (some ⟨q,0,none⟩)] w fun e x=>e=.returned (.tuple #[.agg #[.int .i64 1,.string (nowT ts i).s,.int .i64 0,.slice none 0 0,.int .i64 (nowT ts i).l,.int .i64 (nowT ts i).c],.bool true])∧FarQ q w x∧PS ts aL n cap q (i+1) d x:=by
  have f:=zz m;have y:i<ts.length:=now_lt (by rw [u];decide)
  have K:(i:Int)+1≤9223372036854775807:=by have :=m.len;omega
  clear y;clear m;obtain ⟨t,g⟩:∃ t,nowT ts i=t:=⟨_,rfl⟩;rw [g] at u ⊢;replace g:=zz g;have L:=f.out.lt;have M:=Nat.ne_of_lt f.out.lt;have N:=Nat.ne_of_gt f.out.lt;go_enter Tryz.func130,Tryz.ntmps130
  go_wp2_with (first | (go_at_call 128;refine (now_any _ (f.out.alloc _).bo (f.out.alloc _).mem).mono ?_;(rintro e U ⟨rfl,h⟩;rw [g.out];simp only [tkV];have b:=zz ((f.out.alloc _).keep h);have a:=zz ((Bo.new w 60 _).keep h);have o:=zz (((FarB.refl q w.heap.size w).alloc _).below h);have z:=h.size;rw [World.size_alloc] at z;clear h;have H:=b.out.c3.1;have I:=b.out.c3.2.1;have J:=b.out.c3.2.2;have fz:=b.out.fz;have O:=b.out.lt;have Q:=Nat.ne_of_lt b.out.lt;have P:=Nat.ne_of_gt b.out.lt;have A:=a.out.cell (j:=0) rfl;have B:=a.out.cell (j:=1) rfl;have C:=a.out.cell (j:=2) rfl;have D:=a.out.cell (j:=3) rfl;have E:=a.out.cell (j:=4) rfl;have F:=a.out.cell (j:=5) rfl;have T:=Bo.frozen a.out;have G:=Bo.lt a.out;have S:=Nat.ne_of_lt (Bo.lt a.out);have R:=Nat.ne_of_gt (Bo.lt a.out))))
  have r:=b;have p:=o;clear g b a f o;refine bodyPost_ret (v:=.tuple #[.agg #[.int .i64 1,.string t.s,.int .i64 0,.slice none 0 0,.int .i64 t.l,.int .i64 t.c],.bool true]) (by clear r p;simp [results,Tryz.results130,go_sem,A,B,C,D,E,F,G]) rfl ?_;refine ⟨rfl,FarB.out ?_,?_⟩
  · (repeat' (first | with_reducible exact p.out | with_reducible refine FarB.alloc ?_ _ | with_reducible refine FarB.drew ?_ | with_reducible refine FarB.dn ?_ _ | with_reducible refine FarB.setQ ?_ _ _ | with_reducible refine FarB.setN ?_ (by omega) _ _))
  · (repeat' (first | with_reducible exact r.out | with_reducible refine PS.alloc ?_ _ | with_reducible refine PS.drew ?_ | with_reducible refine PS.dn ?_ _ | with_reducible refine PS.setI (i:=i) ?_ (by omega) | with_reducible refine PS.off ?_ (by omega) _ _))
theorem plain_3 (w:World) (m:PS ts aL n cap q i d w) (u:(nowT ts i).k=3):
    Calls Tryz.prog 130 #[.pointer (some ⟨q,0,none⟩)] w fun e x=>e=.returned (.tuple #[.agg #[.int .i64 2,.string (nowT ts i).s,.int .i64 0,.slice none 0 0,.int .i64 (nowT ts i).l,.int .i64 (nowT ts i).c],.bool true])∧FarQ q w x∧PS ts aL n cap q (i+1) d x:=by
  have f:=zz m;have y:i<ts.length:=now_lt (by rw [u];decide)
  have K:(i:Int)+1≤9223372036854775807:=by have :=m.len;omega
  clear y;clear m;obtain ⟨t,g⟩:∃ t,nowT ts i=t:=⟨_,rfl⟩;rw [g] at u ⊢;replace g:=zz g;have L:=f.out.lt;have M:=Nat.ne_of_lt f.out.lt;have N:=Nat.ne_of_gt f.out.lt;go_enter Tryz.func130,Tryz.ntmps130
  go_wp2_with (first | (go_at_call 128;refine (now_any _ (f.out.alloc _).bo (f.out.alloc _).mem).mono ?_;(rintro e U ⟨rfl,h⟩;rw [g.out];simp only [tkV];have b:=zz ((f.out.alloc _).keep h);have a:=zz ((Bo.new w 60 _).keep h);have o:=zz (((FarB.refl q w.heap.size w).alloc _).below h);have z:=h.size;rw [World.size_alloc] at z;clear h;have H:=b.out.c3.1;have I:=b.out.c3.2.1;have J:=b.out.c3.2.2;have fz:=b.out.fz;have O:=b.out.lt;have Q:=Nat.ne_of_lt b.out.lt;have P:=Nat.ne_of_gt b.out.lt;have A:=a.out.cell (j:=0) rfl;have B:=a.out.cell (j:=1) rfl;have C:=a.out.cell (j:=2) rfl;have D:=a.out.cell (j:=3) rfl;have E:=a.out.cell (j:=4) rfl;have F:=a.out.cell (j:=5) rfl;have T:=Bo.frozen a.out;have G:=Bo.lt a.out;have S:=Nat.ne_of_lt (Bo.lt a.out);have R:=Nat.ne_of_gt (Bo.lt a.out))))
  have r:=b;have p:=o;clear g b a f o;refine bodyPost_ret (v:=.tuple #[.agg #[.int .i64 2,.string t.s,.int .i64 0,.slice none 0 0,.int .i64 t.l,.int .i64 t.c],.bool true]) (by clear r p;simp [results,Tryz.results130,go_sem,A,B,C,D,E,F,G]) rfl ?_;refine ⟨rfl,FarB.out ?_,?_⟩
  · (repeat' (first | with_reducible exact p.out | with_reducible refine FarB.alloc ?_ _ | with_reducible refine FarB.drew ?_ | with_reducible refine FarB.dn ?_ _ | with_reducible refine FarB.setQ ?_ _ _ | with_reducible refine FarB.setN ?_ (by omega) _ _))
  · (repeat' (first | with_reducible exact r.out | with_reducible refine PS.alloc ?_ _ | with_reducible refine PS.drew ?_ | with_reducible refine PS.dn ?_ _ | with_reducible refine PS.setI (i:=i) ?_ (by omega) | with_reducible refine PS.off ?_ (by omega) _ _))
theorem plain_0 (w:World) (r:PS ts aL n cap q i d w) (x: ¬(nowT ts i).k=2) (y: ¬(nowT ts i).k=3) (z: ¬(nowT ts i).k=4):
    Calls Tryz.prog 130 #[.pointer (some ⟨q,0,none⟩)] w fun e u=>e=.returned (.tuple #[.agg #[.int .i64 0,.string (nowT ts i).s,.int .i64 0,.slice none 0 0,.int .i64 (nowT ts i).l,.int .i64 (nowT ts i).c],.bool false])∧FarQ q w u∧PS ts aL n cap q i d u:=by
  have f:=zz r;clear r;obtain ⟨t,g⟩:∃ t,nowT ts i=t:=⟨_,rfl⟩;rw [g] at x y z ⊢;replace g:=zz g;have L:=f.out.lt;have M:=Nat.ne_of_lt f.out.lt;have N:=Nat.ne_of_gt f.out.lt;go_enter Tryz.func130,Tryz.ntmps130
  go_wp2_with (first | (go_at_call 128;refine (now_any _ (f.out.alloc _).bo (f.out.alloc _).mem).mono ?_;(rintro e U ⟨rfl,h⟩;rw [g.out];simp only [tkV];have b:=zz ((f.out.alloc _).keep h);have a:=zz ((Bo.new w 60 _).keep h);have m:=zz (((FarB.refl q w.heap.size w).alloc _).below h);have A:=h.size;rw [World.size_alloc] at A;clear h;have I:=b.out.c3.1;have J:=b.out.c3.2.1;have K:=b.out.c3.2.2;have fz:=b.out.fz;have O:=b.out.lt;have Q:=Nat.ne_of_lt b.out.lt;have P:=Nat.ne_of_gt b.out.lt;have B:=a.out.cell (j:=0) rfl;have C:=a.out.cell (j:=1) rfl;have D:=a.out.cell (j:=2) rfl;have E:=a.out.cell (j:=3) rfl;have F:=a.out.cell (j:=4) rfl;have G:=a.out.cell (j:=5) rfl;have T:=Bo.frozen a.out;have H:=Bo.lt a.out;have S:=Nat.ne_of_lt (Bo.lt a.out);have R:=Nat.ne_of_gt (Bo.lt a.out))))
  have p:=b;have o:=m;clear g b a f m;refine bodyPost_ret (v:=.tuple #[.agg #[.int .i64 0,.string t.s,.int .i64 0,.slice none 0 0,.int .i64 t.l,.int .i64 t.c],.bool false]) (by clear p o;simp [results,Tryz.results130,go_sem,B,C,D,E,F,G,H]) rfl ?_;refine ⟨rfl,FarB.out ?_,?_⟩
  · (repeat' (first | with_reducible exact o.out | with_reducible refine FarB.alloc ?_ _ | with_reducible refine FarB.drew ?_ | with_reducible refine FarB.dn ?_ _ | with_reducible refine FarB.setQ ?_ _ _ | with_reducible refine FarB.setN ?_ (by omega) _ _))
  · (repeat' (first | with_reducible exact p.out | with_reducible refine PS.alloc ?_ _ | with_reducible refine PS.drew ?_ | with_reducible refine PS.dn ?_ _ | with_reducible refine PS.setI (i:=i) ?_ (by omega) | with_reducible refine PS.off ?_ (by omega) _ _))
theorem plain_4 (w:World) (F:PS ts aL n cap q i d w) (hk:(nowT ts i).k=4):
    Calls Tryz.prog 130 #[.pointer (some ⟨q,0,none⟩)] w fun e E=>e=.returned (.tuple #[.agg #[.int .i64 3,.string ⟨#[]⟩,.int .i64 (nowT ts i).n,.slice none 0 0,.int .i64 (nowT ts i).l,.int .i64 (nowT ts i).c],.bool true])∧FarQ q w E∧PS ts aL n cap q (i+1) d E:=by
  have B:=zz F;have hi:i<ts.length:=now_lt (by rw [hk];decide)
  have a9:(i:Int)+1≤9223372036854775807:=by have :=F.len;omega
  clear hi;clear F;obtain ⟨t,C⟩:∃ t,nowT ts i=t:=⟨_,rfl⟩;rw [C] at hk ⊢;replace C:=zz C;have aa:=B.out.lt;have ab:=Nat.ne_of_lt B.out.lt;have ac:=Nat.ne_of_gt B.out.lt;go_enter Tryz.func130,Tryz.ntmps130
  go_wp2_with (first | (go_at_call 128;refine (now_any _ (B.out.alloc _).bo (B.out.alloc _).mem).mono ?_;(rintro e a ⟨rfl,D⟩;rw [C.out];simp only [tkV];have x:=zz ((B.out.alloc _).keep D);have m:=zz ((Bo.new w 60 _).keep D);have N:=zz (((FarB.refl q w.heap.size w).alloc _).below D);have a4:=D.size;rw [World.size_alloc] at a4;clear D;have U:=x.out.c3.1;have V:=x.out.c3.2.1;have W:=x.out.c3.2.2;have fz:=x.out.fz;have a0:=x.out.lt;have a2:=Nat.ne_of_lt x.out.lt;have a1:=Nat.ne_of_gt x.out.lt;have G:=m.out.cell (j:=0) rfl;have H:=m.out.cell (j:=1) rfl;have I:=m.out.cell (j:=2) rfl;have J:=m.out.cell (j:=3) rfl;have L:=m.out.cell (j:=4) rfl;have M:=m.out.cell (j:=5) rfl;have rz:=Bo.frozen m.out;have rl:=Bo.lt m.out;have rn:=Nat.ne_of_lt (Bo.lt m.out);have rm:=Nat.ne_of_gt (Bo.lt m.out))))
  have ad:((a.alloc (.cells #[.int .i64 4,.string t.s,.int .i64 t.n,.int .i64 t.l,.int .i64 t.c] 53)).alloc (.cells #[.int .i64 0,.string t.s,.int .i64 0,.slice none 0 0,.int .i64 t.l,.int .i64 t.c] 60)).heap.size=a.heap.size+1+1:=by rw [World.size_alloc,World.size_alloc]
  have Q:Hid (PS ts aL n cap q i d ((a.alloc (.cells #[.int .i64 4,.string t.s,.int .i64 t.n,.int .i64 t.l,.int .i64 t.c] 53)).alloc (.cells #[.int .i64 0,.string t.s,.int .i64 0,.slice none 0 0,.int .i64 t.l,.int .i64 t.c] 60))):=zz ((x.out.alloc _).alloc _);have R:Hid (Bo ((a.alloc (.cells #[.int .i64 4,.string t.s,.int .i64 t.n,.int .i64 t.l,.int .i64 t.c] 53)).alloc (.cells #[.int .i64 0,.string t.s,.int .i64 0,.slice none 0 0,.int .i64 t.l,.int .i64 t.c] 60)) w.heap.size 60 _):=zz ((m.out.alloc _).alloc _);have O:Hid (FarB q w.heap.size w ((a.alloc (.cells #[.int .i64 4,.string t.s,.int .i64 t.n,.int .i64 t.l,.int .i64 t.c] 53)).alloc (.cells #[.int .i64 0,.string t.s,.int .i64 0,.slice none 0 0,.int .i64 t.l,.int .i64 t.c] 60))):=zz ((N.out.alloc _).alloc _);have T:Hid (Bo ((a.alloc (.cells #[.int .i64 4,.string t.s,.int .i64 t.n,.int .i64 t.l,.int .i64 t.c] 53)).alloc (.cells #[.int .i64 0,.string t.s,.int .i64 0,.slice none 0 0,.int .i64 t.l,.int .i64 t.c] 60)) a.heap.size 53 _):=zz ((Bo.new a 53 #[.int .i64 4,.string t.s,.int .i64 t.n,.int .i64 t.l,.int .i64 t.c]).alloc _);have o:Hid (Bo ((a.alloc (.cells #[.int .i64 4,.string t.s,.int .i64 t.n,.int .i64 t.l,.int .i64 t.c] 53)).alloc (.cells #[.int .i64 0,.string t.s,.int .i64 0,.slice none 0 0,.int .i64 t.l,.int .i64 t.c] 60)) (a.heap.size+1) 60 _):=zz (by rw [←World.size_alloc a];exact Bo.new _ 60 #[.int .i64 0,.string t.s,.int .i64 0,.slice none 0 0,.int .i64 t.l,.int .i64 t.c]);generalize ((a.alloc (.cells #[.int .i64 4,.string t.s,.int .i64 t.n,.int .i64 t.l,.int .i64 t.c] 53)).alloc (.cells #[.int .i64 0,.string t.s,.int .i64 0,.slice none 0 0,.int .i64 t.l,.int .i64 t.c] 60))=A at *;clear U V W fz a0 a2 a1 G H I J L M rz rn rm x m N;have u:=T.out.cell (j:=2) rfl;have v0:=o.out.cell (j:=0) rfl;have v1:=o.out.cell (j:=1) rfl;have v2:=o.out.cell (j:=2) rfl;have v3:=o.out.cell (j:=3) rfl;have v4:=o.out.cell (j:=4) rfl;have v5:=o.out.cell (j:=5) rfl;have vz:=Bo.frozen o.out;have vl:=Bo.lt o.out;have vn:=Nat.ne_of_lt (Bo.lt o.out);have vm:=Nat.ne_of_gt (Bo.lt o.out);refine wp_region_held_drew (S:=fun E=>Far (fun b=>b=a.heap.size+1) (A) E) (by kernel_rfl) (Far.of (below_drew _)) (fun X=>?_);refine takeL 0 (v:=?_) rfl (by kernel_rfl) (by kernel_rfl) (by kernel_rfl) (fun _ _ _ h=>h) (by rfl) ?_ (by assumption) ?_;rotate_left
  · (intro w f;(try dsimp only at f);replace u:=Far.cellZ u f (by omega);go_simp;try rfl)
  try simp only [Act.put,List.setIfInBounds_toArray,List.set_cons_zero,List.set_cons_succ]
  refine takeL 1 (v:=?_) rfl (by kernel_rfl) (by kernel_rfl) (by kernel_rfl) (fun _ _ _ h=>h) (by rfl) ?_ (by assumption) ?_;rotate_left
  · (intro w f;(try dsimp only at f);replace u:=Far.cellZ u f (by omega);go_simp;try rfl)
  try simp only [Act.put,List.setIfInBounds_toArray,List.set_cons_zero,List.set_cons_succ]
  refine takeL 2 (v:=?_) rfl (by kernel_rfl) (by kernel_rfl) (by kernel_rfl) (fun _ _ _ h=>h) (by rfl) ?_ (by assumption) ?_;rotate_left
  · (intro w f;(try dsimp only at f);replace u:=Far.cellZ u f (by omega);go_simp;try rfl)
  try simp only [Act.put,List.setIfInBounds_toArray,List.set_cons_zero,List.set_cons_succ]
  refine callL 3 rfl (by kernel_rfl) (by rfl) (fun K z=>?_);go_simp;refine z.out _ _ ?_ (fun Y=>?_);· exact Far.setCell X rfl _
  clear z K;refine takeL 4 (v:=?_) rfl (by kernel_rfl) (by kernel_rfl) (by kernel_rfl) (fun _ _ _ h=>h) (by rfl) ?_ (by assumption) ?_;rotate_left
  · (intro w f;(try dsimp only at f);replace u:=Far.cellZ u f (by omega);go_simp;try rfl)
  try simp only [Act.put,List.setIfInBounds_toArray,List.set_cons_zero,List.set_cons_succ]
  refine callL 5 rfl (by kernel_rfl) (by rfl) (fun K z=>?_);go_simp;refine z.out _ _ ?_ (fun Z=>?_);· exact Far.setCell Y rfl _
  clear z K;refine takeL 6 (v:=?_) rfl (by kernel_rfl) (by kernel_rfl) (by kernel_rfl) (fun _ _ _ h=>h) (by rfl) ?_ (by assumption) ?_;rotate_left
  · (intro w f;(try dsimp only at f);replace u:=Far.cellZ u f (by omega);go_simp;try rfl)
  try simp only [Act.put,List.setIfInBounds_toArray,List.set_cons_zero,List.set_cons_succ]
  refine callL 7 rfl (by kernel_rfl) (by rfl) (fun K z=>?_);go_simp;refine z.out _ _ ?_ (fun a3=>?_);· exact Far.setCell Z rfl _
  clear z K;refine wpAnyH_done (by kernel_rfl) ?_ _
  have ae:((((A.setCell ⟨a.heap.size+1,0,none⟩ (.int .i64 3)).setCell ⟨a.heap.size+1,1,none⟩ (.string ⟨#[]⟩)).setCell ⟨a.heap.size+1,2,none⟩ (.int .i64 t.n)).drew).heap.size=A.heap.size:=by simp [World.setCell,World.drew]
  have y:Hid (PS ts aL n cap q i d (((A.setCell ⟨a.heap.size+1,0,none⟩ (.int .i64 3)).setCell ⟨a.heap.size+1,1,none⟩ (.string ⟨#[]⟩)).setCell ⟨a.heap.size+1,2,none⟩ (.int .i64 t.n)).drew):=zz (by (repeat' (first | with_reducible exact Q.out | with_reducible refine PS.alloc ?_ _ | with_reducible refine PS.drew ?_ | with_reducible refine PS.dn ?_ _ | with_reducible refine PS.setI (i:=i) ?_ (by omega) | with_reducible refine PS.off ?_ (by omega) _ _)));have P:Hid (FarB q w.heap.size w (((A.setCell ⟨a.heap.size+1,0,none⟩ (.int .i64 3)).setCell ⟨a.heap.size+1,1,none⟩ (.string ⟨#[]⟩)).setCell ⟨a.heap.size+1,2,none⟩ (.int .i64 t.n)).drew):=zz (by (repeat' (first | with_reducible exact O.out | with_reducible refine FarB.alloc ?_ _ | with_reducible refine FarB.drew ?_ | with_reducible refine FarB.dn ?_ _ | with_reducible refine FarB.setQ ?_ _ _ | with_reducible refine FarB.setN ?_ (by omega) _ _)));have p:Hid (Bo (((A.setCell ⟨a.heap.size+1,0,none⟩ (.int .i64 3)).setCell ⟨a.heap.size+1,1,none⟩ (.string ⟨#[]⟩)).setCell ⟨a.heap.size+1,2,none⟩ (.int .i64 t.n)).drew w.heap.size 60 _):=zz ((((R.out.far 0 (.int .i64 3) (g:=a.heap.size+1) (by omega)).far 1 (.string ⟨#[]⟩) (g:=a.heap.size+1) (by omega)).far 2 (.int .i64 t.n) (g:=a.heap.size+1) (by omega)).drew);have r:Hid (Bo (((A.setCell ⟨a.heap.size+1,0,none⟩ (.int .i64 3)).setCell ⟨a.heap.size+1,1,none⟩ (.string ⟨#[]⟩)).setCell ⟨a.heap.size+1,2,none⟩ (.int .i64 t.n)).drew (a.heap.size+1) 60 #[.int .i64 3,.string ⟨#[]⟩,.int .i64 t.n,.slice none 0 0,.int .i64 t.l,.int .i64 t.c]):=zz ((((o.out.set 0 (.int .i64 3)).set 1 (.string ⟨#[]⟩)).set 2 (.int .i64 t.n)).drew);clear v0 v1 v2 v3 v4 v5 vz vl vn vm u X Y Z a3 o T Q O R;generalize (((A.setCell ⟨a.heap.size+1,0,none⟩ (.int .i64 3)).setCell ⟨a.heap.size+1,1,none⟩ (.string ⟨#[]⟩)).setCell ⟨a.heap.size+1,2,none⟩ (.int .i64 t.n)).drew=w9 at *;have U:=y.out.c3.1;have V:=y.out.c3.2.1;have W:=y.out.c3.2.2;have fz:=y.out.fz;have a0:=y.out.lt;have a2:=Nat.ne_of_lt y.out.lt;have a1:=Nat.ne_of_gt y.out.lt;have G:=p.out.cell (j:=0) rfl;have H:=p.out.cell (j:=1) rfl;have I:=p.out.cell (j:=2) rfl;have J:=p.out.cell (j:=3) rfl;have L:=p.out.cell (j:=4) rfl;have M:=p.out.cell (j:=5) rfl;have rz:=Bo.frozen p.out;have rl:=Bo.lt p.out;have rn:=Nat.ne_of_lt (Bo.lt p.out);have rm:=Nat.ne_of_gt (Bo.lt p.out);have v0:=r.out.cell (j:=0) rfl;have v1:=r.out.cell (j:=1) rfl;have v2:=r.out.cell (j:=2) rfl;have v3:=r.out.cell (j:=3) rfl;have v4:=r.out.cell (j:=4) rfl;have v5:=r.out.cell (j:=5) rfl;have vz:=Bo.frozen r.out;have vl:=Bo.lt r.out;have vn:=Nat.ne_of_lt (Bo.lt r.out);have vm:=Nat.ne_of_gt (Bo.lt r.out)
  have a5:w.heap.size≠a.heap.size+1:=by omega
  have a6:a.heap.size+1≠w.heap.size:=by omega
  have a7:q≠a.heap.size+1:=by omega
  have a8:a.heap.size+1≠q:=by omega
  go_wp2
  clear C B p r;refine bodyPost_ret (v:=.tuple #[.agg #[.int .i64 3,.string ⟨#[]⟩,.int .i64 t.n,.slice none 0 0,.int .i64 t.l,.int .i64 t.c],.bool true]) (by clear y P;simp [results,Tryz.results130,go_sem,G,H,I,J,L,M]) rfl ?_;refine ⟨rfl,FarB.out ?_,?_⟩
  · (repeat' (first | with_reducible exact P.out | with_reducible refine FarB.alloc ?_ _ | with_reducible refine FarB.drew ?_ | with_reducible refine FarB.dn ?_ _ | with_reducible refine FarB.setQ ?_ _ _ | with_reducible refine FarB.setN ?_ (by omega) _ _))
  · (repeat' (first | with_reducible exact y.out | with_reducible refine PS.alloc ?_ _ | with_reducible refine PS.drew ?_ | with_reducible refine PS.dn ?_ _ | with_reducible refine PS.setI (i:=i) ?_ (by omega) | with_reducible refine PS.off ?_ (by omega) _ _))
theorem plain_ok (w:World) (a:PS ts aL n cap q i d w) {x:Ex} (h:plainE (nowT ts i)=some x):
    Calls Tryz.prog 130 #[.pointer (some ⟨q,0,none⟩)] w fun e b=>e=.returned (.tuple #[exV x none 0 0,.bool true])∧FarQ q w b∧PS ts aL n cap q (i+1) d b:=by
  unfold plainE at h
  split at h
  · cases h;exact plain_2 w a (by assumption)
  · split at h
    · cases h;exact plain_3 w a (by assumption)
    · split at h
      · cases h;exact plain_4 w a (by assumption)
      · cases h
theorem plain_args {t:Tk} {x:Ex} (h:plainE t=some x):x.args=[]:=by
  unfold plainE at h
  split at h
  · cases h;rfl
  · split at h
    · cases h;rfl
    · split at h
      · cases h;rfl
      · cases h
theorem plain_bad (w:World) (f:PS ts aL n cap q i d w) (h:plainE (nowT ts i)=none):
    Calls Tryz.prog 130 #[.pointer (some ⟨q,0,none⟩)] w fun e a=>(∃ s l c,e=.returned (.tuple #[.agg #[.int .i64 0,.string s,.int .i64 0,.slice none 0 0,.int .i64 l,.int .i64 c],.bool false]))∧FarQ q w a∧PS ts aL n cap q i d a:=by
  unfold plainE at h
  split at h
  · cases h
  · split at h
    · cases h
    · split at h
      · cases h
      · exact (plain_0 w f (by assumption) (by assumption) (by assumption)).mono fun e a b=>⟨⟨_,_,_,b.1⟩,b.2⟩
end
end
end Go.Proofs.YtcoiagfeoonpbaaGreat
