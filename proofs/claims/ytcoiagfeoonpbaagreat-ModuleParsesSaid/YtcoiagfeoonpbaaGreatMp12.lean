/-
 The parser's atom: an Atom. Under what the other reading functions do with less fuel.
-/
import Derived.Test.YtcoiagfeoonpbaaGreatMp10
import Derived.Test.YtcoiagfeoonpbaaGreatMp11
import Derived.Test.YtcoiagfeoonpbaaGreatMp8
import Derived.Recover
set_option maxHeartbeats 20000000
set_option maxRecDepth 100000
namespace Go.Proofs.YtcoiagfeoonpbaaGreat
section
open Go.RowKit
attribute [local go_sem] tk_pos
section
variable {ts:List Tk} {aL:Option Addr} {n cap q:Nat}
theorem memNone {base:Nat} {w:World} {x:Ex} (h:x.args=[]):Mem (Nw 0 base w.heap.size) w (.s 6 (Ex.rows x.args)) (.slice none 0 0):=by
 rw [h,Ex.rows_eq];exact .e none 0 6 (by decide)
theorem atom_succ {f i s:Nat} {r:Rd1} (m:readE ts (f+1) .atom i s=some r) (w:World) (O:s≤40) (H:AllR ts aL n cap q (f+1)) (o:PS ts aL n cap q i (s:Int) w):
  Calls Tryz.prog 152 #[.pointer (some ⟨q,0,none⟩)] w (Ans ts aL n cap q r s w):=by
 have a:=zz o;have a0:=o.lt;have e:=zz (FarB.refl q w.heap.size w);clear o;rw [readE] at m
 go_enter_defers Tryz.func152,Tryz.ntmps152
 refine Code.wp_mono (doorQ_mono _ r s w) ?_
 go_wp2_with (fail)
 generalize b:World.alloc w _=w1;have a4:=sizeA b;replace a:=pA a b;replace e:=fA e b;have g:=nB b (w.heap.size);clear b
 cases hpl:plainE (nowT ts i) with
 | some x=>
  simp only [hpl] at m;cases m;refine (plain_ok _ a.out hpl).mono ?_;rintro _ B ⟨rfl,d,o⟩;replace g:=qB g d;replace e:=qF e d;have Q:=d.size;replace a:=zz o;clear d o;simp only [exV];have G:=kc6 g;have F:=iq_0_0 q w B
  go_wp2_with (fail)
  clear G;generalize b:World.setCell _ ⟨w.heap.size,5,none⟩ _=V;replace a:=pO6 a b;replace e:=fN6 e b;replace g:=bS6 g b;clear b;generalize b:World.alloc V _=U;replace a:=pA a b;replace e:=fA e b;replace g:=bA g b;clear b;clear F;refine door_plain ?_;have D:=kc6 g;refine ⟨.agg #[.int .i64 x.kind,.string x.name,.int .i64 x.n,.slice none 0 0,.int .i64 x.line,.int .i64 x.col],(by clear a e g;simp [results,Tryz.results152,go_sem,D]),?_⟩;exact ⟨_,_,_,rfl,e.out.out,a.out,memNone (plain_args hpl)⟩
 | none=>
  simp only [hpl] at m;refine (plain_bad _ a.out hpl).mono ?_;rintro _ B ⟨⟨s_,R,M,rfl⟩,d,o⟩;replace g:=qB g d;replace e:=qF e d;have Q:=d.size;replace a:=zz o;clear d o
  go_wp2_with (fail)
  generalize b:World.alloc B _=U;have a5:=sizeA b;replace a:=pA a b;replace e:=fA e b;replace g:=bA g b;clear b
  rcases y:isT ts i 6 wOpen
  ·
   simp only [y,Bool.false_eq_true,if_false] at m;cases m;refine (is_any 6 wOpen _ a.out).mono ?_;rintro _ W ⟨rfl,p⟩;have d:=FarQ.of (q:=q) p;replace e:=qF e d;replace a:=kP a p;clear d p;rw [y]
   go_wp2_with (fail)
   refine (fail_any _ a.out.bo a.out.mem).mono ?_;rintro _ K ⟨rfl,p⟩;have d:=FarQ.of (q:=q) p;have u:=(a.out.keep p).any
   go_wp2_with (fail)
   exact ⟨_,_,rfl,rfl,.inl rfl,FarB.out (e.out.farq d),u⟩
  simp only [y,if_true] at m;refine (is_any 6 wOpen _ a.out).mono ?_;rintro _ W ⟨rfl,p⟩;have d:=FarQ.of (q:=q) p;replace g:=qB g d;replace e:=qF e d;have a1:=d.size;replace a:=kP a p;clear d p;rw [y]
  go_wp2_with (fail)
  by_cases E:s=40
  ·
   rw [if_pos E] at m;cases m;subst E;refine (down_bad _ (by exact a.out)).mono ?_;rintro _ K ⟨rfl,p⟩;have d:=FarQ.of (q:=q) p;have u:=(a.out.keep p).any
   go_wp2_with (fail)
   exact ⟨_,_,rfl,rfl,.inl rfl,FarB.out (e.out.farq d),u⟩
  rw [if_neg E] at m;have P:i<ts.length:=isT_lt y (by decide)
  have I:s+1≤40:=by omega
  refine (down_ok _ a.out (by omega) (by omega) (by omega) P).mono ?_;rintro _ K ⟨rfl,d,o⟩;replace g:=qB g d;replace e:=qF e d;have a2:=d.size;replace a:=zz o;clear d o
  replace a:=zz (by have h:=a.out;rw [show ((s:Int)+1)=((s+1:Nat):Int) by omega] at h;exact h)
  go_wp2_with (fail)
  rcases z:readE ts f .expr (i+1) (s+1) with _ | ⟨x,j⟩ | ⟨R,M⟩
  · (rw [z] at m;cases m)
  rotate_left
  ·
   rw [z] at m
   first | simp only at m | simp only [andT] at m
   cases m;refine ((H.ex f (Nat.lt_succ_self f)) (i+1) (s+1) _ _ I z a.out).mono ?_;rintro _ C ⟨rfl,d,u⟩
   go_wp2_with (fail)
   exact ⟨_,_,rfl,rfl,.inr rfl,FarB.out (e.out.farq d),u⟩
  rw [z] at m
  first | simp only at m | simp only [andT] at m
  refine ((H.ex f (Nat.lt_succ_self f)) (i+1) (s+1) _ _ I z a.out).mono ?_;rintro _ C ⟨L,S,N,rfl,d,o,J⟩;replace g:=qB g d;replace e:=qF e d;have a3:=d.size;replace a:=zz o;have t:=zz J;clear d o J;simp only [exV]
  go_wp2_with (fail)
  generalize b:World.alloc C _=X;have a6:=sizeA b;replace a:=pA a b;replace e:=fA e b;replace g:=bA g b;replace t:=mA t b;have A:=nB b (C.heap.size);clear b;have F:=iq_0_0_0_0 q w B C X
  rcases v:isT ts j 6 wClose
  ·
   first | simp only [v,Bool.false_eq_true,if_false] at m | simp only [takeT,v,Bool.false_eq_true,if_false] at m
   cases m;refine (take_bad 6 wClose _ a.out v).mono ?_;rintro _ Y ⟨rfl,p⟩;have d:=FarQ.of (q:=q) p;have u:=(a.out.keep p).any
   go_wp2_with (fail)
   exact ⟨_,_,rfl,rfl,.inr rfl,FarB.out (e.out.farq d),u⟩
  first | simp only [v,if_true] at m | simp only [takeT,v,if_true] at m
  cases m;refine (take_ok 6 wClose _ a.out v (by decide)).mono ?_;rintro _ Y ⟨rfl,d,o⟩;replace g:=qB g d;replace A:=qB A d;replace t:=qM t d;replace e:=qF e d;replace a:=zz o;clear d o;clear F;have G:=kc6 g;have T:=kc6 A
  go_wp2_with (fail)
  clear G T;generalize b:World.setCell _ ⟨w.heap.size,5,none⟩ _=Z;replace a:=pO6 a b;replace e:=fN6 e b;replace g:=bS6 g b;replace t:=mS6 t b;clear b;refine door_up a.out.bo ?_;generalize b:World.setCell Z _ _=a7;replace a:=zz (a.out.setDE (k:=((s:Int))) b (wrap_up O));replace e:=zz (e.out.setQE b);replace g:=bF1 g b;replace t:=mS1 t b;clear b;have D:=kc6 g;refine ⟨.agg #[.int .i64 x.kind,.string x.name,.int .i64 x.n,.slice L S N,.int .i64 x.line,.int .i64 x.col],(by clear a e g A t;simp [results,Tryz.results152,go_sem,D]),?_⟩;exact ⟨_,_,_,rfl,e.out.out,a.out,memNw t.out (by omega)⟩
theorem atom_reads (F:Nat) (H:AllR ts aL n cap q F):Reads ts aL n cap q 152 .atom F:=by
 intro i e r w b a d
 cases F with
 | zero=>rw [readE] at a;cases a
 | succ f=>exact atom_succ a w b H d
end
end
section
theorem allR (ts:List Tk) (aL:Option Addr) (n cap q:Nat):∀ F,AllR ts aL n cap q F:=by
  intro F
  induction F with
  | zero=>exact ⟨fun g h=>absurd h (Nat.not_lt_zero g),fun g h=>absurd h (Nat.not_lt_zero g),fun g h=>absurd h (Nat.not_lt_zero g),fun g h=>absurd h (Nat.not_lt_zero g),fun g h=>absurd h (Nat.not_lt_zero g)⟩
  | succ F ih =>
    have hat:∀ g,g<F+1→Reads ts aL n cap q 152 .atom g:=fun g hg=>by
      rcases Nat.lt_succ_iff_lt_or_eq.1 hg with h | rfl
      · exact ih.tm g h
      · exact atom_reads g ih
    refine ⟨fun g hg=>?_,fun g hg=>?_,fun g hg=>?_,fun g hg=>?_,hat⟩
    · rcases Nat.lt_succ_iff_lt_or_eq.1 hg with h | rfl
      · exact ih.ex g h
      · exact expr_reads g ih
    · rcases Nat.lt_succ_iff_lt_or_eq.1 hg with h | rfl
      · exact ih.or g h
      · exact or_reads g ih
    · rcases Nat.lt_succ_iff_lt_or_eq.1 hg with h | rfl
      · exact ih.le g h
      · exact left_reads g ih
    · rcases Nat.lt_succ_iff_lt_or_eq.1 hg with h | rfl
      · exact ih.ap g h
      · exact app_reads g hat
end
section
open Go.RowKit
section
variable {b0 b1 b2:Nat}
theorem caught_none (w:World):
    CallsD Tryz.prog 127 #[.pointer (some ⟨b0,0,none⟩),.pointer (some ⟨b1,0,none⟩),.pointer (some ⟨b2,0,none⟩)] .returning w fun e d f=>e=.returned (.tuple #[])∧d=.returning∧f=w:=by
  refine callsD_of_wpS Tryz.func127 rfl fun a g b=>?_;simp only [Tryz.ntmps127,List.size_toArray,List.length_cons,List.length_nil,Nat.reduceAdd,Nat.reduceSub,Array.replicate_succ,Array.replicate_zero,List.push_toArray,List.append_toArray,List.nil_append,List.cons_append]
  apply wpS_seq
  apply wpS_region
  simp [wpOpsS,go_sem,recoverD,b,Exit.thenS]
  refine wpS_of_wp ?_
  go_wp2
  cases a
  simp_all [bodyPostS,results,Tryz.results127]
theorem caught_fault (w:World) {E F G c3 c4 c5 H I J L:Value} (l c:Int) (a2:b0<b1) (a3:b1<b2) (y:Bo w b0 60 #[E,F,G,c3,c4,c5]) (z:Bo w b1 3 #[H]) (t:Bo w b2 31 #[I,J,L]):
    CallsD Tryz.prog 127 #[.pointer (some ⟨b0,0,none⟩),.pointer (some ⟨b1,0,none⟩),.pointer (some ⟨b2,0,none⟩)] (.panicking (faultV l c)) w fun e P s=>
      e=.returned (.tuple #[])∧settle P=.returning∧Far (fun b=>b=b0∨b=b1∨b=b2) w s∧Bo s b0 60 #[.int .i64 0,.string ⟨#[]⟩,.int .i64 0,.slice none 0 0,.int .i64 0,.int .i64 0]∧Bo s b1 3 #[.int .i64 0]∧Bo s b2 31 #[.int .i64 1,.int .i64 l,.int .i64 c]:=by
  refine callsD_of_wpS Tryz.func127 rfl fun c₀ cs B=>?_;simp only [Tryz.ntmps127,List.size_toArray,List.length_cons,List.length_nil,Nat.reduceAdd,Nat.reduceSub,Array.replicate_succ,Array.replicate_zero,List.push_toArray,List.append_toArray,List.nil_append,List.cons_append];unfold faultV at B
  apply wpS_seq
  apply wpS_region
  simp [wpOpsS,go_sem,recoverD,B,Exit.thenS]
  refine wpS_of_wp ?_
  have O:∀ w:World,Sem.run Tryz.prog (Instr.typeAssert (.iface 164 (.agg #[.int .i64 l,.int .i64 c])) 20 164 true) w=.ok (.tuple #[.agg #[.int .i64 l,.int .i64 c],.bool true]) w:=fun _=>by kernel_rfl
  go_wp2
  have a4:=t.lt;have a:=zz (y.alloc (.cells #[.int .i64 l,.int .i64 c] 164));have f:=zz (z.alloc (.cells #[.int .i64 l,.int .i64 c] 164));have d:=zz (t.alloc (.cells #[.int .i64 l,.int .i64 c] 164));have x:=zz (Bo.new w 164 #[.int .i64 l,.int .i64 c]);have i:Hid (Far (fun b=>b=b0∨b=b1∨b=b2) w (w.alloc (.cells #[.int .i64 l,.int .i64 c] 164))):=zz (Far.of (below_new _ _));have a5:(w.alloc (.cells #[.int .i64 l,.int .i64 c] 164)).heap.size=w.heap.size+1:=World.size_alloc _ _;clear y z t;generalize (w.alloc (.cells #[.int .i64 l,.int .i64 c] 164))=u at *;have o:=x.out.cell (j:=0) rfl;have q:=x.out.cell (j:=1) rfl;have X:=a.out.cell (j:=0) rfl;have Y:=a.out.cell (j:=1) rfl;have Z:=a.out.cell (j:=2) rfl;have z3:=a.out.cell (j:=3) rfl;have z4:=a.out.cell (j:=4) rfl;have z5:=a.out.cell (j:=5) rfl;have zz:=Bo.frozen a.out;have n1:b0≠b1:=(by omega);have n2:b1≠b0:=(by omega);have n3:b0≠b2:=(by omega);have n4:b2≠b0:=(by omega);have n5:b1≠b2:=(by omega);have n6:b2≠b1:=(by omega);refine wp_region_held_drew (S:=fun s=>Far (fun b=>b=b0∨b=b1∨b=b2) (u) s) (by kernel_rfl) (Far.of (below_drew _)) (fun a0=>?_);refine takeL 0 (v:=?_) rfl (by kernel_rfl) (by kernel_rfl) (by kernel_rfl) (fun _ _ _ h=>h) (by rfl) ?_ (by assumption) ?_;rotate_left
  · (intro w m;replace o:=Far.cellZ o m (by intro e;rcases e with e | e | e <;> omega);replace q:=Far.cellZ q m (by intro e;rcases e with e | e | e <;> omega);go_simp;try rfl)
  try simp only [Act.put,List.setIfInBounds_toArray,List.set_cons_zero,List.set_cons_succ]
  refine takeL 1 (v:=?_) rfl (by kernel_rfl) (by kernel_rfl) (by kernel_rfl) (fun _ _ _ h=>h) (by rfl) ?_ (by assumption) ?_;rotate_left
  · (intro w m;replace o:=Far.cellZ o m (by intro e;rcases e with e | e | e <;> omega);replace q:=Far.cellZ q m (by intro e;rcases e with e | e | e <;> omega);go_simp;try rfl)
  try simp only [Act.put,List.setIfInBounds_toArray,List.set_cons_zero,List.set_cons_succ]
  refine takeL 2 (v:=?_) rfl (by kernel_rfl) (by kernel_rfl) (by kernel_rfl) (fun _ _ _ h=>h) (by rfl) ?_ (by assumption) ?_;rotate_left
  · (intro w m;replace o:=Far.cellZ o m (by intro e;rcases e with e | e | e <;> omega);replace q:=Far.cellZ q m (by intro e;rcases e with e | e | e <;> omega);go_simp;try rfl)
  try simp only [Act.put,List.setIfInBounds_toArray,List.set_cons_zero,List.set_cons_succ]
  refine takeL 3 (v:=?_) rfl (by kernel_rfl) (by kernel_rfl) (by kernel_rfl) (fun _ _ _ h=>h) (by rfl) ?_ (by assumption) ?_;rotate_left
  · (intro w m;replace o:=Far.cellZ o m (by intro e;rcases e with e | e | e <;> omega);replace q:=Far.cellZ q m (by intro e;rcases e with e | e | e <;> omega);go_simp;try rfl)
  try simp only [Act.put,List.setIfInBounds_toArray,List.set_cons_zero,List.set_cons_succ]
  refine callL 4 rfl (by kernel_rfl) (by rfl) (fun K r=>?_);go_simp;refine r.out _ _ ?_ (fun M=>?_);· exact (by refine Far.trans ?_ (Far.of (below_drew _));(iterate 6 (refine Far.setCell (p:=⟨b0,_,none⟩) ?_ (.inl rfl) _));exact Far.refl _ _)
  clear r K;clear o q X Y Z z3 z4 z5 zz;replace a:=zz (a.out.set 0 (.int .i64 0));replace f:=zz (f.out.far 0 (.int .i64 0) (g:=b0) (by omega));replace d:=zz (d.out.far 0 (.int .i64 0) (g:=b0) (by omega));replace i:=zz (i.out.setCell (p:=⟨b0,0,none⟩) (.inl rfl) (.int .i64 0));replace a:=zz (a.out.set 1 (.string ⟨#[]⟩));replace f:=zz (f.out.far 1 (.string ⟨#[]⟩) (g:=b0) (by omega));replace d:=zz (d.out.far 1 (.string ⟨#[]⟩) (g:=b0) (by omega));replace i:=zz (i.out.setCell (p:=⟨b0,1,none⟩) (.inl rfl) (.string ⟨#[]⟩));replace a:=zz (a.out.set 2 (.int .i64 0));replace f:=zz (f.out.far 2 (.int .i64 0) (g:=b0) (by omega));replace d:=zz (d.out.far 2 (.int .i64 0) (g:=b0) (by omega));replace i:=zz (i.out.setCell (p:=⟨b0,2,none⟩) (.inl rfl) (.int .i64 0));replace a:=zz (a.out.set 3 (.slice none 0 0));replace f:=zz (f.out.far 3 (.slice none 0 0) (g:=b0) (by omega));replace d:=zz (d.out.far 3 (.slice none 0 0) (g:=b0) (by omega));replace i:=zz (i.out.setCell (p:=⟨b0,3,none⟩) (.inl rfl) (.slice none 0 0));replace a:=zz (a.out.set 4 (.int .i64 0));replace f:=zz (f.out.far 4 (.int .i64 0) (g:=b0) (by omega));replace d:=zz (d.out.far 4 (.int .i64 0) (g:=b0) (by omega));replace i:=zz (i.out.setCell (p:=⟨b0,4,none⟩) (.inl rfl) (.int .i64 0));replace a:=zz (a.out.set 5 (.int .i64 0));replace f:=zz (f.out.far 5 (.int .i64 0) (g:=b0) (by omega));replace d:=zz (d.out.far 5 (.int .i64 0) (g:=b0) (by omega));replace i:=zz (i.out.setCell (p:=⟨b0,5,none⟩) (.inl rfl) (.int .i64 0));replace a:=zz (a.out.drew);replace f:=zz (f.out.drew);replace d:=zz (d.out.drew);replace i:=zz (Far.trans i.out (Far.of (below_drew _)));replace a:Hid (Bo (((((((u.setCell ⟨b0,0,none⟩ (.int .i64 0)).setCell ⟨b0,1,none⟩ (.string ⟨#[]⟩)).setCell ⟨b0,2,none⟩ (.int .i64 0)).setCell ⟨b0,3,none⟩ (.slice none 0 0)).setCell ⟨b0,4,none⟩ (.int .i64 0)).setCell ⟨b0,5,none⟩ (.int .i64 0)).drew) b0 60 #[.int .i64 0,.string ⟨#[]⟩,.int .i64 0,.slice none 0 0,.int .i64 0,.int .i64 0]):=a;generalize (((((((u.setCell ⟨b0,0,none⟩ (.int .i64 0)).setCell ⟨b0,1,none⟩ (.string ⟨#[]⟩)).setCell ⟨b0,2,none⟩ (.int .i64 0)).setCell ⟨b0,3,none⟩ (.slice none 0 0)).setCell ⟨b0,4,none⟩ (.int .i64 0)).setCell ⟨b0,5,none⟩ (.int .i64 0)).drew)=C at *;have V:=f.out.cell (j:=0) rfl;have W:=Bo.frozen f.out;refine callL 5 rfl (by kernel_rfl) (by rfl) (fun K r=>?_);go_simp;refine r.out _ _ ?_ (fun N=>?_);· exact Far.setCell (p:=⟨b1,0,none⟩) M (.inr (.inl rfl)) _
  clear r K;clear V W;replace f:=zz (f.out.set 0 (.int .i64 0));replace a:=zz (a.out.far 0 (.int .i64 0) (g:=b1) (by omega));replace d:=zz (d.out.far 0 (.int .i64 0) (g:=b1) (by omega));replace i:=zz (i.out.setCell (p:=⟨b1,0,none⟩) (.inr (.inl rfl)) (.int .i64 0));replace f:Hid (Bo (C.setCell ⟨b1,0,none⟩ (.int .i64 0)) b1 3 #[.int .i64 0]):=f;generalize (C.setCell ⟨b1,0,none⟩ (.int .i64 0))=D at *;have Q:=d.out.cell (j:=0) rfl;have R:=d.out.cell (j:=1) rfl;have T:=d.out.cell (j:=2) rfl;have U:=Bo.frozen d.out;refine callL 6 rfl (by kernel_rfl) (by rfl) (fun K r=>?_);go_simp;refine r.out _ _ ?_ (fun a1=>?_);· exact Far.setCell (p:=⟨b2,2,none⟩) (Far.setCell (p:=⟨b2,1,none⟩) (Far.setCell (p:=⟨b2,0,none⟩) N (.inr (.inr rfl)) _) (.inr (.inr rfl)) _) (.inr (.inr rfl)) _
  clear r K;refine wpAnyH_done (by kernel_rfl) ?_ _;replace d:=zz (d.out.set 0 (.int .i64 1));replace a:=zz (a.out.far 0 (.int .i64 1) (g:=b2) (by omega));replace f:=zz (f.out.far 0 (.int .i64 1) (g:=b2) (by omega));replace i:=zz (i.out.setCell (p:=⟨b2,0,none⟩) (.inr (.inr rfl)) (.int .i64 1));replace d:=zz (d.out.set 1 (.int .i64 l));replace a:=zz (a.out.far 1 (.int .i64 l) (g:=b2) (by omega));replace f:=zz (f.out.far 1 (.int .i64 l) (g:=b2) (by omega));replace i:=zz (i.out.setCell (p:=⟨b2,1,none⟩) (.inr (.inr rfl)) (.int .i64 l));replace d:=zz (d.out.set 2 (.int .i64 c));replace a:=zz (a.out.far 2 (.int .i64 c) (g:=b2) (by omega));replace f:=zz (f.out.far 2 (.int .i64 c) (g:=b2) (by omega));replace i:=zz (i.out.setCell (p:=⟨b2,2,none⟩) (.inr (.inr rfl)) (.int .i64 c));replace d:Hid (Bo (((D.setCell ⟨b2,0,none⟩ (.int .i64 1)).setCell ⟨b2,1,none⟩ (.int .i64 l)).setCell ⟨b2,2,none⟩ (.int .i64 c)) b2 31 #[.int .i64 1,.int .i64 l,.int .i64 c]):=d;generalize (((D.setCell ⟨b2,0,none⟩ (.int .i64 1)).setCell ⟨b2,1,none⟩ (.int .i64 l)).setCell ⟨b2,2,none⟩ (.int .i64 c))=v4 at *
  go_wp2
  clear Q R T U O;exact ⟨rfl,_,rfl,_,results_none rfl _ _ _,rfl,rfl,i.out,a.out,f.out,d.out⟩
end
end
section
open Go.RowKit
section
variable {ts:List Tk} {aL:Option Addr} {n cap q:Nat}
theorem of1_any {F i:Nat} {r:Rd1} (p:readE ts F .expr i 0=some r) (w:World) (f:PS ts aL n cap q i ((0:Nat):Int) w):
  Calls Tryz.prog 96 #[.pointer (some ⟨q,0,none⟩)] w (Ans ts aL n cap q r 0 w):=by
 have d:=zz f;have C:=f.lt;have b:=zz (FarB.refl q w.heap.size w);have m:=(allR ts aL n cap q (F+1)).ex;clear f;go_enter Tryz.func96,Tryz.ntmps96
 go_wp2_with (fail)
 generalize a:(w.alloc (.cells #[.int .i64 0,.string ⟨#[]⟩,.int .i64 0,.slice none 0 0,.int .i64 0,.int .i64 0] 60))=E at *;have D:=sizeA a;replace d:=pA d a;replace b:=fA b a;have e:=nB a (w.heap.size);clear a
 cases r with
 | bad l_ c_=>
  refine (m F (Nat.lt_succ_self F) i 0 _ _ (Nat.zero_le _) p d.out).mono ?_;rintro _ B ⟨rfl,g,y⟩
  go_wp2_with (fail)
  exact ⟨rfl,rfl,FarB.out (b.out.farq g),y⟩
 | ok x j=>
  refine (m F (Nat.lt_succ_self F) i 0 _ _ (Nat.zero_le _) p d.out).mono ?_;rintro _ B ⟨s,z,t,rfl,g,f,o⟩;replace e:=qB e g;replace b:=qF b g;replace d:=zz f;have h:=zz o;clear g f o;simp only [exV];have A:=kc6 e
  go_wp2_with (fail)
  clear A;generalize a:World.setCell _ ⟨w.heap.size,5,none⟩ _=G at *;replace d:=pO6 d a;replace b:=fN6 b a;replace e:=bS6 e a;replace h:=mS6 h a;clear a;have u:=kc6 e;refine bodyPost_ret (v:=.agg #[.int .i64 x.kind,.string x.name,.int .i64 x.n,.slice s z t,.int .i64 x.line,.int .i64 x.col]) (by clear d b e h;simp [results,Tryz.results96,go_sem,u]) rfl ?_;exact ⟨_,_,_,rfl,b.out.out,d.out,memNw h.out (by omega)⟩
theorem wp_nopanic {P:Program} {c:Code} {Q:Exit→Act→World→Prop} {a:Act} {w:World} (h:c.wp P (fun e a w=>match e with | .panic _=>False | e=>Q e a w) a w):c.wp P Q a w:=
 Code.wp_mono (fun e a w h=>by cases e <;> first | exact h | exact h.elim) h
def RunAns (r:Rd1) (W:World) (e:Ending) (w':World):Prop:=
 match r with
 | .ok x j=>∃ a m c,e=.returned (.tuple #[exV x a m c,.int .i64 (j:Int),.agg #[.int .i64 0,.int .i64 0,.int .i64 0]])∧Below W.heap.size W w'∧Mem (Nw 0 W.heap.size w'.heap.size) w' (.s 6 (Ex.rows x.args)) (.slice a m c)
 | .bad l c=>e=.returned (.tuple #[.agg #[.int .i64 0,.string ⟨#[]⟩,.int .i64 0,.slice none 0 0,.int .i64 0,.int .i64 0],.int .i64 0,.agg #[.int .i64 1,.int .i64 l,.int .i64 c]])∧Below W.heap.size W w'
theorem run_of_neg {F:Nat} {i:Int} (hi:i<0) {r:Rd1} (w:World) (h:MemW w (.s 5 (tkRows ts)) (.slice aL n cap)) (hn:n≤1048576) (hr:readE ts F .expr 0 0=some r):
  Calls Tryz.prog 93 #[.slice aL n cap,.int .i64 i,.func (.func 96) #[] #[]] w (RunAns r w):=by
 have H:=zz h
 have hE:∀ args w,Sem.run Tryz.prog (callFunc 96 args) w=.ok (.enter 96 args) w:=fun _ _=>by kernel_rfl
 clear h
 go_enter_defers Tryz.func93,Tryz.ntmps93
 go_wp2_with (fail)
 have a5:((((w.alloc (.cells #[.int .i64 0,.string ⟨#[]⟩,.int .i64 0,.slice none 0 0,.int .i64 0,.int .i64 0] 60)).alloc (.cells #[.int .i64 0] 3)).alloc (.cells #[.int .i64 0,.int .i64 0,.int .i64 0] 31)).alloc (.cells #[.slice aL n cap,.int .i64 0,.int .i64 0] 162)).heap.size=w.heap.size+1+1+1+1:=by simp only [World.size_alloc]
 have d:Hid (Bo ((((w.alloc (.cells #[.int .i64 0,.string ⟨#[]⟩,.int .i64 0,.slice none 0 0,.int .i64 0,.int .i64 0] 60)).alloc (.cells #[.int .i64 0] 3)).alloc (.cells #[.int .i64 0,.int .i64 0,.int .i64 0] 31)).alloc (.cells #[.slice aL n cap,.int .i64 0,.int .i64 0] 162)) w.heap.size 60 #[.int .i64 0,.string ⟨#[]⟩,.int .i64 0,.slice none 0 0,.int .i64 0,.int .i64 0]):=zz ((((Bo.new w 60 #[.int .i64 0,.string ⟨#[]⟩,.int .i64 0,.slice none 0 0,.int .i64 0,.int .i64 0]).alloc _).alloc _).alloc _)
 have m:Hid (Bo ((((w.alloc (.cells #[.int .i64 0,.string ⟨#[]⟩,.int .i64 0,.slice none 0 0,.int .i64 0,.int .i64 0] 60)).alloc (.cells #[.int .i64 0] 3)).alloc (.cells #[.int .i64 0,.int .i64 0,.int .i64 0] 31)).alloc (.cells #[.slice aL n cap,.int .i64 0,.int .i64 0] 162)) (w.heap.size+1) 3 #[.int .i64 0]):=zz ((((by have h:=Bo.new (w.alloc (.cells #[.int .i64 0,.string ⟨#[]⟩,.int .i64 0,.slice none 0 0,.int .i64 0,.int .i64 0] 60)) 3 #[.int .i64 0];rw [World.size_alloc] at h;exact h:Bo ((w.alloc (.cells #[.int .i64 0,.string ⟨#[]⟩,.int .i64 0,.slice none 0 0,.int .i64 0,.int .i64 0] 60)).alloc (.cells #[.int .i64 0] 3)) (w.heap.size+1) 3 #[.int .i64 0])).alloc _).alloc _)
 have g:Hid (Bo ((((w.alloc (.cells #[.int .i64 0,.string ⟨#[]⟩,.int .i64 0,.slice none 0 0,.int .i64 0,.int .i64 0] 60)).alloc (.cells #[.int .i64 0] 3)).alloc (.cells #[.int .i64 0,.int .i64 0,.int .i64 0] 31)).alloc (.cells #[.slice aL n cap,.int .i64 0,.int .i64 0] 162)) (w.heap.size+1+1) 31 #[.int .i64 0,.int .i64 0,.int .i64 0]):=zz (((by have h:=Bo.new ((w.alloc (.cells #[.int .i64 0,.string ⟨#[]⟩,.int .i64 0,.slice none 0 0,.int .i64 0,.int .i64 0] 60)).alloc (.cells #[.int .i64 0] 3)) 31 #[.int .i64 0,.int .i64 0,.int .i64 0];rw [World.size_alloc,World.size_alloc] at h;exact h:Bo (((w.alloc (.cells #[.int .i64 0,.string ⟨#[]⟩,.int .i64 0,.slice none 0 0,.int .i64 0,.int .i64 0] 60)).alloc (.cells #[.int .i64 0] 3)).alloc (.cells #[.int .i64 0,.int .i64 0,.int .i64 0] 31)) (w.heap.size+1+1) 31 #[.int .i64 0,.int .i64 0,.int .i64 0])).alloc _)
 have M:Bo ((((w.alloc (.cells #[.int .i64 0,.string ⟨#[]⟩,.int .i64 0,.slice none 0 0,.int .i64 0,.int .i64 0] 60)).alloc (.cells #[.int .i64 0] 3)).alloc (.cells #[.int .i64 0,.int .i64 0,.int .i64 0] 31)).alloc (.cells #[.slice aL n cap,.int .i64 0,.int .i64 0] 162)) (w.heap.size+1+1+1) 162 #[.slice aL n cap,.int .i64 0,.int .i64 0]:=by have h:=Bo.new (((w.alloc (.cells #[.int .i64 0,.string ⟨#[]⟩,.int .i64 0,.slice none 0 0,.int .i64 0,.int .i64 0] 60)).alloc (.cells #[.int .i64 0] 3)).alloc (.cells #[.int .i64 0,.int .i64 0,.int .i64 0] 31)) 162 #[.slice aL n cap,.int .i64 0,.int .i64 0];rw [World.size_alloc,World.size_alloc,World.size_alloc] at h;exact h
 have L:Below w.heap.size w ((((w.alloc (.cells #[.int .i64 0,.string ⟨#[]⟩,.int .i64 0,.slice none 0 0,.int .i64 0,.int .i64 0] 60)).alloc (.cells #[.int .i64 0] 3)).alloc (.cells #[.int .i64 0,.int .i64 0,.int .i64 0] 31)).alloc (.cells #[.slice aL n cap,.int .i64 0,.int .i64 0] 162)):=(((below_new w _).alloc (by simp) _).alloc (by simp only [World.size_alloc];omega) _).alloc (by simp only [World.size_alloc];omega) _;generalize ((((w.alloc (.cells #[.int .i64 0,.string ⟨#[]⟩,.int .i64 0,.slice none 0 0,.int .i64 0,.int .i64 0] 60)).alloc (.cells #[.int .i64 0] 3)).alloc (.cells #[.int .i64 0,.int .i64 0,.int .i64 0] 31)).alloc (.cells #[.slice aL n cap,.int .i64 0,.int .i64 0] 162))=I at *;have a1:Mem (· <w.heap.size+1+1+1) I (.s 5 (tkRows ts)) (.slice aL n cap):=(Mem.keep H.out (Nat.le_refl _) L).le (by omega);generalize hq:w.heap.size+1+1+1=q at *;have D:Hid (PS ts aL n cap q 0 ((0:Nat):Int) I):=zz ⟨M,a1,hn⟩;have o:Hid (FarB q w.heap.size w I):=zz (Far.of L)
 have aa:w.heap.size+1+1<q:=by omega
 have a6:I.heap.size=q+1:=by omega
 clear hq a5 M a1 L
 cases r with
 | bad l_ c_=>
  refine (of1_any hr _ D.out).mono ?_;rintro _ w2 ⟨rfl,z,M⟩;replace d:=qB d z;replace m:=qB m z;replace g:=qB g z;replace o:=qF o z
  go_wp2_with (fail)
  refine leaves_cons (f:=127) (args:=#[.pointer (some ⟨w.heap.size,0,none⟩),.pointer (some ⟨w.heap.size+1,0,none⟩),.pointer (some ⟨w.heap.size+1+1,0,none⟩)]) (by simp) (by simp [go_sem]) ?_;refine (caught_fault w2 l_ c_ (by omega) (by omega) d.out m.out g.out).mono ?_;rintro e u N ⟨rfl,hu,a0,C,g1,G⟩
  show Leaves _ _ _ _ [] (settle u) N
  rw [hu];have O:=C.cell (j:=0) rfl;have P:=C.cell (j:=1) rfl;have Q:=C.cell (j:=2) rfl;have R:=C.cell (j:=3) rfl;have T:=C.cell (j:=4) rfl;have U:=C.cell (j:=5) rfl;have V:=g1.cell (j:=0) rfl;have W:=G.cell (j:=0) rfl;have X:=G.cell (j:=1) rfl;have Y:=G.cell (j:=2) rfl;refine ⟨_,?_,rfl,?_⟩
  · (clear o d m g H C g1 G a0;simp [results,Tryz.results93,go_sem,O,P,Q,R,T,U,V,W,X,Y])
  · exact Far.toB (Far.trans (Far.mono o.out (fun b e=>by rcases e with e | e <;> omega)) (Far.mono a0 (fun b e=>by rcases e with e | e | e <;> omega))) (Nat.le_refl _)
 | ok x j=>
  refine (of1_any hr _ D.out).mono ?_;rintro _ w2 ⟨Z,mx,cx,rfl,z,hp,hm⟩;replace d:=qB d z;replace m:=qB m z;replace g:=qB g z;replace o:=qF o z;have a6:=z.size;replace D:=zz hp;have t:=zz hm;clear z hp hm;simp only [exV];have E:=zz D.out.bo;clear D;have J:=kc6 d
  go_wp2_with (fail)
  clear J;generalize a:World.setCell _ ⟨w.heap.size,5,none⟩ _=N at *;have ab:=sizeS6 a;replace o:=fN6 o a;replace d:=bS6 d a;replace m:=bF6 m a;replace g:=bF6 g a;replace E:=bF6 E a;replace t:=mS6 t a;clear a;have J:=kc6 d;have A:=kc3 E;refine wp_nopanic ?_;refine wp_region_held_drew (S:=fun w'=>Far (fun b=>b=w.heap.size∨b=w.heap.size+1∨b=w.heap.size+1+1) (N) w') (by kernel_rfl) (Far.of (below_drew _)) (fun a2=>?_);refine takeA 1 (v:=?_) rfl ?_ ?_;rotate_left
  · (intro w B;replace A:=Far.c3z A B (by intro e;rcases e with e | e | e <;> omega);go_simp;try rfl)
  (try simp only [pu]);refine takeA 2 (v:=?_) rfl ?_ ?_;rotate_left
  · (intro w B;replace A:=Far.c3z A B (by intro e;rcases e with e | e | e <;> omega);go_simp;try rfl)
  (try simp only [pu]);refine takeA 3 (v:=?_) rfl ?_ ?_;rotate_left
  · (intro w B;replace A:=Far.c3z A B (by intro e;rcases e with e | e | e <;> omega);go_simp;try rfl)
  (try simp only [pu]);refine takeA 4 (v:=?_) rfl ?_ ?_;rotate_left
  · (intro w B;replace A:=Far.c3z A B (by intro e;rcases e with e | e | e <;> omega);go_simp;try rfl)
  (try simp only [pu]);refine takeA 5 (v:=?_) rfl ?_ ?_;rotate_left
  · (intro w B;replace A:=Far.c3z A B (by intro e;rcases e with e | e | e <;> omega);go_simp;try rfl)
  (try simp only [pu]);refine callA 0 rfl fun K y=>?_;go_simp;refine y.out _ _ ?_ (fun a8=>?_);· exact a2
  clear y K;refine callA 6 rfl fun K y=>?_;go_simp;refine y.out _ _ ?_ (fun a3=>?_);· exact (by refine Far.trans ?_ (Far.of (below_drew _));(iterate 6 (refine Far.setCell (p:=⟨w.heap.size,_,none⟩) ?_ (.inl rfl) _));exact Far.refl _ _)
  clear y K;clear J A;generalize a:World.setCell _ ⟨w.heap.size,5,none⟩ _=a7 at *;replace o:=fN6 o a;replace d:=bS6 d a;replace m:=bF6 m a;replace g:=bF6 g a;replace t:=mS6 t a;clear a;generalize a:(a7.drew)=w4 at *;replace o:=fD o a;replace d:=bD d a;replace m:=bD m a;replace g:=bD g a;replace t:=mD t a;clear a;have nc:=kc1 m;refine callA 7 rfl fun K y=>?_;go_simp;refine y.out _ _ ?_ (fun a4=>?_);· exact Far.setCell (p:=⟨w.heap.size+1,0,none⟩) a3 (.inr (.inl rfl)) _
  clear y K;clear nc;generalize a:(w4.setCell ⟨(w.heap.size+1),0,none⟩ (.int .i64 (j:Int)))=w5 at *;replace o:=fN1 o a;replace d:=bF1 d a;replace m:=s1_0 m a;replace g:=bF1 g a;replace t:=mS1 t a;clear a;have fc:=kc3 g;refine callA 8 rfl fun K y=>?_;go_simp;refine y.out _ _ ?_ (fun a9=>?_);· exact Far.setCell (p:=⟨w.heap.size+1+1,2,none⟩) (Far.setCell (p:=⟨w.heap.size+1+1,1,none⟩) (Far.setCell (p:=⟨w.heap.size+1+1,0,none⟩) a4 (.inr (.inr rfl)) _) (.inr (.inr rfl)) _) (.inr (.inr rfl)) _
  clear y K;refine wpAnyH_done (by kernel_rfl) ?_ _;clear fc;generalize a:(((w5.setCell ⟨(w.heap.size+1+1),0,none⟩ (.int .i64 0)).setCell ⟨(w.heap.size+1+1),1,none⟩ (.int .i64 0)).setCell ⟨(w.heap.size+1+1),2,none⟩ (.int .i64 0))=w6 at *;replace o:=fN3 o a;replace d:=bF3 d a;replace m:=bF3 m a;replace g:=bS3 g a;replace t:=mS3 t a;clear a
  show Exit.then _ _ Exit.normal _ _
  go_wp2_with (fail)
  refine leaves_cons (f:=127) (args:=#[.pointer (some ⟨w.heap.size,0,none⟩),.pointer (some ⟨w.heap.size+1,0,none⟩),.pointer (some ⟨w.heap.size+1+1,0,none⟩)]) (by simp) (by simp [go_sem]) ?_;refine (caught_none _).mono ?_;rintro e u w9 ⟨rfl,rfl,rfl⟩;have O:=d.out.cell (j:=0) rfl;have P:=d.out.cell (j:=1) rfl;have Q:=d.out.cell (j:=2) rfl;have R:=d.out.cell (j:=3) rfl;have T:=d.out.cell (j:=4) rfl;have U:=d.out.cell (j:=5) rfl;have V:=m.out.cell (j:=0) rfl;have W:=g.out.cell (j:=0) rfl;have X:=g.out.cell (j:=1) rfl;have Y:=g.out.cell (j:=2) rfl;refine ⟨.tuple #[exV x Z mx cx,.int .i64 (j:Int),.agg #[.int .i64 0,.int .i64 0,.int .i64 0]],?_,Z,mx,cx,rfl,?_,memNw t.out (by omega)⟩
  · (clear o d m g E t H;simp [results,Tryz.results93,go_sem,exV,O,P,Q,R,T,U,V,W,X,Y])
  · exact Far.toB (Far.mono o.out (fun b e=>by rcases e with e | e <;> omega)) (Nat.le_refl _)
theorem run_of_pos {F:Nat} {k:Nat} {r:Rd1} (w:World) (h:MemW w (.s 5 (tkRows ts)) (.slice aL n cap)) (hn:n≤1048576) (hr:readE ts F .expr k 0=some r):
  Calls Tryz.prog 93 #[.slice aL n cap,.int .i64 (k:Int),.func (.func 96) #[] #[]] w (RunAns r w):=by
 have H:=zz h
 have hE:∀ args w,Sem.run Tryz.prog (callFunc 96 args) w=.ok (.enter 96 args) w:=fun _ _=>by kernel_rfl
 clear h
 go_enter_defers Tryz.func93,Tryz.ntmps93
 go_wp2_with (fail)
 have a5:((((w.alloc (.cells #[.int .i64 0,.string ⟨#[]⟩,.int .i64 0,.slice none 0 0,.int .i64 0,.int .i64 0] 60)).alloc (.cells #[.int .i64 0] 3)).alloc (.cells #[.int .i64 0,.int .i64 0,.int .i64 0] 31)).alloc (.cells #[.slice aL n cap,.int .i64 (k:Int),.int .i64 0] 162)).heap.size=w.heap.size+1+1+1+1:=by simp only [World.size_alloc]
 have d:Hid (Bo ((((w.alloc (.cells #[.int .i64 0,.string ⟨#[]⟩,.int .i64 0,.slice none 0 0,.int .i64 0,.int .i64 0] 60)).alloc (.cells #[.int .i64 0] 3)).alloc (.cells #[.int .i64 0,.int .i64 0,.int .i64 0] 31)).alloc (.cells #[.slice aL n cap,.int .i64 (k:Int),.int .i64 0] 162)) w.heap.size 60 #[.int .i64 0,.string ⟨#[]⟩,.int .i64 0,.slice none 0 0,.int .i64 0,.int .i64 0]):=zz ((((Bo.new w 60 #[.int .i64 0,.string ⟨#[]⟩,.int .i64 0,.slice none 0 0,.int .i64 0,.int .i64 0]).alloc _).alloc _).alloc _)
 have i:Hid (Bo ((((w.alloc (.cells #[.int .i64 0,.string ⟨#[]⟩,.int .i64 0,.slice none 0 0,.int .i64 0,.int .i64 0] 60)).alloc (.cells #[.int .i64 0] 3)).alloc (.cells #[.int .i64 0,.int .i64 0,.int .i64 0] 31)).alloc (.cells #[.slice aL n cap,.int .i64 (k:Int),.int .i64 0] 162)) (w.heap.size+1) 3 #[.int .i64 0]):=zz ((((by have h:=Bo.new (w.alloc (.cells #[.int .i64 0,.string ⟨#[]⟩,.int .i64 0,.slice none 0 0,.int .i64 0,.int .i64 0] 60)) 3 #[.int .i64 0];rw [World.size_alloc] at h;exact h:Bo ((w.alloc (.cells #[.int .i64 0,.string ⟨#[]⟩,.int .i64 0,.slice none 0 0,.int .i64 0,.int .i64 0] 60)).alloc (.cells #[.int .i64 0] 3)) (w.heap.size+1) 3 #[.int .i64 0])).alloc _).alloc _)
 have g:Hid (Bo ((((w.alloc (.cells #[.int .i64 0,.string ⟨#[]⟩,.int .i64 0,.slice none 0 0,.int .i64 0,.int .i64 0] 60)).alloc (.cells #[.int .i64 0] 3)).alloc (.cells #[.int .i64 0,.int .i64 0,.int .i64 0] 31)).alloc (.cells #[.slice aL n cap,.int .i64 (k:Int),.int .i64 0] 162)) (w.heap.size+1+1) 31 #[.int .i64 0,.int .i64 0,.int .i64 0]):=zz (((by have h:=Bo.new ((w.alloc (.cells #[.int .i64 0,.string ⟨#[]⟩,.int .i64 0,.slice none 0 0,.int .i64 0,.int .i64 0] 60)).alloc (.cells #[.int .i64 0] 3)) 31 #[.int .i64 0,.int .i64 0,.int .i64 0];rw [World.size_alloc,World.size_alloc] at h;exact h:Bo (((w.alloc (.cells #[.int .i64 0,.string ⟨#[]⟩,.int .i64 0,.slice none 0 0,.int .i64 0,.int .i64 0] 60)).alloc (.cells #[.int .i64 0] 3)).alloc (.cells #[.int .i64 0,.int .i64 0,.int .i64 0] 31)) (w.heap.size+1+1) 31 #[.int .i64 0,.int .i64 0,.int .i64 0])).alloc _)
 have L:Bo ((((w.alloc (.cells #[.int .i64 0,.string ⟨#[]⟩,.int .i64 0,.slice none 0 0,.int .i64 0,.int .i64 0] 60)).alloc (.cells #[.int .i64 0] 3)).alloc (.cells #[.int .i64 0,.int .i64 0,.int .i64 0] 31)).alloc (.cells #[.slice aL n cap,.int .i64 (k:Int),.int .i64 0] 162)) (w.heap.size+1+1+1) 162 #[.slice aL n cap,.int .i64 (k:Int),.int .i64 0]:=by have h:=Bo.new (((w.alloc (.cells #[.int .i64 0,.string ⟨#[]⟩,.int .i64 0,.slice none 0 0,.int .i64 0,.int .i64 0] 60)).alloc (.cells #[.int .i64 0] 3)).alloc (.cells #[.int .i64 0,.int .i64 0,.int .i64 0] 31)) 162 #[.slice aL n cap,.int .i64 (k:Int),.int .i64 0];rw [World.size_alloc,World.size_alloc,World.size_alloc] at h;exact h
 have J:Below w.heap.size w ((((w.alloc (.cells #[.int .i64 0,.string ⟨#[]⟩,.int .i64 0,.slice none 0 0,.int .i64 0,.int .i64 0] 60)).alloc (.cells #[.int .i64 0] 3)).alloc (.cells #[.int .i64 0,.int .i64 0,.int .i64 0] 31)).alloc (.cells #[.slice aL n cap,.int .i64 (k:Int),.int .i64 0] 162)):=(((below_new w _).alloc (by simp) _).alloc (by simp only [World.size_alloc];omega) _).alloc (by simp only [World.size_alloc];omega) _;generalize ((((w.alloc (.cells #[.int .i64 0,.string ⟨#[]⟩,.int .i64 0,.slice none 0 0,.int .i64 0,.int .i64 0] 60)).alloc (.cells #[.int .i64 0] 3)).alloc (.cells #[.int .i64 0,.int .i64 0,.int .i64 0] 31)).alloc (.cells #[.slice aL n cap,.int .i64 (k:Int),.int .i64 0] 162))=G at *;have a1:Mem (· <w.heap.size+1+1+1) G (.s 5 (tkRows ts)) (.slice aL n cap):=(Mem.keep H.out (Nat.le_refl _) J).le (by omega);generalize hq:w.heap.size+1+1+1=q at *;have C:Hid (PS ts aL n cap q k ((0:Nat):Int) G):=zz ⟨L,a1,hn⟩;have m:Hid (FarB q w.heap.size w G):=zz (Far.of J)
 have aa:w.heap.size+1+1<q:=by omega
 have a6:G.heap.size=q+1:=by omega
 clear hq a5 L a1 J
 cases r with
 | bad l_ c_=>
  refine (of1_any hr _ C.out).mono ?_;rintro _ w2 ⟨rfl,y,L⟩;replace d:=qB d y;replace i:=qB i y;replace g:=qB g y;replace m:=qF m y
  go_wp2_with (fail)
  refine leaves_cons (f:=127) (args:=#[.pointer (some ⟨w.heap.size,0,none⟩),.pointer (some ⟨w.heap.size+1,0,none⟩),.pointer (some ⟨w.heap.size+1+1,0,none⟩)]) (by simp) (by simp [go_sem]) ?_;refine (caught_fault w2 l_ c_ (by omega) (by omega) d.out i.out g.out).mono ?_;rintro e u M ⟨rfl,hu,a0,B,g1,E⟩
  show Leaves _ _ _ _ [] (settle u) M
  rw [hu];have N:=B.cell (j:=0) rfl;have O:=B.cell (j:=1) rfl;have P:=B.cell (j:=2) rfl;have Q:=B.cell (j:=3) rfl;have R:=B.cell (j:=4) rfl;have T:=B.cell (j:=5) rfl;have U:=g1.cell (j:=0) rfl;have V:=E.cell (j:=0) rfl;have W:=E.cell (j:=1) rfl;have X:=E.cell (j:=2) rfl;refine ⟨_,?_,rfl,?_⟩
  · (clear m d i g H B g1 E a0;simp [results,Tryz.results93,go_sem,N,O,P,Q,R,T,U,V,W,X])
  · exact Far.toB (Far.trans (Far.mono m.out (fun b e=>by rcases e with e | e <;> omega)) (Far.mono a0 (fun b e=>by rcases e with e | e | e <;> omega))) (Nat.le_refl _)
 | ok x j=>
  refine (of1_any hr _ C.out).mono ?_;rintro _ w2 ⟨Y,mx,Z,rfl,y,hp,hm⟩;replace d:=qB d y;replace i:=qB i y;replace g:=qB g y;replace m:=qF m y;have a6:=y.size;replace C:=zz hp;have o:=zz hm;clear y hp hm;simp only [exV];have D:=zz C.out.bo;clear C;have I:=kc6 d
  go_wp2_with (fail)
  clear I;generalize a:World.setCell _ ⟨w.heap.size,5,none⟩ _=M at *;have ab:=sizeS6 a;replace m:=fN6 m a;replace d:=bS6 d a;replace i:=bF6 i a;replace g:=bF6 g a;replace D:=bF6 D a;replace o:=mS6 o a;clear a;have I:=kc6 d;have z:=kc3 D;refine wp_nopanic ?_;refine wp_region_held_drew (S:=fun w'=>Far (fun b=>b=w.heap.size∨b=w.heap.size+1∨b=w.heap.size+1+1) (M) w') (by kernel_rfl) (Far.of (below_drew _)) (fun a2=>?_);refine takeA 1 (v:=?_) rfl ?_ ?_;rotate_left
  · (intro w A;replace z:=Far.c3z z A (by intro e;rcases e with e | e | e <;> omega);go_simp;try rfl)
  (try simp only [pu]);refine takeA 2 (v:=?_) rfl ?_ ?_;rotate_left
  · (intro w A;replace z:=Far.c3z z A (by intro e;rcases e with e | e | e <;> omega);go_simp;try rfl)
  (try simp only [pu]);refine takeA 3 (v:=?_) rfl ?_ ?_;rotate_left
  · (intro w A;replace z:=Far.c3z z A (by intro e;rcases e with e | e | e <;> omega);go_simp;try rfl)
  (try simp only [pu]);refine takeA 4 (v:=?_) rfl ?_ ?_;rotate_left
  · (intro w A;replace z:=Far.c3z z A (by intro e;rcases e with e | e | e <;> omega);go_simp;try rfl)
  (try simp only [pu]);refine takeA 5 (v:=?_) rfl ?_ ?_;rotate_left
  · (intro w A;replace z:=Far.c3z z A (by intro e;rcases e with e | e | e <;> omega);go_simp;try rfl)
  (try simp only [pu]);refine callA 0 rfl fun K t=>?_;go_simp;refine t.out _ _ ?_ (fun a8=>?_);· exact a2
  clear t K;refine callA 6 rfl fun K t=>?_;go_simp;refine t.out _ _ ?_ (fun a3=>?_);· exact (by refine Far.trans ?_ (Far.of (below_drew _));(iterate 6 (refine Far.setCell (p:=⟨w.heap.size,_,none⟩) ?_ (.inl rfl) _));exact Far.refl _ _)
  clear t K;clear I z;generalize a:World.setCell _ ⟨w.heap.size,5,none⟩ _=a7 at *;replace m:=fN6 m a;replace d:=bS6 d a;replace i:=bF6 i a;replace g:=bF6 g a;replace o:=mS6 o a;clear a;generalize a:(a7.drew)=w4 at *;replace m:=fD m a;replace d:=bD d a;replace i:=bD i a;replace g:=bD g a;replace o:=mD o a;clear a;have nc:=kc1 i;refine callA 7 rfl fun K t=>?_;go_simp;refine t.out _ _ ?_ (fun a4=>?_);· exact Far.setCell (p:=⟨w.heap.size+1,0,none⟩) a3 (.inr (.inl rfl)) _
  clear t K;clear nc;generalize a:(w4.setCell ⟨(w.heap.size+1),0,none⟩ (.int .i64 (j:Int)))=w5 at *;replace m:=fN1 m a;replace d:=bF1 d a;replace i:=s1_0 i a;replace g:=bF1 g a;replace o:=mS1 o a;clear a;have fc:=kc3 g;refine callA 8 rfl fun K t=>?_;go_simp;refine t.out _ _ ?_ (fun a9=>?_);· exact Far.setCell (p:=⟨w.heap.size+1+1,2,none⟩) (Far.setCell (p:=⟨w.heap.size+1+1,1,none⟩) (Far.setCell (p:=⟨w.heap.size+1+1,0,none⟩) a4 (.inr (.inr rfl)) _) (.inr (.inr rfl)) _) (.inr (.inr rfl)) _
  clear t K;refine wpAnyH_done (by kernel_rfl) ?_ _;clear fc;generalize a:(((w5.setCell ⟨(w.heap.size+1+1),0,none⟩ (.int .i64 0)).setCell ⟨(w.heap.size+1+1),1,none⟩ (.int .i64 0)).setCell ⟨(w.heap.size+1+1),2,none⟩ (.int .i64 0))=w6 at *;replace m:=fN3 m a;replace d:=bF3 d a;replace i:=bF3 i a;replace g:=bS3 g a;replace o:=mS3 o a;clear a
  show Exit.then _ _ Exit.normal _ _
  go_wp2_with (fail)
  refine leaves_cons (f:=127) (args:=#[.pointer (some ⟨w.heap.size,0,none⟩),.pointer (some ⟨w.heap.size+1,0,none⟩),.pointer (some ⟨w.heap.size+1+1,0,none⟩)]) (by simp) (by simp [go_sem]) ?_;refine (caught_none _).mono ?_;rintro e u w9 ⟨rfl,rfl,rfl⟩;have N:=d.out.cell (j:=0) rfl;have O:=d.out.cell (j:=1) rfl;have P:=d.out.cell (j:=2) rfl;have Q:=d.out.cell (j:=3) rfl;have R:=d.out.cell (j:=4) rfl;have T:=d.out.cell (j:=5) rfl;have U:=i.out.cell (j:=0) rfl;have V:=g.out.cell (j:=0) rfl;have W:=g.out.cell (j:=1) rfl;have X:=g.out.cell (j:=2) rfl;refine ⟨.tuple #[exV x Y mx Z,.int .i64 (j:Int),.agg #[.int .i64 0,.int .i64 0,.int .i64 0]],?_,Y,mx,Z,rfl,?_,memNw o.out (by omega)⟩
  · (clear m d i g D o H;simp [results,Tryz.results93,go_sem,exV,N,O,P,Q,R,T,U,V,W,X])
  · exact Far.toB (Far.mono m.out (fun b e=>by rcases e with e | e <;> omega)) (Nat.le_refl _)
theorem rof_any {F:Nat} {i:Int} {r:Rd1} (w:World) (h:MemW w (.s 5 (tkRows ts)) (.slice aL n cap)) (b:n≤1048576) (a:readE ts F .expr i.toNat 0=some r):
  Calls Tryz.prog 93 #[.slice aL n cap,.int .i64 i,.func (.func 96) #[] #[]] w (RunAns r w):=by
 by_cases d:i<0
 · (rw [Int.toNat_of_nonpos (by omega)] at a;exact run_of_neg d w h b a)
 · (obtain ⟨k,rfl⟩:=Int.eq_ofNat_of_zero_le (show 0≤i by omega);exact run_of_pos w h b a)
theorem of_any {F:Nat} {i:Int} {r:Rd1} (w:World) (h:MemW w (.s 5 (tkRows ts)) (.slice aL n cap)) (P:n≤1048576) (Q:readE ts F .expr i.toNat 0=some r):
  Calls Tryz.prog 59 #[.slice aL n cap,.int .i64 i] w (RunAns r w):=by
 have H:=zz h;clear h;go_enter Tryz.func59,Tryz.ntmps59
 go_wp2_with (fail)
 have T:((w.alloc (.cells #[.int .i64 0,.string ⟨#[]⟩,.int .i64 0,.slice none 0 0,.int .i64 0,.int .i64 0] 60)).alloc (.cells #[.int .i64 0,.int .i64 0,.int .i64 0] 31)).heap.size=w.heap.size+1+1:=by simp only [World.size_alloc]
 have d:Hid (Bo ((w.alloc (.cells #[.int .i64 0,.string ⟨#[]⟩,.int .i64 0,.slice none 0 0,.int .i64 0,.int .i64 0] 60)).alloc (.cells #[.int .i64 0,.int .i64 0,.int .i64 0] 31)) w.heap.size 60 #[.int .i64 0,.string ⟨#[]⟩,.int .i64 0,.slice none 0 0,.int .i64 0,.int .i64 0]):=zz ((Bo.new w 60 #[.int .i64 0,.string ⟨#[]⟩,.int .i64 0,.slice none 0 0,.int .i64 0,.int .i64 0]).alloc _)
 have e:Hid (Bo ((w.alloc (.cells #[.int .i64 0,.string ⟨#[]⟩,.int .i64 0,.slice none 0 0,.int .i64 0,.int .i64 0] 60)).alloc (.cells #[.int .i64 0,.int .i64 0,.int .i64 0] 31)) (w.heap.size+1) 31 #[.int .i64 0,.int .i64 0,.int .i64 0]):=zz (by have h:=Bo.new (w.alloc (.cells #[.int .i64 0,.string ⟨#[]⟩,.int .i64 0,.slice none 0 0,.int .i64 0,.int .i64 0] 60)) 31 #[.int .i64 0,.int .i64 0,.int .i64 0];rw [World.size_alloc] at h;exact h)
 have C:Below w.heap.size w ((w.alloc (.cells #[.int .i64 0,.string ⟨#[]⟩,.int .i64 0,.slice none 0 0,.int .i64 0,.int .i64 0] 60)).alloc (.cells #[.int .i64 0,.int .i64 0,.int .i64 0] 31)):=((below_new w _).alloc (by simp) _);have z:=zz (H.out.keep C);have y:=zz C;clear C;generalize ((w.alloc (.cells #[.int .i64 0,.string ⟨#[]⟩,.int .i64 0,.slice none 0 0,.int .i64 0,.int .i64 0] 60)).alloc (.cells #[.int .i64 0,.int .i64 0,.int .i64 0] 31))=R at *;refine (rof_any R z.out P Q).mono ?_
 cases r with
 | bad l_ c_=>
  rintro _ u ⟨rfl,t⟩;replace d:=kB d t;replace e:=kB e t;have f:Hid (Far (fun b=>w.heap.size≤b) w u):=zz (Far.of (y.out.trans (t.mono (by omega))));clear t;have A:=kc6 d;have B:=kc3 e
  go_wp2_with (fail)
  clear A B;replace d:=zz (d.out.set 0 (.int .i64 0));replace e:=zz (e.out.far 0 (.int .i64 0) (g:=w.heap.size) (by omega));replace f:=zz (f.out.setCell (p:=⟨w.heap.size,0,none⟩) (Nat.le_refl w.heap.size) (.int .i64 0));replace d:=zz (d.out.set 1 (.string ⟨#[]⟩));replace e:=zz (e.out.far 1 (.string ⟨#[]⟩) (g:=w.heap.size) (by omega));replace f:=zz (f.out.setCell (p:=⟨w.heap.size,1,none⟩) (Nat.le_refl w.heap.size) (.string ⟨#[]⟩));replace d:=zz (d.out.set 2 (.int .i64 0));replace e:=zz (e.out.far 2 (.int .i64 0) (g:=w.heap.size) (by omega));replace f:=zz (f.out.setCell (p:=⟨w.heap.size,2,none⟩) (Nat.le_refl w.heap.size) (.int .i64 0));replace d:=zz (d.out.set 3 (.slice none 0 0));replace e:=zz (e.out.far 3 (.slice none 0 0) (g:=w.heap.size) (by omega));replace f:=zz (f.out.setCell (p:=⟨w.heap.size,3,none⟩) (Nat.le_refl w.heap.size) (.slice none 0 0));replace d:=zz (d.out.set 4 (.int .i64 0));replace e:=zz (e.out.far 4 (.int .i64 0) (g:=w.heap.size) (by omega));replace f:=zz (f.out.setCell (p:=⟨w.heap.size,4,none⟩) (Nat.le_refl w.heap.size) (.int .i64 0));replace d:=zz (d.out.set 5 (.int .i64 0));replace e:=zz (e.out.far 5 (.int .i64 0) (g:=w.heap.size) (by omega));replace f:=zz (f.out.setCell (p:=⟨w.heap.size,5,none⟩) (Nat.le_refl w.heap.size) (.int .i64 0));replace e:=zz (e.out.set 0 (.int .i64 1));replace d:=zz (d.out.far 0 (.int .i64 1) (g:=(w.heap.size+1)) (by omega));replace f:=zz (f.out.setCell (p:=⟨(w.heap.size+1),0,none⟩) (Nat.le_succ w.heap.size) (.int .i64 1));replace e:=zz (e.out.set 1 (.int .i64 l_));replace d:=zz (d.out.far 1 (.int .i64 l_) (g:=(w.heap.size+1)) (by omega));replace f:=zz (f.out.setCell (p:=⟨(w.heap.size+1),1,none⟩) (Nat.le_succ w.heap.size) (.int .i64 l_));replace e:=zz (e.out.set 2 (.int .i64 c_));replace d:=zz (d.out.far 2 (.int .i64 c_) (g:=(w.heap.size+1)) (by omega));replace f:=zz (f.out.setCell (p:=⟨(w.heap.size+1),2,none⟩) (Nat.le_succ w.heap.size) (.int .i64 c_));replace d:Hid (Bo (((((((((u.setCell ⟨w.heap.size,0,none⟩ (.int .i64 0)).setCell ⟨w.heap.size,1,none⟩ (.string ⟨#[]⟩)).setCell ⟨w.heap.size,2,none⟩ (.int .i64 0)).setCell ⟨w.heap.size,3,none⟩ (.slice none 0 0)).setCell ⟨w.heap.size,4,none⟩ (.int .i64 0)).setCell ⟨w.heap.size,5,none⟩ (.int .i64 0)).setCell ⟨(w.heap.size+1),0,none⟩ (.int .i64 1)).setCell ⟨(w.heap.size+1),1,none⟩ (.int .i64 l_)).setCell ⟨(w.heap.size+1),2,none⟩ (.int .i64 c_)) w.heap.size 60 #[.int .i64 0,.string ⟨#[]⟩,.int .i64 0,.slice none 0 0,.int .i64 0,.int .i64 0]):=d;replace e:Hid (Bo (((((((((u.setCell ⟨w.heap.size,0,none⟩ (.int .i64 0)).setCell ⟨w.heap.size,1,none⟩ (.string ⟨#[]⟩)).setCell ⟨w.heap.size,2,none⟩ (.int .i64 0)).setCell ⟨w.heap.size,3,none⟩ (.slice none 0 0)).setCell ⟨w.heap.size,4,none⟩ (.int .i64 0)).setCell ⟨w.heap.size,5,none⟩ (.int .i64 0)).setCell ⟨(w.heap.size+1),0,none⟩ (.int .i64 1)).setCell ⟨(w.heap.size+1),1,none⟩ (.int .i64 l_)).setCell ⟨(w.heap.size+1),2,none⟩ (.int .i64 c_)) (w.heap.size+1) 31 #[.int .i64 1,.int .i64 l_,.int .i64 c_]):=e;generalize (((((((((u.setCell ⟨w.heap.size,0,none⟩ (.int .i64 0)).setCell ⟨w.heap.size,1,none⟩ (.string ⟨#[]⟩)).setCell ⟨w.heap.size,2,none⟩ (.int .i64 0)).setCell ⟨w.heap.size,3,none⟩ (.slice none 0 0)).setCell ⟨w.heap.size,4,none⟩ (.int .i64 0)).setCell ⟨w.heap.size,5,none⟩ (.int .i64 0)).setCell ⟨(w.heap.size+1),0,none⟩ (.int .i64 1)).setCell ⟨(w.heap.size+1),1,none⟩ (.int .i64 l_)).setCell ⟨(w.heap.size+1),2,none⟩ (.int .i64 c_))=S at *;have D:=d.out.cell (j:=0) rfl;have E:=d.out.cell (j:=1) rfl;have G:=d.out.cell (j:=2) rfl;have I:=d.out.cell (j:=3) rfl;have J:=d.out.cell (j:=4) rfl;have K:=d.out.cell (j:=5) rfl;have L:=e.out.cell (j:=0) rfl;have M:=e.out.cell (j:=1) rfl;have N:=e.out.cell (j:=2) rfl;refine bodyPost_ret (v:=.tuple #[.agg #[.int .i64 0,.string ⟨#[]⟩,.int .i64 0,.slice none 0 0,.int .i64 0,.int .i64 0],.int .i64 0,.agg #[.int .i64 1,.int .i64 l_,.int .i64 c_]]) (by clear f d e H z y;simp [results,Tryz.results59,go_sem,D,E,G,I,J,K,L,M,N]) rfl ?_
  exact ⟨rfl,Far.toB f.out (Nat.le_refl _)⟩
 | ok x j=>
  rintro _ u ⟨a,m,c,rfl,t,O⟩;replace d:=kB d t;replace e:=kB e t;have f:Hid (Far (fun b=>w.heap.size≤b) w u):=zz (Far.of (y.out.trans (t.mono (by omega))));clear t;have o:=zz O;clear O;simp only [exV];have A:=kc6 d;have B:=kc3 e
  go_wp2_with (fail)
  clear A B;replace d:=zz (d.out.set 0 (.int .i64 x.kind));replace e:=zz (e.out.far 0 (.int .i64 x.kind) (g:=w.heap.size) (by omega));replace f:=zz (f.out.setCell (p:=⟨w.heap.size,0,none⟩) (Nat.le_refl w.heap.size) (.int .i64 x.kind));replace o:=zz (memSet o.out (g:=w.heap.size) (by omega) 0 (.int .i64 x.kind));replace d:=zz (d.out.set 1 (.string x.name));replace e:=zz (e.out.far 1 (.string x.name) (g:=w.heap.size) (by omega));replace f:=zz (f.out.setCell (p:=⟨w.heap.size,1,none⟩) (Nat.le_refl w.heap.size) (.string x.name));replace o:=zz (memSet o.out (g:=w.heap.size) (by omega) 1 (.string x.name));replace d:=zz (d.out.set 2 (.int .i64 x.n));replace e:=zz (e.out.far 2 (.int .i64 x.n) (g:=w.heap.size) (by omega));replace f:=zz (f.out.setCell (p:=⟨w.heap.size,2,none⟩) (Nat.le_refl w.heap.size) (.int .i64 x.n));replace o:=zz (memSet o.out (g:=w.heap.size) (by omega) 2 (.int .i64 x.n));replace d:=zz (d.out.set 3 (.slice a m c));replace e:=zz (e.out.far 3 (.slice a m c) (g:=w.heap.size) (by omega));replace f:=zz (f.out.setCell (p:=⟨w.heap.size,3,none⟩) (Nat.le_refl w.heap.size) (.slice a m c));replace o:=zz (memSet o.out (g:=w.heap.size) (by omega) 3 (.slice a m c));replace d:=zz (d.out.set 4 (.int .i64 x.line));replace e:=zz (e.out.far 4 (.int .i64 x.line) (g:=w.heap.size) (by omega));replace f:=zz (f.out.setCell (p:=⟨w.heap.size,4,none⟩) (Nat.le_refl w.heap.size) (.int .i64 x.line));replace o:=zz (memSet o.out (g:=w.heap.size) (by omega) 4 (.int .i64 x.line));replace d:=zz (d.out.set 5 (.int .i64 x.col));replace e:=zz (e.out.far 5 (.int .i64 x.col) (g:=w.heap.size) (by omega));replace f:=zz (f.out.setCell (p:=⟨w.heap.size,5,none⟩) (Nat.le_refl w.heap.size) (.int .i64 x.col));replace o:=zz (memSet o.out (g:=w.heap.size) (by omega) 5 (.int .i64 x.col));replace e:=zz (e.out.set 0 (.int .i64 0));replace d:=zz (d.out.far 0 (.int .i64 0) (g:=(w.heap.size+1)) (by omega));replace f:=zz (f.out.setCell (p:=⟨(w.heap.size+1),0,none⟩) (Nat.le_succ w.heap.size) (.int .i64 0));replace o:=zz (memSet o.out (g:=(w.heap.size+1)) (by omega) 0 (.int .i64 0));replace e:=zz (e.out.set 1 (.int .i64 0));replace d:=zz (d.out.far 1 (.int .i64 0) (g:=(w.heap.size+1)) (by omega));replace f:=zz (f.out.setCell (p:=⟨(w.heap.size+1),1,none⟩) (Nat.le_succ w.heap.size) (.int .i64 0));replace o:=zz (memSet o.out (g:=(w.heap.size+1)) (by omega) 1 (.int .i64 0));replace e:=zz (e.out.set 2 (.int .i64 0));replace d:=zz (d.out.far 2 (.int .i64 0) (g:=(w.heap.size+1)) (by omega));replace f:=zz (f.out.setCell (p:=⟨(w.heap.size+1),2,none⟩) (Nat.le_succ w.heap.size) (.int .i64 0));replace o:=zz (memSet o.out (g:=(w.heap.size+1)) (by omega) 2 (.int .i64 0));replace d:Hid (Bo (((((((((u.setCell ⟨w.heap.size,0,none⟩ (.int .i64 x.kind)).setCell ⟨w.heap.size,1,none⟩ (.string x.name)).setCell ⟨w.heap.size,2,none⟩ (.int .i64 x.n)).setCell ⟨w.heap.size,3,none⟩ (.slice a m c)).setCell ⟨w.heap.size,4,none⟩ (.int .i64 x.line)).setCell ⟨w.heap.size,5,none⟩ (.int .i64 x.col)).setCell ⟨(w.heap.size+1),0,none⟩ (.int .i64 0)).setCell ⟨(w.heap.size+1),1,none⟩ (.int .i64 0)).setCell ⟨(w.heap.size+1),2,none⟩ (.int .i64 0)) w.heap.size 60 #[.int .i64 x.kind,.string x.name,.int .i64 x.n,.slice a m c,.int .i64 x.line,.int .i64 x.col]):=d;replace e:Hid (Bo (((((((((u.setCell ⟨w.heap.size,0,none⟩ (.int .i64 x.kind)).setCell ⟨w.heap.size,1,none⟩ (.string x.name)).setCell ⟨w.heap.size,2,none⟩ (.int .i64 x.n)).setCell ⟨w.heap.size,3,none⟩ (.slice a m c)).setCell ⟨w.heap.size,4,none⟩ (.int .i64 x.line)).setCell ⟨w.heap.size,5,none⟩ (.int .i64 x.col)).setCell ⟨(w.heap.size+1),0,none⟩ (.int .i64 0)).setCell ⟨(w.heap.size+1),1,none⟩ (.int .i64 0)).setCell ⟨(w.heap.size+1),2,none⟩ (.int .i64 0)) (w.heap.size+1) 31 #[.int .i64 0,.int .i64 0,.int .i64 0]):=e;generalize (((((((((u.setCell ⟨w.heap.size,0,none⟩ (.int .i64 x.kind)).setCell ⟨w.heap.size,1,none⟩ (.string x.name)).setCell ⟨w.heap.size,2,none⟩ (.int .i64 x.n)).setCell ⟨w.heap.size,3,none⟩ (.slice a m c)).setCell ⟨w.heap.size,4,none⟩ (.int .i64 x.line)).setCell ⟨w.heap.size,5,none⟩ (.int .i64 x.col)).setCell ⟨(w.heap.size+1),0,none⟩ (.int .i64 0)).setCell ⟨(w.heap.size+1),1,none⟩ (.int .i64 0)).setCell ⟨(w.heap.size+1),2,none⟩ (.int .i64 0))=S at *
  have D:=d.out.cell (j:=0) rfl;have E:=d.out.cell (j:=1) rfl;have G:=d.out.cell (j:=2) rfl;have I:=d.out.cell (j:=3) rfl;have J:=d.out.cell (j:=4) rfl;have K:=d.out.cell (j:=5) rfl;have L:=e.out.cell (j:=0) rfl;have M:=e.out.cell (j:=1) rfl;have N:=e.out.cell (j:=2) rfl;refine bodyPost_ret (v:=.tuple #[.agg #[.int .i64 x.kind,.string x.name,.int .i64 x.n,.slice a m c,.int .i64 x.line,.int .i64 x.col],.int .i64 (j:Int),.agg #[.int .i64 0,.int .i64 0,.int .i64 0]]) (by clear f d e H z y o;simp [results,Tryz.results59,go_sem,D,E,G,I,J,K,L,M,N]) rfl ?_;exact ⟨_,_,_,rfl,Far.toB f.out (Nat.le_refl _),memNw o.out (by omega)⟩
end
end
end Go.Proofs.YtcoiagfeoonpbaaGreat
