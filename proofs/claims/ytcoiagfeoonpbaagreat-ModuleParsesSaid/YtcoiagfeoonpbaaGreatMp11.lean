/-
 The parser's expr: an Expr. Under what the other reading functions do with less fuel.
-/
import Derived.Test.YtcoiagfeoonpbaaGreatMp10
import Derived.Test.YtcoiagfeoonpbaaGreatMp8
import Derived.Test.YtcoiagfeoonpbaaGreatMp9
set_option maxHeartbeats 20000000
set_option maxRecDepth 100000
namespace Go.Proofs.YtcoiagfeoonpbaaGreat
section
open Go.RowKit
attribute [local go_sem] tk_pos
section
variable {ts:List Tk} {aL:Option Addr} {n cap q:Nat}
theorem expr_succ {f i D:Nat} {r:Rd1} (s:readE ts (f+1) .expr i D=some r) (w:World) (hd:D≤40) (H:AllR ts aL n cap q (f+1)) (A:PS ts aL n cap q i (D:Int) w):
  Calls Tryz.prog 97 #[.pointer (some ⟨q,0,none⟩)] w (Ans ts aL n cap q r D w):=by
 have d:=zz A;have aj:=A.lt;have o:=zz (FarB.refl q w.heap.size w);clear A;rw [readE] at s
 try simp only at s
 go_enter_defers Tryz.func97,Tryz.ntmps97
 refine Code.wp_mono (doorQ_mono _ r D w) ?_
 go_wp2_with (fail)
 generalize g:World.alloc w _=w1;have aq:=sizeA g;replace d:=pA d g;replace o:=fA o g;have p:=nB g (w.heap.size);clear g;refine (now_any _ d.out.bo d.out.mem).mono ?_;rintro _ M ⟨rfl,u⟩;have a:=FarQ.of (q:=q) u;replace p:=qB p a;replace o:=qF o a;have am:=a.size;replace d:=kP d u;clear a u;simp only [tkV]
 go_wp2_with (fail)
 generalize g:World.alloc M _=w3;have au:=sizeA g;replace d:=pA d g;replace o:=fA o g;replace p:=bA p g;have C:=nB g (M.heap.size);clear g;have E:=iq_0_0_0 q w M w3
 rcases a1:isT ts i 5 wLet
 rotate_left
 ·
  simp only [a1,if_true] at s;refine (is_any 5 wLet _ d.out).mono ?_;rintro _ w4 ⟨rfl,u⟩;have a:=FarQ.of (q:=q) u;replace p:=qB p a;replace C:=qB C a;replace o:=qF o a;have ad:=a.size;replace d:=kP d u;clear a u;rw [a1];clear E;have E:=iq_0_0_0 q w M w4
  go_wp2_with (fail)
  by_cases T:D=40
  ·
   rw [if_pos T] at s;cases s;subst T;refine (down_bad _ (by exact d.out)).mono ?_;rintro _ w5 ⟨rfl,u⟩;have a:=FarQ.of (q:=q) u;have I:=(d.out.keep u).any
   go_wp2_with (fail)
   exact ⟨_,_,rfl,rfl,.inl rfl,FarB.out (o.out.farq a),I⟩
  rw [if_neg T] at s;have a6:i<ts.length:=isT_lt a1 (by decide)
  have R:D+1≤40:=by omega
  refine (down_ok _ d.out (by omega) (by omega) (by omega) a6).mono ?_;rintro _ w5 ⟨rfl,a,A⟩;replace p:=qB p a;replace C:=qB C a;replace o:=qF o a;have a9:=a.size;replace d:=zz A;clear a A
  replace d:=zz (by have h:=d.out;rw [show ((D:Int)+1)=((D+1:Nat):Int) by omega] at h;exact h)
  clear E;have F:=kc2 C
  go_wp2_with (fail)
  have a8:letE ts f (i+1) (D+1) (nowT ts i).l (nowT ts i).c=some r:=by unfold letE;exact s
  clear s
  cases r with
  | bad l_ c_=>
   clear F;refine (let_reads a8 _ R H d.out).mono ?_;rintro _ V ⟨rfl,a,I⟩
   go_wp2_with (fail)
   exact ⟨_,_,rfl,rfl,.inr rfl,FarB.out (o.out.farq a),I⟩
  | ok x j=>
   clear F;refine (let_reads a8 _ R H d.out).mono ?_;rintro _ V ⟨ax,mx,cx,rfl,a,A,L⟩;replace p:=qB p a;replace o:=qF o a;replace d:=zz A;have B:=zz L;clear a A L;simp only [exV];have rc:=kc6 p
   go_wp2_with (fail)
   clear rc;generalize g:World.setCell _ ⟨w.heap.size,5,none⟩ _=N;replace d:=pO6 d g;replace o:=fN6 o g;replace p:=bS6 p g;replace B:=mS6 B g;clear g;refine door_up d.out.bo ?_;generalize g:World.setCell N _ _=w8;replace d:=zz (d.out.setDE (k:=((D:Int))) g (wrap_up hd));replace o:=zz (o.out.setQE g);replace p:=bF1 p g;replace B:=mS1 B g;clear g;have fc:=kc6 p;refine ⟨.agg #[.int .i64 x.kind,.string x.name,.int .i64 x.n,.slice ax mx cx,.int .i64 x.line,.int .i64 x.col],(by clear d o p C B;simp [results,Tryz.results97,go_sem,fc]),?_⟩;exact ⟨_,_,_,rfl,o.out.out,d.out,memNw B.out (by omega)⟩
 simp only [a1,Bool.false_eq_true,if_false] at s;refine (is_any 5 wLet _ d.out).mono ?_;rintro _ w4 ⟨rfl,u⟩;have a:=FarQ.of (q:=q) u;replace p:=qB p a;replace C:=qB C a;replace o:=qF o a;have ad:=a.size;replace d:=kP d u;clear a u;rw [a1];clear E;have E:=iq_0_0_0 q w M w4
 go_wp2_with (fail)
 rcases a0:isT ts i 5 wIf
 ·
  simp only [a0,Bool.false_eq_true,if_false] at s;refine (is_any 5 wIf _ d.out).mono ?_;rintro _ w5 ⟨rfl,u⟩;have a:=FarQ.of (q:=q) u;replace p:=qB p a;replace o:=qF o a;have a9:=a.size;replace d:=kP d u;clear a u;rw [a0];clear E
  go_wp2_with (fail)
  cases r with
  | bad l_ c_=>
   refine ((H.or f (Nat.lt_succ_self f)) i D _ _ hd s d.out).mono ?_;rintro _ V ⟨rfl,a,I⟩
   go_wp2_with (fail)
   exact ⟨_,_,rfl,rfl,.inl rfl,FarB.out (o.out.farq a),I⟩
  | ok x j=>
   refine ((H.or f (Nat.lt_succ_self f)) i D _ _ hd s d.out).mono ?_;rintro _ V ⟨ax,mx,cx,rfl,a,A,L⟩;replace p:=qB p a;replace o:=qF o a;replace d:=zz A;have B:=zz L;clear a A L;simp only [exV];have rc:=kc6 p
   go_wp2_with (fail)
   clear rc;generalize g:World.setCell _ ⟨w.heap.size,5,none⟩ _=N;replace d:=pO6 d g;replace o:=fN6 o g;replace p:=bS6 p g;replace B:=mS6 B g;clear g;refine door_plain ?_;have fc:=kc6 p;refine ⟨.agg #[.int .i64 x.kind,.string x.name,.int .i64 x.n,.slice ax mx cx,.int .i64 x.line,.int .i64 x.col],(by clear d o p C B;simp [results,Tryz.results97,go_sem,fc]),?_⟩;exact ⟨_,_,_,rfl,o.out.out,d.out,memNw B.out (by omega)⟩
 simp only [a0,if_true] at s;refine (is_any 5 wIf _ d.out).mono ?_;rintro _ w5 ⟨rfl,u⟩;have a:=FarQ.of (q:=q) u;replace p:=qB p a;replace C:=qB C a;replace o:=qF o a;have a9:=a.size;replace d:=kP d u;clear a u;rw [a0];clear E;have E:=iq_0_0_0 q w M w5
 go_wp2_with (fail)
 by_cases T:D=40
 ·
  rw [if_pos T] at s;cases s;subst T;refine (down_bad _ (by exact d.out)).mono ?_;rintro _ V ⟨rfl,u⟩;have a:=FarQ.of (q:=q) u;have I:=(d.out.keep u).any
  go_wp2_with (fail)
  exact ⟨_,_,rfl,rfl,.inl rfl,FarB.out (o.out.farq a),I⟩
 rw [if_neg T] at s;have a6:i<ts.length:=isT_lt a0 (by decide)
 have R:D+1≤40:=by omega
 refine (down_ok _ d.out (by omega) (by omega) (by omega) a6).mono ?_;rintro _ V ⟨rfl,a,A⟩;replace p:=qB p a;replace C:=qB C a;replace o:=qF o a;have an:=a.size;replace d:=zz A;clear a A
 replace d:=zz (by have h:=d.out;rw [show ((D:Int)+1)=((D+1:Nat):Int) by omega] at h;exact h)
 clear E;have E:=iq_0_0_0 q w M V
 go_wp2_with (fail)
 rcases hx:readE ts f .expr (i+1) (D+1) with _ | ⟨x,j⟩ | ⟨l_,c_⟩
 · (rw [hx] at s;cases s)
 rotate_left
 ·
  rw [hx] at s
  first | simp only at s | simp only [andT] at s
  cases s;refine ((H.ex f (Nat.lt_succ_self f)) (i+1) (D+1) _ _ R hx d.out).mono ?_;rintro _ N ⟨rfl,a,I⟩
  go_wp2_with (fail)
  exact ⟨_,_,rfl,rfl,.inr rfl,FarB.out (o.out.farq a),I⟩
 rw [hx] at s
 first | simp only at s | simp only [andT] at s
 refine ((H.ex f (Nat.lt_succ_self f)) (i+1) (D+1) _ _ R hx d.out).mono ?_;rintro _ N ⟨ax,mx,cx,rfl,a,A,L⟩;replace p:=qB p a;replace C:=qB C a;replace o:=qF o a;have ao:=a.size;replace d:=zz A;have B:=zz L;clear a A L;simp only [exV];clear E
 go_wp2_with (fail)
 generalize g:World.alloc N _=w8;have av:=sizeA g;replace d:=pA d g;replace o:=fA o g;replace p:=bA p g;replace C:=bA C g;replace B:=mA B g;have O:=nB g (N.heap.size);clear g;have E:=iq_0_0_0_0 q w M N w8
 rcases X:isT ts j 5 wThen
 ·
  first | simp only [X,Bool.false_eq_true,if_false] at s | simp only [takeT,X,Bool.false_eq_true,if_false] at s
  cases s;refine (take_bad 5 wThen _ d.out X).mono ?_;rintro _ w9 ⟨rfl,u⟩;have a:=FarQ.of (q:=q) u;have I:=(d.out.keep u).any
  go_wp2_with (fail)
  exact ⟨_,_,rfl,rfl,.inr rfl,FarB.out (o.out.farq a),I⟩
 first | simp only [X,if_true] at s | simp only [takeT,X,if_true] at s
 refine (take_ok 5 wThen _ d.out X (by decide)).mono ?_;rintro _ w9 ⟨rfl,a,A⟩;replace p:=qB p a;replace C:=qB C a;replace O:=qB O a;replace B:=qM B a;replace o:=qF o a;have ap:=a.size;replace d:=zz A;clear a A;clear E;have E:=iq_0_0_0_0 q w M N w9
 go_wp2_with (fail)
 rcases hy:readE ts f .expr (j+1) (D+1) with _ | ⟨y,k⟩ | ⟨l_,c_⟩
 · (rw [hy] at s;cases s)
 rotate_left
 ·
  rw [hy] at s
  first | simp only at s | simp only [andT] at s
  cases s;refine ((H.ex f (Nat.lt_succ_self f)) (j+1) (D+1) _ _ R hy d.out).mono ?_;rintro _ Y ⟨rfl,a,I⟩
  go_wp2_with (fail)
  exact ⟨_,_,rfl,rfl,.inr rfl,FarB.out (o.out.farq a),I⟩
 rw [hy] at s
 first | simp only at s | simp only [andT] at s
 refine ((H.ex f (Nat.lt_succ_self f)) (j+1) (D+1) _ _ R hy d.out).mono ?_;rintro _ Y ⟨ay,my,cy,rfl,a,A,L⟩;replace p:=qB p a;replace C:=qB C a;replace O:=qB O a;replace B:=qM B a;replace o:=qF o a;have ak:=a.size;replace d:=zz A;have P:=zz L;clear a A L;simp only [exV];clear E
 go_wp2_with (fail)
 generalize g:World.alloc Y _=ae;have ar:=sizeA g;replace d:=pA d g;replace o:=fA o g;replace p:=bA p g;replace C:=bA C g;replace O:=bA O g;replace B:=mA B g;replace P:=mA P g;have a2:=nB g (Y.heap.size);clear g;have E:=iq_0_0_0_0_0 q w M N Y ae
 rcases W:isT ts k 5 wElse
 ·
  first | simp only [W,Bool.false_eq_true,if_false] at s | simp only [takeT,W,Bool.false_eq_true,if_false] at s
  cases s;refine (take_bad 5 wElse _ d.out W).mono ?_;rintro _ U ⟨rfl,u⟩;have a:=FarQ.of (q:=q) u;have I:=(d.out.keep u).any
  go_wp2_with (fail)
  exact ⟨_,_,rfl,rfl,.inr rfl,FarB.out (o.out.farq a),I⟩
 first | simp only [W,if_true] at s | simp only [takeT,W,if_true] at s
 refine (take_ok 5 wElse _ d.out W (by decide)).mono ?_;rintro _ U ⟨rfl,a,A⟩;replace p:=qB p a;replace C:=qB C a;replace O:=qB O a;replace a2:=qB a2 a;replace B:=qM B a;replace P:=qM P a;replace o:=qF o a;have al:=a.size;replace d:=zz A;clear a A;clear E;have F:=kc2 C;have G:=kc6 O;have J:=kc6 a2;have E:=iq_0_0_0_0_0 q w M N Y U
 go_wp2_with (fail)
 rcases hz:readE ts f .expr (k+1) (D+1) with _ | ⟨z,m⟩ | ⟨l_,c_⟩
 · (rw [hz] at s;cases s)
 rotate_left
 ·
  rw [hz] at s
  first | simp only at s | simp only [andT] at s
  cases s;refine wp_region_held_drew (S:=fun w'=>Far (fun b=>b=q∨b=w.heap.size) (U) w') (by kernel_rfl) (Far.of (below_drew _)) (fun aa=>?_);refine takeA 0 (v:=?_) rfl ?_ ?_;rotate_left
  · (intro w t;replace G:=Far.c6z G t;replace J:=Far.c6z J t;replace F:=Far.c2z F t;go_simp;try rfl)
  (try simp only [pu]);refine takeA 1 (v:=?_) rfl ?_ ?_;rotate_left
  · (intro w t;replace G:=Far.c6z G t;replace J:=Far.c6z J t;replace F:=Far.c2z F t;go_simp;try rfl)
  (try simp only [pu]);refine takeA 2 (v:=?_) rfl ?_ ?_;rotate_left
  · (intro w t;replace G:=Far.c6z G t;replace J:=Far.c6z J t;replace F:=Far.c2z F t;go_simp;try rfl)
  (try simp only [pu]);refine takeA 5 (v:=?_) rfl ?_ ?_;rotate_left
  · (intro w t;replace G:=Far.c6z G t;replace J:=Far.c6z J t;replace F:=Far.c2z F t;go_simp;try rfl)
  (try simp only [pu]);refine callA 3 rfl fun K Q=>?_;go_simp;refine ((H.ex f (Nat.lt_succ_self f)) (k+1) (D+1) _ _ R hz d.out.drew).mono ?_;rintro e Z ⟨rfl,a,I⟩
  go_wp2_with (fail)
  exact ⟨_,_,rfl,rfl,.inr rfl,FarB.out (o.out.drew.farq a),I⟩
 rw [hz] at s
 first | simp only at s | simp only [andT] at s
 refine wp_region_held_drew (S:=fun w'=>Far (fun b=>b=q∨b=w.heap.size) (U) w') (by kernel_rfl) (Far.of (below_drew _)) (fun aa=>?_);refine takeA 0 (v:=?_) rfl ?_ ?_;rotate_left
 · (intro w t;replace G:=Far.c6z G t;replace J:=Far.c6z J t;replace F:=Far.c2z F t;go_simp;try rfl)
 (try simp only [pu]);refine takeA 1 (v:=?_) rfl ?_ ?_;rotate_left
 · (intro w t;replace G:=Far.c6z G t;replace J:=Far.c6z J t;replace F:=Far.c2z F t;go_simp;try rfl)
 (try simp only [pu]);refine takeA 2 (v:=?_) rfl ?_ ?_;rotate_left
 · (intro w t;replace G:=Far.c6z G t;replace J:=Far.c6z J t;replace F:=Far.c2z F t;go_simp;try rfl)
 (try simp only [pu]);refine takeA 5 (v:=?_) rfl ?_ ?_;rotate_left
 · (intro w t;replace G:=Far.c6z G t;replace J:=Far.c6z J t;replace F:=Far.c2z F t;go_simp;try rfl)
 (try simp only [pu]);refine callA 3 rfl fun K Q=>?_;go_simp;refine ((H.ex f (Nat.lt_succ_self f)) (k+1) (D+1) _ _ R hz d.out.drew).mono ?_;rintro e Z ⟨az,mz,cz,rfl,a,A,L⟩;have aw:U.heap.size≤Z.heap.size:=a.size;replace a:FarQ q U Z:=(FarQ.of (below_drew _)).trans a;replace p:=qB p a;replace B:=qM B a;replace P:=qM P a;replace o:=qF o a;replace d:=zz A;have a4:Hid (Mem (Nw 0 U.heap.size _) _ _ _):=zz L;clear A L;simp only [exV];go_simp;refine Q.out _ _ ?_ (fun a7=>?_);· exact (Far.mono a (fun b e=>.inl e))
 clear Q K;refine callA 4 rfl fun K Q=>?_;go_simp;refine Q.out _ _ ?_ (fun ah=>?_);· exact Far.trans a7 (Far.of (below_new _ _))
 clear Q K;refine takeA 6 (v:=?_) rfl ?_ ?_;rotate_left
 · (intro w t;go_simp;try rfl)
 (try simp only [pu]);refine callA 7 rfl fun K Q=>?_;clear F G J;clear E;have rc:=kc6 p;have E:=iq_0_0_0_0_0 q w M N Y Z;go_simp;refine Q.out _ _ ?_ (fun ai=>?_);· exact (by repeat' (first | with_reducible exact a7 | with_reducible refine Far.setCell ?_ (.inr rfl) _ | with_reducible refine Far.trans ?_ (Far.of (below_new _ _))))
 clear Q K;refine wpAnyH_done (by kernel_rfl) ?_ _;clear rc;generalize g:World.setCell _ ⟨w.heap.size,5,none⟩ _=ag;have ab:=sizeS6 g;replace d:=pO6 d g;replace o:=fN6 o g;replace p:=bS6 p g;replace B:=mS6 B g;replace P:=mS6 P g;replace a4:=mS6 a4 g;clear g;generalize g:World.alloc ag _=af;have ac:=sizeA g;have a5:=zz (builtE3E (base:=V.heap.size) (memNw B.out (by omega)) (memNw P.out (by omega)) (memNw a4.out (by omega)) g (b:=Z.heap.size) (by omega) (by omega));replace a5:=zz a5.out.mem;replace d:=pA d g;replace o:=fA o g;replace p:=bA p g;have a3:=a5;clear a5;clear g;clear ab ac;clear E
 go_wp2_with (fail)
 cases s;refine door_up d.out.bo ?_;generalize g:World.setCell af _ _=b0;replace d:=zz (d.out.setDE (k:=((D:Int))) g (wrap_up hd));replace o:=zz (o.out.setQE g);replace p:=bF1 p g;replace a3:=mS1 a3 g;clear g;have fc:=kc6 p;refine ⟨.agg #[.int .i64 6,.string ⟨#[]⟩,.int .i64 0,.slice (some ⟨Z.heap.size,0,none⟩) 3 3,.int .i64 (nowT ts i).l,.int .i64 (nowT ts i).c],(by clear d o p C O a2 B P a4 a3;simp [results,Tryz.results97,go_sem,fc]),?_⟩;exact ⟨_,_,_,rfl,o.out.out,d.out,memNw a3.out (by omega)⟩
theorem expr_reads (F:Nat) (H:AllR ts aL n cap q F):Reads ts aL n cap q 97 .expr F:=by
 intro i e r w b a d
 cases F with
 | zero=>rw [readE] at a;cases a
 | succ f=>exact expr_succ a w b H d
end
end
section
open Go.RowKit
attribute [local go_sem] tk_pos
section
variable {ts:List Tk} {aL:Option Addr} {n cap q:Nat}
theorem or_A {f i a:Nat} {l c:Int} (o:readE ts f (.left 2) i a=some (.bad l c)) (w:World) (j:a≤40) (H:AllR ts aL n cap q (f+1)) (g:PS ts aL n cap q i (a:Int) w):
  Calls Tryz.prog 136 #[.pointer (some ⟨q,0,none⟩)] w (Ans ts aL n cap q (.bad l c) a w):=by
 have d:=zz g;have b:=zz (FarB.refl q w.heap.size w);clear g;go_enter Tryz.func136,Tryz.ntmps136
 go_wp2_with (fail)
 generalize e:World.alloc w _=p;replace d:=pA d e;replace b:=fA b e;clear e;refine ((H.le f (Nat.lt_succ_self f)) 2 i a _ _ (by omega) j o d.out).mono ?_;rintro _ r ⟨rfl,m,h⟩
 go_wp2_with (fail)
 exact ⟨rfl,rfl,FarB.out (b.out.farq m),h⟩
theorem or_B {f i o:Nat} {x:Ex} {j:Nat} (D:readE ts f (.left 2) i o=some (.ok x j)) (C:isT ts j 6 wOr=false) (w:World) (B:o≤40) (H:AllR ts aL n cap q (f+1)) (m:PS ts aL n cap q i (o:Int) w):
  Calls Tryz.prog 136 #[.pointer (some ⟨q,0,none⟩)] w (Ans ts aL n cap q (.ok x j) o w):=by
 have b:=zz m;have J:=m.lt;have d:=zz (FarB.refl q w.heap.size w);clear m;go_enter Tryz.func136,Tryz.ntmps136
 go_wp2_with (fail)
 generalize a:World.alloc w _=N;have L:=sizeA a;replace b:=pA b a;replace d:=fA d a;have e:=nB a (w.heap.size);clear a;refine ((H.le f (Nat.lt_succ_self f)) 2 i o _ _ (by omega) B D b.out).mono ?_;rintro _ s ⟨u,E,y,rfl,g,m,t⟩;replace e:=qB e g;replace d:=qF d g;have K:=g.size;replace b:=zz m;have h:=zz t;clear g m t;simp only [exV]
 go_wp2_with (fail)
 generalize a:World.alloc s _=I;have M:=sizeA a;replace b:=pA b a;replace d:=fA d a;replace e:=bA e a;replace h:=mA h a;have p:=nB a (s.heap.size);clear a;have A:=iq_0_0_0 q w s I;refine (is_any 6 wOr _ b.out).mono ?_;rintro _ O ⟨rfl,r⟩;have g:=FarQ.of (q:=q) r;replace e:=qB e g;replace p:=qB p g;replace h:=qM h g;replace d:=qF d g;replace b:=kP b r;clear g r;rw [C];clear A;have F:=kc6 e;have G:=kc6 p
 go_wp2_with (fail)
 clear F G;generalize a:World.setCell _ ⟨w.heap.size,5,none⟩ _=P;replace b:=pO6 b a;replace d:=fN6 d a;replace e:=bS6 e a;replace h:=mS6 h a;clear a;have z:=kc6 e;refine bodyPost_ret (v:=.agg #[.int .i64 x.kind,.string x.name,.int .i64 x.n,.slice u E y,.int .i64 x.line,.int .i64 x.col]) (by clear b d e p h;simp [results,Tryz.results136,go_sem,z]) rfl ?_;exact ⟨_,_,_,rfl,d.out.out,b.out,memNw h.out (by omega)⟩
theorem or_C {f i p:Nat} {x:Ex} {j:Nat} (M:readE ts f (.left 2) i p=some (.ok x j)) (D:isT ts j 6 wOr=true) {l c:Int} (N:readE ts f .or (j+1) p=some (.bad l c)) (w:World) (C:p≤40) (H:AllR ts aL n cap q (f+1)) (t:PS ts aL n cap q i (p:Int) w):
  Calls Tryz.prog 136 #[.pointer (some ⟨q,0,none⟩)] w (Ans ts aL n cap q (.bad l c) p w):=by
 have d:=zz t;have Z:=t.lt;have g:=zz (FarB.refl q w.heap.size w);clear t;go_enter Tryz.func136,Tryz.ntmps136
 go_wp2_with (fail)
 generalize a:World.alloc w _=w1;have a3:=sizeA a;replace d:=pA d a;replace g:=fA g a;clear a;refine ((H.le f (Nat.lt_succ_self f)) 2 i p _ _ (by omega) C M d.out).mono ?_;rintro _ z ⟨U,mx,V,rfl,h,t,I⟩;replace g:=qF g h;have a0:=h.size;replace d:=zz t;clear h t I;simp only [exV]
 go_wp2_with (fail)
 generalize a:World.alloc z _=Q;have a4:=sizeA a;replace d:=pA d a;replace g:=fA g a;have m:=nB a (z.heap.size);clear a;have s:=iq_0_0_0 q w z Q;have G:j<ts.length:=isT_lt D (by decide)
 have Y:(j:Int)+1≤9223372036854775807:=by have :=d.out.len;omega
 clear G;refine (is_any 6 wOr _ d.out).mono ?_;rintro _ R ⟨rfl,r⟩;have h:=FarQ.of (q:=q) r;replace m:=qB m h;replace g:=qF g h;have a1:=h.size;replace d:=kP d r;clear h r;rw [D];clear s;have s:=iq_0_0_0 q w z R
 go_wp2_with (fail)
 refine (now_any _ d.out.bo d.out.mem).mono ?_;rintro _ A ⟨rfl,r⟩;have h:=FarQ.of (q:=q) r;replace m:=qB m h;replace g:=qF g h;have a2:=h.size;replace d:=kP d r;clear h r;simp only [tkV];clear s;have O:=kcP d;have s:=iq_0_0_0 q w z A
 go_wp2_with (fail)
 clear O;generalize a:World.setCell A _ _=T;have J:=sizeS1 a;replace d:=zz (d.out.setIE (k:=(j+1)) a (by omega));replace g:=zz (g.out.setQE a);replace m:=bF1 m a;clear a;generalize a:World.alloc T _=B;have L:=sizeA a;replace d:=pA d a;replace g:=fA g a;replace m:=bA m a;have E:=nB a (A.heap.size);clear a
 have a5:B.heap.size=A.heap.size+1:=by omega
 clear J L;clear s;have u:=kc6 m;have y:=kc2 E;have s:=iq_0_0_0_0 q w z A B;refine wp_region_held_drew (S:=fun P=>Far (fun b=>b=q∨b=w.heap.size) (B) P) (by kernel_rfl) (Far.of (below_drew _)) (fun X=>?_);refine takeA 0 (v:=?_) rfl ?_ ?_;rotate_left
 · (intro w o;replace u:=Far.c6z u o;replace y:=Far.c2z y o;go_simp;try rfl)
 (try simp only [pu]);refine takeA 1 (v:=?_) rfl ?_ ?_;rotate_left
 · (intro w o;replace u:=Far.c6z u o;replace y:=Far.c2z y o;go_simp;try rfl)
 (try simp only [pu]);refine takeA 4 (v:=?_) rfl ?_ ?_;rotate_left
 · (intro w o;replace u:=Far.c6z u o;replace y:=Far.c2z y o;go_simp;try rfl)
 (try simp only [pu]);refine callA 2 rfl fun K W=>?_;go_simp;refine ((H.or f (Nat.lt_succ_self f)) (j+1) p _ _ C N d.out.drew).mono ?_;rintro e a6 ⟨rfl,h,F⟩
 go_wp2_with (fail)
 exact ⟨rfl,rfl,FarB.out (g.out.drew.farq h),F⟩
theorem or_D {f i B:Nat} {x:Ex} {j:Nat} (W:readE ts f (.left 2) i B=some (.ok x j)) (T:isT ts j 6 wOr=true) {y:Ex} {k:Nat} (X:readE ts f .or (j+1) B=some (.ok y k)) (w:World) (R:B≤40) (H:AllR ts aL n cap q (f+1)) (t:PS ts aL n cap q i (B:Int) w):
  Calls Tryz.prog 136 #[.pointer (some ⟨q,0,none⟩)] w (Ans ts aL n cap q (.ok (.mk 5 wOr 0 [x,y] (nowT ts j).l (nowT ts j).c) k) B w):=by
 have d:=zz t;have a6:=t.lt;have h:=zz (FarB.refl q w.heap.size w);clear t;go_enter Tryz.func136,Tryz.ntmps136
 go_wp2_with (fail)
 generalize a:World.alloc w _=w1;have aa:=sizeA a;replace d:=pA d a;replace h:=fA h a;have m:=nB a (w.heap.size);clear a;refine ((H.le f (Nat.lt_succ_self f)) 2 i B _ _ (by omega) R W d.out).mono ?_;rintro _ D ⟨ax,mx,cx,rfl,g,t,G⟩;replace m:=qB m g;replace h:=qF h g;have a7:=g.size;replace d:=zz t;have o:=zz G;clear g t G;simp only [exV]
 go_wp2_with (fail)
 generalize a:World.alloc D _=w3;have ab:=sizeA a;replace d:=pA d a;replace h:=fA h a;replace m:=bA m a;replace o:=mA o a;have r:=nB a (D.heap.size);clear a;have s:=iq_0_0_0 q w D w3;have V:j<ts.length:=isT_lt T (by decide)
 have a5:(j:Int)+1≤9223372036854775807:=by have :=d.out.len;omega
 clear V;refine (is_any 6 wOr _ d.out).mono ?_;rintro _ w4 ⟨rfl,C⟩;have g:=FarQ.of (q:=q) C;replace m:=qB m g;replace r:=qB r g;replace o:=qM o g;replace h:=qF h g;have a8:=g.size;replace d:=kP d C;clear g C;rw [T];clear s;have s:=iq_0_0_0 q w D w4
 go_wp2_with (fail)
 refine (now_any _ d.out.bo d.out.mem).mono ?_;rintro _ E ⟨rfl,C⟩;have g:=FarQ.of (q:=q) C;replace m:=qB m g;replace r:=qB r g;replace o:=qM o g;replace h:=qF h g;have a9:=g.size;replace d:=kP d C;clear g C;simp only [tkV];clear s;have Y:=kcP d;have s:=iq_0_0_0 q w D E
 go_wp2_with (fail)
 clear Y;generalize a:World.setCell E _ _=a0;have M:=sizeS1 a;replace d:=zz (d.out.setIE (k:=(j+1)) a (by omega));replace h:=zz (h.out.setQE a);replace m:=bF1 m a;replace r:=bF1 r a;replace o:=mS1 o a;clear a;generalize a:World.alloc a0 _=F;have N:=sizeA a;replace d:=pA d a;replace h:=fA h a;replace m:=bA m a;replace r:=bA r a;replace o:=mA o a;have O:=nB a (E.heap.size);clear a
 have ac:F.heap.size=E.heap.size+1:=by omega
 clear M N;clear s;have u:=kc6 r;have z:=kc2 O;have s:=iq_0_0_0_0 q w D E F;refine wp_region_held_drew (S:=fun w'=>Far (fun b=>b=q∨b=w.heap.size) (F) w') (by kernel_rfl) (Far.of (below_drew _)) (fun a2=>?_);refine takeA 0 (v:=?_) rfl ?_ ?_;rotate_left
 · (intro w p;replace u:=Far.c6z u p;replace z:=Far.c2z z p;go_simp;try rfl)
 (try simp only [pu]);refine takeA 1 (v:=?_) rfl ?_ ?_;rotate_left
 · (intro w p;replace u:=Far.c6z u p;replace z:=Far.c2z z p;go_simp;try rfl)
 (try simp only [pu]);refine takeA 4 (v:=?_) rfl ?_ ?_;rotate_left
 · (intro w p;replace u:=Far.c6z u p;replace z:=Far.c2z z p;go_simp;try rfl)
 (try simp only [pu]);refine callA 2 rfl fun K A=>?_;go_simp;refine ((H.or f (Nat.lt_succ_self f)) (j+1) B _ _ R X d.out.drew).mono ?_;rintro e I ⟨ay,my,cy,rfl,g,t,G⟩;have ad:F.heap.size≤I.heap.size:=g.size;replace g:FarQ q F I:=(FarQ.of (below_drew _)).trans g;replace m:=qB m g;replace o:=qM o g;replace h:=qF h g;replace d:=zz t;have J:Hid (Mem (Nw 0 F.heap.size _) _ _ _):=zz G;clear t G;simp only [exV];go_simp;refine A.out _ _ ?_ (fun Q=>?_);· exact (Far.mono g (fun b e=>.inl e))
 clear A K;refine callA 3 rfl fun K A=>?_;go_simp;refine A.out _ _ ?_ (fun a3=>?_);· exact Far.trans Q (Far.of (below_new _ _))
 clear A K;refine takeA 5 (v:=?_) rfl ?_ ?_;rotate_left
 · (intro w p;replace u:=Far.c6z u p;replace z:=Far.c2z z p;go_simp;try rfl)
 (try simp only [pu]);refine callA 6 rfl fun K A=>?_;clear u z;clear s;have Z:=kc6 m;have s:=iq_0_0_0_0 q w D E I;go_simp;refine A.out _ _ ?_ (fun a4=>?_);· exact (by repeat' (first | with_reducible exact Q | with_reducible refine Far.setCell ?_ (.inr rfl) _ | with_reducible refine Far.trans ?_ (Far.of (below_new _ _))))
 clear A K;refine wpAnyH_done (by kernel_rfl) ?_ _;clear Z;generalize a:World.setCell _ ⟨w.heap.size,5,none⟩ _=a1;have M:=sizeS6 a;replace d:=pO6 d a;replace h:=fN6 h a;replace m:=bS6 m a;replace o:=mS6 o a;replace J:=mS6 J a;clear a;generalize a:World.alloc a1 _=w7;have N:=sizeA a;have L:=zz (builtE2E (base:=w1.heap.size) (memNw o.out (by omega)) (memNw J.out (by omega)) a (b:=I.heap.size) (by omega) (by omega));replace L:=zz L.out.mem;replace d:=pA d a;replace h:=fA h a;replace m:=bA m a;have P:=L;clear L;clear a;clear M N;clear s
 go_wp2_with (fail)
 have U:=kc6 m;refine bodyPost_ret (v:=.agg #[.int .i64 5,.string ⟨#[63]⟩,.int .i64 0,.slice (some ⟨I.heap.size,0,none⟩) 2 2,.int .i64 (nowT ts j).l,.int .i64 (nowT ts j).c]) (by clear d h m r O o J P;simp [results,Tryz.results136,go_sem,U]) rfl ?_;exact ⟨_,_,_,rfl,h.out.out,d.out,memNw P.out (by omega)⟩
theorem or_reads (F:Nat) (H:AllR ts aL n cap q F):Reads ts aL n cap q 136 .or F:=by
 intro i e r w b a d
 cases F with
 | zero=>rw [readE] at a;cases a
 | succ f=>
  rw [readE] at a
  cases hx:readE ts f (.left 2) i e with
  | none=>rw [hx] at a;cases a
  | some rx=>
   rw [hx] at a
   cases rx with
   | bad l c=>simp only [andT] at a;cases a;exact or_A hx w b H d
   | ok x j=>
    simp only [andT] at a
    cases hk:isT ts j 6 wOr with
    | false=>rw [hk] at a;cases a;exact or_B hx hk w b H d
    | true=>
     rw [hk] at a;simp only [if_true] at a
     cases hy:readE ts f .or (j+1) e with
     | none=>rw [hy] at a;cases a
     | some ry=>
      rw [hy] at a
      cases ry with
      | bad l c=>cases a;exact or_C hx hk hy w b H d
      | ok y k=>cases a;exact or_D hx hk hy w b H d
end
end
section
open Go.RowKit
section
variable {ts:List Tk} {aL:Option Addr} {n cap q:Nat}
theorem left_succ {f A i F:Nat} {r:Rd1} (av:A≤5) (p:readE ts (f+1) (.left A) i F=some r) (w:World) (U:F≤40) (H:AllR ts aL n cap q (f+1)) (L:PS ts aL n cap q i (F:Int) w):
  Calls Tryz.prog 147 #[.pointer (some ⟨q,0,none⟩),.int .i64 (A:Int)] w (Ans ts aL n cap q r F w):=by
 have d:=zz L;have au:=L.lt;have m:=zz (FarB.refl q w.heap.size w);clear L;rw [readE] at p;go_enter Tryz.func147,Tryz.ntmps147
 by_cases h4:4<A
 ·
  rw [if_pos h4] at p
  have aj:((4:Int)<(A:Int))=True:=by simp;omega
  go_wp2_with (fail)
  generalize a:World.alloc w _=w1;have ak:=sizeA a;replace d:=pA d a;replace m:=fA m a;have o:=nB a (w.heap.size);clear a
  cases r with
  | bad l_ c_=>
   refine ((H.ap f (by omega)) i F _ _ U p d.out).mono ?_;rintro _ D ⟨rfl,t,Y⟩
   go_wp2_with (fail)
   exact ⟨rfl,rfl,FarB.out (m.out.farq t),Y⟩
  | ok x j=>
   refine ((H.ap f (by omega)) i F _ _ U p d.out).mono ?_;rintro _ D ⟨ax,mx,cx,rfl,t,L,N⟩;replace o:=qB o t;replace m:=qF m t;replace d:=zz L;have X:=zz N;clear t L N;simp only [exV];have O:=kc6 o
   go_wp2_with (fail)
   clear O;generalize a:World.setCell _ ⟨w.heap.size,5,none⟩ _=w3;replace d:=pO6 d a;replace m:=fN6 m a;replace o:=bS6 o a;replace X:=mS6 X a;clear a;have R:=kc6 o;refine bodyPost_ret (v:=.agg #[.int .i64 x.kind,.string x.name,.int .i64 x.n,.slice ax mx cx,.int .i64 x.line,.int .i64 x.col]) (by clear d m o X;simp [results,Tryz.results147,go_sem,R]) rfl ?_;exact ⟨_,_,_,rfl,m.out.out,d.out,memNw X.out (by omega)⟩
 rw [if_neg h4] at p
 have Z:f<f+1:=by omega
 have a0:A+1≤5:=by omega
 have aj:((4:Int)<(A:Int))=False:=by simp;omega
 go_wp2_with (fail)
 generalize a:World.alloc w _=w1;have ak:=sizeA a;replace d:=pA d a;replace m:=fA m a;have o:=nB a (w.heap.size);clear a
 rcases hx:readE ts f (.left (A+1)) i F with _ | ⟨x,j⟩ | ⟨l_,c_⟩
 · (rw [hx] at p;cases p)
 rotate_left
 ·
  rw [hx] at p
  first | simp only at p | simp only [andT] at p
  cases p;refine ((H.le f Z) (A+1) i F _ _ a0 U hx d.out).mono ?_;rintro _ D ⟨rfl,t,Y⟩
  go_wp2_with (fail)
  exact ⟨rfl,rfl,FarB.out (m.out.farq t),Y⟩
 rw [hx] at p
 first | simp only at p | simp only [andT] at p
 refine ((H.le f Z) (A+1) i F _ _ a0 U hx d.out).mono ?_;rintro _ D ⟨ax,mx,cx,rfl,t,L,N⟩;replace o:=qB o t;replace m:=qF m t;have aw:=t.size;replace d:=zz L;have X:=zz N;clear t L N;simp only [exV];have ai:i<j∧j≤ts.length:=readE_fwd f (.left (A+1)) i F x j hx
 go_wp2_with (fail)
 have a6:=zz (memX_of (base:=w1.heap.size) (g:=D.heap.size) X.out (by omega) (by omega));clear X;generalize a:World.alloc D _=w3;have b0:=sizeA a;replace d:=pA d a;replace m:=fA m a;replace o:=bA o a;replace a6:=xA a6 a;have u:=nB a (D.heap.size);clear a
 go_loopw [] (fun wr=>∃ (e:Ex) (z g:Nat) (ae:Option Addr) (me ce:Nat),readE ts g (.more A e) z F=some r∧g≤f∧Hid (PS ts aL n cap q z (F:Int) wr)∧Hid (FarB q w.heap.size w wr)∧Hid (Bo wr w.heap.size 60 #[.int .i64 0,.string ⟨#[]⟩,.int .i64 0,.slice none 0 0,.int .i64 0,.int .i64 0])∧Hid (Bo wr D.heap.size 60 #[.int .i64 e.kind,.string e.name,.int .i64 e.n,.slice ae me ce,.int .i64 e.line,.int .i64 e.col])∧Hid (Mem (NwX w1.heap.size D.heap.size wr.heap.size) wr (.s 6 (Ex.rows e.args)) (.slice ae me ce))∧z≤ts.length∧D.heap.size<wr.heap.size) (fun wr=>ts.length - posQ q wr)
 case atStart=>exact ⟨x,j,f,ax,mx,cx,p,Nat.le_refl _,d,m,o,u,a6,ai.2,by omega⟩
 case round=>
  clear d m o u a6 p;obtain ⟨e,z,g,ae,me,ce,p,hg,d,m,o,u,C,aq,b5⟩:=hrel;have ac:Hid (posQ q wr=z):=zz d.out.pos;have I:=iq_0_0_0 q w D wr
  go_wp2_with (fail)
  refine (now_any _ d.out.bo d.out.mem).mono ?_;rintro _ W ⟨rfl,hb⟩;have t:=FarQ.of (q:=q) hb;replace o:=qB o t;replace u:=qB u t;replace C:=qX C t;replace m:=qF m t;have az:=t.size;replace d:=kP d hb;clear t hb;simp only [tkV]
  cases g with
  | zero=>rw [readE] at p;cases p
  | succ g=>
   rw [readE] at p;clear I
   go_wp2_with (fail)
   generalize a:World.alloc W _=w5;have b1:=sizeA a;replace d:=pA d a;replace m:=fA m a;replace o:=bA o a;replace u:=bA u a;replace C:=xA C a;have T:=nB a (W.heap.size);clear a;have qc:=kcP d;have O:=kc6 o;have G:=kc6 u;have E:=kc5 T;have I:=iq_0_0_0_0 q w D W w5;refine (binds_any (nowT ts z).s _).mono ?_;rintro _ _ ⟨rfl,rfl⟩
   by_cases h6:(nowT ts z).k=6
   rotate_left
   ·
    have e6:((nowT ts z).k != 6)=true:=by simp [h6]
    rw [if_neg (fun h=>h6 h.1)] at p;have p:some (Rd1.ok e z)=some r:=p;cases p
    go_wp2_with (fail)
    clear qc O G E;generalize a:World.setCell _ ⟨w.heap.size,5,none⟩ _=P;replace d:=pO6 d a;replace m:=fN6 m a;replace o:=bS6 o a;replace C:=xS6 C a;clear a;clear I;have R:=kc6 o;refine bodyPost_ret (v:=.agg #[.int .i64 e.kind,.string e.name,.int .i64 e.n,.slice ae me ce,.int .i64 e.line,.int .i64 e.col]) (by clear d m o u T C;simp [results,Tryz.results147,go_sem,R]) rfl ?_;exact ⟨_,_,_,rfl,m.out.out,d.out,memNw (memX_nw C.out) (by omega)⟩
   by_cases hb:bindsE (nowT ts z).s=A
   rotate_left
   ·
    have eb:(((bindsE (nowT ts z).s:Nat):Int) != (A:Int))=true:=by simp;omega
    rw [if_neg (fun h=>hb h.2)] at p;have p:some (Rd1.ok e z)=some r:=p;cases p
    go_wp2_with (fail)
    clear qc O G E;generalize a:World.setCell _ ⟨w.heap.size,5,none⟩ _=P;replace d:=pO6 d a;replace m:=fN6 m a;replace o:=bS6 o a;replace C:=xS6 C a;clear a;clear I;have R:=kc6 o;refine bodyPost_ret (v:=.agg #[.int .i64 e.kind,.string e.name,.int .i64 e.n,.slice ae me ce,.int .i64 e.line,.int .i64 e.col]) (by clear d m o u T C;simp [results,Tryz.results147,go_sem,R]) rfl ?_;exact ⟨_,_,_,rfl,m.out.out,d.out,memNw (memX_nw C.out) (by omega)⟩
   have eb:(((bindsE (nowT ts z).s:Nat):Int) != (A:Int))=false:=by simp;omega
   rw [if_pos ⟨h6,hb⟩] at p
   have Z:g<f+1:=by omega
   have ao:z<ts.length:=now_lt (by rw [h6];decide)
   have ar:(z:Int)+1≤9223372036854775807:=by have :=d.out.len;omega
   go_wp2_with (fail)
   clear qc O G E;generalize a:World.setCell w5 _ _=P;have b4:=sizeS1 a;replace d:=zz (d.out.setIE (k:=(z+1)) a (by omega));replace m:=zz (m.out.setQE a);replace o:=bF1 o a;replace u:=bF1 u a;replace T:=bF1 T a;replace C:=xS1 C a;clear a;clear I;have G:=kc6 u;have E:=kc5 T;have I:=iq_0_0_0_0 q w D W P;refine wp_region_held_drew (S:=fun w'=>Far (fun b=>b=q∨b=D.heap.size) (P) w') (by kernel_rfl) (Far.of (below_drew _)) (fun ad=>?_);refine takeA 0 (v:=?_) rfl ?_ ?_;rotate_left
   · (intro w J;replace E:=Far.c5z E J;go_simp;try rfl)
   (try simp only [pu]);refine takeA 1 (v:=?_) rfl ?_ ?_;rotate_left
   · (intro w J;replace E:=Far.c5z E J;go_simp;try rfl)
   (try simp only [pu]);refine takeA 3 (v:=?_) rfl ?_ ?_;rotate_left
   · (intro w J;replace E:=Far.c5z E J;go_simp;try rfl)
   (try simp only [pu]);refine takeA 4 (v:=?_) rfl ?_ ?_;rotate_left
   · (intro w J;replace E:=Far.c5z E J;go_simp;try rfl)
   (try simp only [pu]);refine takeA 5 (v:=?_) rfl ?_ ?_;rotate_left
   · (intro w J;replace E:=Far.c5z E J;go_simp;try rfl)
   (try simp only [pu]);refine takeA 8 (v:=?_) rfl ?_ ?_;rotate_left
   · (intro w J;replace E:=Far.c5z E J;go_simp;try rfl)
   (try simp only [pu]);refine takeA 9 (v:=?_) rfl ?_ ?_;rotate_left
   · (intro w J;replace E:=Far.c5z E J;go_simp;try rfl)
   (try simp only [pu])
   have am:IntKind.i64.wrap ((A:Int)+1)=((A+1:Nat):Int):=by rw [IntKind.wrap_i64];omega
   simp only [am]
   rcases V:readE ts g (.left (A+1)) (z+1) F with _ | ⟨y,k⟩ | ⟨l_,c_⟩
   · (rw [V] at p;cases p)
   rotate_left
   ·
    rw [V] at p
    first | simp only at p | simp only [andT] at p
    cases p;refine twoL 2 6 rfl rfl (by kernel_rfl) (by rfl) (by rfl) (fun K B=>?_) (fun K B=>?_)
    ·
     go_simp;refine B.out _ _ ?_ (fun a7=>?_);· exact ad
     clear B K;refine callA 6 rfl fun K B=>?_;go_simp;refine ((H.le g Z) (A+1) (z+1) F _ _ a0 U V d.out.drew).mono ?_;rintro e an ⟨rfl,t,Y⟩
     go_wp2_with (fail)
     exact ⟨rfl,rfl,FarB.out (m.out.drew.farq t),Y⟩
    ·
     go_simp;refine ((H.le g Z) (A+1) (z+1) F _ _ a0 U V d.out.drew).mono ?_;rintro e an ⟨rfl,t,Y⟩
     go_wp2_with (fail)
     exact ⟨rfl,rfl,FarB.out (m.out.drew.farq t),Y⟩
   rw [V] at p
   first | simp only at p | simp only [andT] at p
   have af:z+1<k∧k≤ts.length:=readE_fwd g (.left (A+1)) (z+1) F y k V;refine twoL 2 6 rfl rfl (by kernel_rfl) (by rfl) (by rfl) (fun K B=>?_) (fun K B=>?_)
   ·
    go_simp;refine B.out _ _ ?_ (fun a7=>?_);· exact ad
    clear B K;refine callA 6 rfl fun K B=>?_;go_simp;refine ((H.le g Z) (A+1) (z+1) F _ _ a0 U V d.out.drew).mono ?_;rintro e a2 ⟨ay,my,cy,rfl,t,L,N⟩;have b3:P.heap.size≤a2.heap.size:=t.size;replace t:FarQ q P a2:=(FarQ.of (below_drew _)).trans t;replace o:=qB o t;replace u:=qB u t;replace C:=qX C t;replace m:=qF m t;replace d:=zz L;have a3:Hid (Mem (Nw 0 P.heap.size _) _ _ _):=zz N;clear L N;simp only [exV];go_simp;refine B.out _ _ ?_ (fun a5=>?_);· exact (Far.mono t (fun b e=>.inl e))
    clear B K;refine callA 7 rfl fun K B=>?_;go_simp;refine B.out _ _ ?_ (fun ag=>?_);· exact Far.trans a5 (Far.of (below_new _ _))
    clear B K;refine takeA 10 (v:=?_) rfl ?_ ?_;rotate_left
    · (intro w J;go_simp;try rfl)
    (try simp only [pu]);refine callA 11 rfl fun K B=>?_;clear G E;clear I;have G:=kc6 u;have I:=iq_0_0_0_0 q w D W a2;go_simp;refine B.out _ _ ?_ (fun ah=>?_);· exact (by repeat' (first | with_reducible exact a5 | with_reducible refine Far.setCell ?_ (.inr rfl) _ | with_reducible refine Far.trans ?_ (Far.of (below_new _ _))))
    clear B K;refine wpAnyH_done (by kernel_rfl) ?_ _;have Q:=zz (memX_of (base:=w1.heap.size) (g:=D.heap.size) a3.out (by omega) (by omega));clear a3;clear G;generalize a:World.setCell _ ⟨D.heap.size,5,none⟩ _=ab;have a9:=sizeS6 a;replace d:=pO6 d a;replace m:=fN6 m a;replace o:=bF6 o a;replace u:=bS6 u a;replace C:=xS6 C a;replace Q:=xS6 Q a;clear a;generalize a:World.alloc ab _=w7;have aa:=sizeA a;have a4:=zz (builtX2E (base:=w1.heap.size) (k:=D.heap.size) C.out Q.out a (b:=a2.heap.size) (by omega) (by omega) (by omega));replace d:=pA d a;replace m:=fA m a;replace o:=bA o a;replace u:=bA u a;have M:=a4;clear a4;clear a
    have al:w7.heap.size=a2.heap.size+1:=by omega
    clear a9 aa;clear I;have O:=kc6 o;have G:=kc6 u;have I:=iq_0_0_0_0 q w D W w7
    by_cases h2:A=2
    rotate_left
    ·
     rw [if_neg h2] at p
     have e2:((A:Int)==2)=false:=by simp;omega
     go_wp2_with (fail)
     clear O G;have a8:posQ q w7=k:=d.out.pos
     go_roundw
     case rel=>exact ⟨_,k,g,_,_,_,p,by omega,d,m,o,u,M,af.2,by omega⟩
     case measure=>rw [a8,ac.out];omega
    rw [if_pos h2] at p;cases p
    have e2:((A:Int)==2)=true:=by simp;omega
    go_wp2_with (fail)
    clear O G;generalize a:World.setCell _ ⟨w.heap.size,5,none⟩ _=w8;replace d:=pO6 d a;replace m:=fN6 m a;replace o:=bS6 o a;replace M:=xS6 M a;clear a;clear I;have R:=kc6 o;refine bodyPost_ret (v:=.agg #[.int .i64 5,.string (nowT ts z).s,.int .i64 0,.slice (some ⟨a2.heap.size,0,none⟩) 2 2,.int .i64 (nowT ts z).l,.int .i64 (nowT ts z).c]) (by clear d m o u T C Q M;simp [results,Tryz.results147,go_sem,R]) rfl ?_;exact ⟨_,_,_,rfl,m.out.out,d.out,memNw (memX_nw M.out) (by omega)⟩
   ·
    go_simp;refine ((H.le g Z) (A+1) (z+1) F _ _ a0 U V d.out.drew).mono ?_;rintro e a1 ⟨ay,my,cy,rfl,t,L,N⟩;have b2:P.heap.size≤a1.heap.size:=t.size;replace t:FarQ q P a1:=(FarQ.of (below_drew _)).trans t;replace o:=qB o t;replace u:=qB u t;replace C:=qX C t;replace m:=qF m t;replace d:=zz L;have a3:Hid (Mem (Nw 0 P.heap.size _) _ _ _):=zz N;clear L N;simp only [exV];go_simp;refine B.out _ _ ?_ (fun a7=>?_);· exact (Far.mono t (fun b e=>.inl e))
    clear B K;refine callA 2 rfl fun K B=>?_;clear G E;clear I;have G:=kc6 u;go_simp;refine B.out _ _ ?_ (fun a5=>?_);· exact a7
    clear B K;refine callA 7 rfl fun K B=>?_;go_simp;refine B.out _ _ ?_ (fun ag=>?_);· exact Far.trans a5 (Far.of (below_new _ _))
    clear B K;refine takeA 10 (v:=?_) rfl ?_ ?_;rotate_left
    · (intro w J;go_simp;try rfl)
    (try simp only [pu]);refine callA 11 rfl fun K B=>?_;clear G;have G:=kc6 u;have I:=iq_0_0_0_0 q w D W a1;go_simp;refine B.out _ _ ?_ (fun ah=>?_);· exact (by repeat' (first | with_reducible exact a5 | with_reducible refine Far.setCell ?_ (.inr rfl) _ | with_reducible refine Far.trans ?_ (Far.of (below_new _ _))))
    clear B K;refine wpAnyH_done (by kernel_rfl) ?_ _;have Q:=zz (memX_of (base:=w1.heap.size) (g:=D.heap.size) a3.out (by omega) (by omega));clear a3;clear G;generalize a:World.setCell _ ⟨D.heap.size,5,none⟩ _=ab;have a9:=sizeS6 a;replace d:=pO6 d a;replace m:=fN6 m a;replace o:=bF6 o a;replace u:=bS6 u a;replace C:=xS6 C a;replace Q:=xS6 Q a;clear a;generalize a:World.alloc ab _=w7;have aa:=sizeA a;have a4:=zz (builtX2E (base:=w1.heap.size) (k:=D.heap.size) C.out Q.out a (b:=a1.heap.size) (by omega) (by omega) (by omega));replace d:=pA d a;replace m:=fA m a;replace o:=bA o a;replace u:=bA u a;have M:=a4;clear a4;clear a
    have al:w7.heap.size=a1.heap.size+1:=by omega
    clear a9 aa;clear I;have O:=kc6 o;have G:=kc6 u;have I:=iq_0_0_0_0 q w D W w7
    by_cases h2:A=2
    rotate_left
    ·
     rw [if_neg h2] at p
     have e2:((A:Int)==2)=false:=by simp;omega
     go_wp2_with (fail)
     clear O G;have a8:posQ q w7=k:=d.out.pos
     go_roundw
     case rel=>exact ⟨_,k,g,_,_,_,p,by omega,d,m,o,u,M,af.2,by omega⟩
     case measure=>rw [a8,ac.out];omega
    rw [if_pos h2] at p;cases p
    have e2:((A:Int)==2)=true:=by simp;omega
    go_wp2_with (fail)
    clear O G;generalize a:World.setCell _ ⟨w.heap.size,5,none⟩ _=w8;replace d:=pO6 d a;replace m:=fN6 m a;replace o:=bS6 o a;replace M:=xS6 M a;clear a;clear I;have R:=kc6 o;refine bodyPost_ret (v:=.agg #[.int .i64 5,.string (nowT ts z).s,.int .i64 0,.slice (some ⟨a1.heap.size,0,none⟩) 2 2,.int .i64 (nowT ts z).l,.int .i64 (nowT ts z).c]) (by clear d m o u T C Q M;simp [results,Tryz.results147,go_sem,R]) rfl ?_;exact ⟨_,_,_,rfl,m.out.out,d.out,memNw (memX_nw M.out) (by omega)⟩
theorem left_reads (F:Nat) (H:AllR ts aL n cap q F):ReadsL ts aL n cap q F:=by
 intro h i g r w e b a d
 cases F with
 | zero=>rw [readE] at a;cases a
 | succ f=>exact left_succ e a w b H d
end
end
section
open Go.RowKit
section
variable {ts:List Tk} {aL:Option Addr} {n cap q:Nat}
theorem app_reads (f:Nat) (Ht:∀ g,g<f+1→Reads ts aL n cap q 152 .atom g):ReadsA ts aL n cap q f:=by
 intro i C r w O o D;have a:=zz D;have aj:=D.lt;have m:=zz (FarB.refl q w.heap.size w);clear D;go_enter Tryz.func151,Tryz.ntmps151
 go_wp2_with (fail)
 generalize t:World.alloc w _=J;have ap:=sizeA t;replace a:=pA a t;replace m:=fA m t;have p:=nB t (w.heap.size);clear t
 rcases H:readE ts f .atom i C with _ | ⟨x,j⟩ | ⟨l_,c_⟩
 · (rw [H] at o;cases o)
 rotate_left
 ·
  rw [H] at o
  first | simp only at o | simp only [andT] at o
  cases o;refine ((Ht f (by omega)) i C _ _ O H a.out).mono ?_;rintro _ w2 ⟨rfl,d,X⟩
  go_wp2_with (fail)
  exact ⟨rfl,rfl,FarB.out (m.out.farq d),X⟩
 rw [H] at o
 first | simp only at o | simp only [andT] at o
 refine ((Ht f (by omega)) i C _ _ O H a.out).mono ?_;rintro _ w2 ⟨ax,mx,cx,rfl,d,D,L⟩;replace p:=qB p d;replace m:=qF m d;have ak:=d.size;replace a:=zz D;have a0:=zz L;clear d D L;simp only [exV];have ab:i<j∧j≤ts.length:=readE_fwd f .atom i C x j H
 go_wp2_with (fail)
 generalize t:World.alloc w2 _=w3;have aq:=sizeA t;have a3:=zz (builtE1E (base:=J.heap.size) (memNw a0.out (by omega)) t (b:=w2.heap.size) (by omega) (by omega));replace a:=pA a t;replace m:=fA m t;replace p:=bA p t;have u:=a3;clear a3;clear t;clear a0
 go_loopw [3] (fun v wr=>∃ (l:List Ex) (A g:Nat),readE ts g (.apps l) A C=some r∧g≤f∧Hid (PS ts aL n cap q A (C:Int) wr)∧Hid (FarB q w.heap.size w wr)∧Hid (Bo wr w.heap.size 60 #[.int .i64 0,.string ⟨#[]⟩,.int .i64 0,.slice none 0 0,.int .i64 0,.int .i64 0])∧Hid (OwnD 0 J.heap.size 60 6 wr v (Ex.rows l))∧l≠[]∧l.length≤A∧A≤ts.length∧J.heap.size≤wr.heap.size) (fun v _=>ts.length+1 - lenV v)
 case atStart=>exact ⟨[x],j,f,o,Nat.le_refl _,a,m,p,u,(by simp),(by simp only [List.length_cons,List.length_nil];omega),ab.2,by omega⟩
 case round=>
  clear a m p u o;obtain ⟨l,A,g,o,hg,a,m,p,u,P,ae,af,au⟩:=hrel;obtain ⟨a1,F,T,rfl,a6,ag,ac⟩:=u.out.form2
  have ar:F≤1048576:=by have W:=a.out.len.1;have h2:=a.out.sm;omega
  have G:=zz a6;clear a6 ac
  go_wp2_with (fail)
  refine (now_any _ a.out.bo a.out.mem).mono ?_;rintro _ w4 ⟨rfl,B⟩;have d:=FarQ.of (q:=q) B;replace p:=qB p d;replace u:=qO u d;replace m:=qF m d;have al:=d.size;replace a:=kP a B;clear d B
  go_wp2_with (fail)
  cases g with
  | zero=>rw [readE] at o;cases o
  | succ g=>
   rw [readE] at o
   cases hst:startsE (nowT ts A) with
   | false=>
    refine (starts_any (nowT ts A) _).mono ?_;rintro _ w5 ⟨rfl,B⟩;have d:=FarQ.of (q:=q) B;replace p:=qB p d;replace u:=qO u d;replace m:=qF m d;replace a:=kP a B;clear d B;rw [hst];simp only [hst,Bool.false_eq_true,if_false] at o;cases o;have Q:Hid (Mem (Nw 0 J.heap.size w5.heap.size) w5 (.s 6 (Ex.rows l)) (.slice a1 F T)):=zz u.out.mem;obtain ⟨b2,o2,z,a2,m2,c2,rfl,hz,z0,z1,z2,z3,z4,z5,K⟩:=ex_at Q.out 0 (List.length_pos_iff.2 P);rw [Nat.zero_mul,Nat.add_zero] at z0 z1 z2 z3 z4 z5
    by_cases W:l.length=1
    ·
     obtain rfl:F=1:=by have :=G.out;omega
     have R:Hid (appE l=z):=zz (by match l,W,hz.out with | [e],_,h=>simpa [appE] using h);have rc:=kc6 p
     go_wp2_with (fail)
     clear Q;clear rc;generalize t:World.setCell _ ⟨w.heap.size,5,none⟩ _=M;replace a:=pO6 a t;replace m:=fN6 m t;replace p:=bS6 p t;replace K:=mS6 K t;clear t;rw [R.out];have V:=kc6 p;refine bodyPost_ret (v:=.agg #[.int .i64 z.kind,.string z.name,.int .i64 z.n,.slice a2 m2 c2,.int .i64 z.line,.int .i64 z.col]) (by clear a m p K u;simp [results,Tryz.results151,go_sem,V]) rfl ?_;exact ⟨_,_,_,rfl,m.out.out,a.out,memNw K.out (by omega)⟩
    have ai:((F:Int)==1)=false:=by have :=G.out;have h0:=List.length_pos_iff.2 P;simp;omega
    have ah:1<F:=by have :=G.out;have h0:=List.length_pos_iff.2 P;omega
    have rc:=kc6 p
    go_wp2_with (fail)
    clear Q K
    have R:Hid (appE l=.mk 4 .empty 0 l z.line z.col):=zz (by match l,W,P,hz.out with | e::e2::es,_,_,h=>(have h2:e=z:=by simpa using h);rw [←h2];rfl)
    clear rc;generalize t:World.setCell _ ⟨w.heap.size,5,none⟩ _=M;replace a:=pO6 a t;replace m:=fN6 m t;replace p:=bS6 p t;replace u:=oS6 u t;clear t;rw [R.out];have V:=kc6 p;refine bodyPost_ret (v:=.agg #[.int .i64 4,.string ⟨#[]⟩,.int .i64 0,.slice (some ⟨b2,o2,none⟩) F T,.int .i64 z.line,.int .i64 z.col]) (by clear a m p u;simp [results,Tryz.results151,go_sem,V]) rfl ?_;exact ⟨_,_,_,rfl,m.out.out,a.out,memNw u.out.mem (by omega)⟩
   | true=>
    refine (starts_any (nowT ts A) _).mono ?_;rintro _ w5 ⟨rfl,B⟩;have d:=FarQ.of (q:=q) B;replace p:=qB p d;replace u:=qO u d;replace m:=qF m d;have am:=d.size;replace a:=kP a B;clear d B;rw [hst];simp only [hst,if_true] at o
    go_wp2_with (fail)
    rcases I:readE ts g .atom A C with _ | ⟨y,k⟩ | ⟨l_,c_⟩
    · (rw [I] at o;cases o)
    rotate_left
    ·
     rw [I] at o
     first | simp only at o | simp only [andT] at o
     cases o;refine ((Ht g (by omega)) A C _ _ O I a.out).mono ?_;rintro _ M ⟨rfl,d,X⟩
     go_wp2_with (fail)
     exact ⟨rfl,rfl,FarB.out (m.out.farq d),X⟩
    rw [I] at o
    first | simp only at o | simp only [andT] at o
    have a9:=u;refine ((Ht g (by omega)) A C _ _ O I a.out).mono ?_;rintro _ M ⟨S,Z,U,rfl,d,D,L⟩;replace p:=qB p d;replace u:=qO u d;replace m:=qF m d;have an:=d.size;replace a:=zz D;have a7:=zz L;clear d D L;simp only [exV];have aa:A<k∧k≤ts.length:=readE_fwd g .atom A C y k I;have hI:=iq_0_0 q w M
    go_wp2_with (first | (at_builtin;refine wpList_append_D rfl _ _ rfl Tryz.underlying58 info_ex rfl (by decide) rfl rfl (u.out.alloc _) (newRow a9.out (by omega) (by omega) a7.out) (by have :=G.out;simp only [Ex.rows_len,List.length_cons,List.length_nil];omega) (by have :=G.out;simp only [Ex.rows_len,List.length_cons,List.length_nil];omega) (by rw [World.size_alloc];omega) ?_;intro v9 w9 ho a5;have a8:=zz ho;clear ho;have N:=zz a5;clear a5))
    have Y:∀ k,(Value.slice a1 F T).ownBlock=some k→J.heap.size≤k:=fun k E=>(u.out.lt k E).1
    have a4:Hid (OwnD 0 J.heap.size 60 6 w9 v9 (Ex.rows (l++[y]))):=zz (by rw [Ex.rows_app];exact a8.out);obtain ⟨a2,m2,c2,rfl,ad,_,_⟩:=a4.out.form2;rw [List.length_append,List.length_cons,List.length_nil] at ad
    have ao:M.heap.size+1≤w9.heap.size:=by have h:=N.out.size;rw [World.size_alloc] at h;exact h
    go_roundw
    case rel=>exact ⟨l++[y],k,g,o,by omega,zz ((a.out.alloc (.cells #[.int .i64 y.kind,.string y.name,.int .i64 y.n,.slice S Z U,.int .i64 y.line,.int .i64 y.col] 60)).grown N.out fun k E=>by have :=Y k E;omega),zz ((m.out.alloc (.cells #[.int .i64 y.kind,.string y.name,.int .i64 y.n,.slice S Z U,.int .i64 y.line,.int .i64 y.col] 60)).grown N.out fun k E=>by have :=Y k E;omega),zz ((p.out.alloc (.cells #[.int .i64 y.kind,.string y.name,.int .i64 y.n,.slice S Z U,.int .i64 y.line,.int .i64 y.col] 60)).grown N.out fun k E=>by have :=Y k E;omega),a4,by simp,by rw [List.length_append,List.length_cons,List.length_nil];omega,aa.2,by omega⟩
    case measure=>have :=G.out;simp only [lenV];omega
end
end
end Go.Proofs.YtcoiagfeoonpbaaGreat
