/-
  ModuleParses: it answers true. No condition but sizes.
-/
import Derived.Test.YtcoiagfeoonpbaaGreatMp30
import Derived.Test.YtcoiagfeoonpbaaGreatMp34
import Derived.Test.YtcoiagfeoonpbaaGreatMp38
import Derived.Test.YtcoiagfeoonpbaaGreatMp33
set_option maxHeartbeats 20000000
set_option maxRecDepth 100000
namespace Go.Proofs.YtcoiagfeoonpbaaGreat
section
open Go.RowKit
theorem memW_p0 {base:Nat} {x:At} {y:Value} {w:World} (h:Mem (Nw 0 base w.heap.size) w x y):MemW w x y:=h.mono (fun _ a=>a.2) fun _ _=>rfl
theorem all2_refl {α:Type} {R:α→α→Prop} (h:∀ x,R x x):∀ l:List α,All2 R l l
  | []=>.nil
  | x::l=>.cons (h x) (all2_refl h l)
theorem samE_self (x:Ex):SamE false x x:=SamE.refl false _ x (Nat.le_refl _)
theorem daS_self (x:Da):DaS x x:=⟨rfl,rfl,all2_refl (fun _=>⟨rfl,rfl⟩) _⟩
theorem ruS_self (x:Ru):RuS x x:=⟨rfl,all2_refl samE_self _,all2_refl samE_self _,samE_self _⟩
theorem md_len (s:ByteArray):cntD (modE s).ds+(modE s).rs.length≤2 * s.size+1:=by
  cases h:modE s with
  | ok ds rs=>exact mod_len h
  | bad k l c=>exact Nat.zero_le _
theorem moduleParses_any (s:ByteArray) (w:World) (_az:s.size≤maxLen):Calls Tryz.prog 3 #[.string s] w fun e w'=>e=.returned (.bool true)∧Below w.heap.size w w':=by
 have f:Hid (FarB w.heap.size w.heap.size w w):=zz (FarB.refl _ _ _);go_enter Tryz.func3,Tryz.ntmps3
 go_wp2_with (fail)
 refine (awake07_any _).mono ?_;rintro _ w1 ⟨rfl,a⟩;replace f:=kF f a;have b7:=a.size;clear a
 by_cases b1:3000<s.size
 ·
  have am:((3000:Int)<(s.size:Int))=True:=by simp;omega
  go_wp2_with (fail)
  go_ret;exact ⟨rfl,refBelow f.out⟩
 have am:((3000:Int)<(s.size:Int))=False:=by simp;omega
 have aa:=md_len s;obtain ⟨z,a4⟩:∃ z,modE s=z:=⟨_,rfl⟩;have a7:=zz a4;rw [a4] at aa;clear a4
 go_wp2_with (fail)
 have T:=mparse_one s w1 (by omega);rw [a7.out] at T;refine T.mono ?_;clear T;rintro _ E ⟨px,W,kx,qx,J,lx,rfl,a,H,P⟩;replace f:=kF f a;have b8:=a.size;clear a;have m:=zz H;have p:=zz P;clear H P
 go_wp2_with (fail)
 generalize d:World.alloc E _=aw;have a0:=sizeA d;replace f:=fA f d;replace m:=mA m d;replace p:=mA p d;have g:=nB d (E.heap.size);clear d;generalize d:World.alloc aw _=w3;have a3:=sizeA d;replace f:=fA f d;replace g:=bA g d;replace m:=mA m d;replace p:=mA p d;have q:=nB d (E.heap.size+1);clear d
 have bg:w3.heap.size=E.heap.size+2:=by omega
 clear a0 a3;have D:=kc2 g;have C:=kc3 q;have G:=i01_0 E w3;have Y:=i012 E;clear D C;have T:=rmod_any s w3 (by omega);rw [a7.out] at T;refine T.mono ?_;clear T;rintro _ M ⟨py,ny,ky,qy,my,ly,rfl,a,H,P⟩;replace g:=kB g a;replace q:=kB q a;replace m:=kM m a;replace p:=kM p a;replace f:=kF f a;have be:=a.size;clear a;have r:=zz H;have t:=zz P;clear H P
 have a9:z.ds.length=W:=by have h:=m.out.len.1;rw [List.length_map] at h;exact h
 have ap:z.ds.length=ny:=by have h:=r.out.len.1;rw [List.length_map] at h;exact h
 have ab:z.rs.length=J:=by have h:=p.out.len.1;rw [List.length_map] at h;exact h
 have aq:z.rs.length=my:=by have h:=t.out.len.1;rw [List.length_map] at h;exact h
 obtain rfl:W=ny:=by omega
 obtain rfl:J=my:=by omega
 have a6:=zz a9;have ay:=zz ab;have b3:=r.out.len.2;have b2:=t.out.len.2
 have b6:J+cntD z.ds≤6001:=by omega
 clear a9 ap ab aq aa;clear G Y;have D:=kc2 g;have C:=kc3 q;have G:=i01_0 E M
 go_wp2_with (fail)
 clear D C;generalize d:World.alloc M _=ax;have a0:=sizeA d;replace f:=fA f d;replace g:=bA g d;replace q:=bA q d;replace m:=mA m d;replace p:=mA p d;replace r:=mA r d;replace t:=mA t d;have u:=nB d (M.heap.size);clear d;generalize d:World.alloc ax _=w5;have a3:=sizeA d;replace f:=fA f d;replace g:=bA g d;replace q:=bA q d;replace u:=bA u d;replace m:=mA m d;replace p:=mA p d;replace r:=mA r d;replace t:=mA t d;have A:=nB d (M.heap.size+1);clear d
 have bh:w5.heap.size=M.heap.size+2:=by omega
 clear a0 a3;clear G;have D:=kc2 g;have C:=kc3 q;have Q:=kc2 u;have R:=kc2 A;have G:=i01_01_0 E M w5;have Y:=i01_012 E M;clear D C Q R;refine (alike_any z.ds z.rs _ _ _ _ _ _ _ _ _ _ _ (memW_p0 m.out) (memW_p0 p.out) (memW_p0 r.out) (memW_p0 t.out)).mono ?_;rintro _ w6 ⟨rfl,a⟩;replace g:=kB g a;replace q:=kB q a;replace u:=kB u a;replace A:=kB A a;replace m:=kM m a;replace p:=kM p a;replace r:=kM r a;replace t:=kM t a;replace f:=kF f a;have bf:=a.size;clear a;clear G Y;have D:=kc2 g;have C:=kc3 q;have Q:=kc2 u;have R:=kc2 A;have G:=i01_01_0 E M w6
 go_wp2_with (fail)
 clear D C Q R;clear G
 go_loopw [8,49] (fun v i wr=>∃ j:Nat,j≤W∧i=.int .i64 j∧v=.int .i64 ((J+cntD (z.ds.take j):Nat):Int)∧Hid (FarB w.heap.size w.heap.size w wr)∧Hid (Below w6.heap.size w6 wr)) (fun _ i _=>W - (intOf i).toNat)
 case atStart=>exact ⟨0,Nat.zero_le _,rfl,by simp [cntD],f,zz (Below.refl _ _)⟩
 case round=>
  clear f;obtain ⟨j,hj,rfl,rfl,f,F⟩:=hrel;have bj:=F.out.size;replace g:=zz (g.out.keep F.out);replace q:=zz (q.out.keep F.out);replace u:=zz (u.out.keep F.out);replace A:=zz (A.out.keep F.out);replace m:=zz (memFar (Z:=fun _=>False) m.out (Far.of F.out) fun _ _ h=>h);replace p:=zz (memFar (Z:=fun _=>False) p.out (Far.of F.out) fun _ _ h=>h);replace r:=zz (memFar (Z:=fun _=>False) r.out (Far.of F.out) fun _ _ h=>h);replace t:=zz (memFar (Z:=fun _=>False) t.out (Far.of F.out) fun _ _ h=>h);have D:=kc2 g;have C:=kc3 q;have Q:=kc2 u;have R:=kc2 A;have G:=i01_01_0 E M wr
  by_cases b5:j<W
  ·
   have b4:=a6.out;have an:=cntD_le z.ds (j+1);obtain ⟨b,o,x,a1,m1,c1,a2,m2,c2,al,_,HX,x0,x1,x2,x3,x4,P0,P1⟩:=da_at (memW_p0 r.out) j (by omega);subst al
   have P:x.cons.length=m2:=by have h:=P1.len.1;rw [List.length_map] at h;exact h
   have X:=cntD_at HX.out;rw [P] at X;have ae:=zz X
   have hv:((J+cntD (z.ds.take j):Nat):Int)+(m2:Int)=((J+cntD (z.ds.take (j+1)):Nat):Int):=by rw [X];omega
   have ar:((J+cntD (z.ds.take (j+1)):Nat):Int)≤6001:=by omega
   generalize hV:((J+cntD (z.ds.take j):Nat):Int)=V at hv ⊢;generalize a8:((J+cntD (z.ds.take (j+1)):Nat):Int)=V2 at hv ar
   have bi:0≤V:=by omega
   have af:=zz a8;subst hv;clear X P an P0 P1 hV a8 ae HX
   go_wp2_with (fail)
   clear D C Q R
   go_roundw
   case rel=>exact ⟨j+1,by omega,by go_num,by rw [af.out],zz (f.out.below (below_new _ _)),zz (F.out.alloc F.out.size _)⟩
   case measure=>simp [intOf];omega
  have ao:j=W:=by omega
  have ac:z.ds.take j=z.ds:=List.take_of_length_le (by rw [a6.out];omega);rw [ac];clear ac ao;go_upto_region 15 with (fail);clear D C Q R;clear G;have D:=kc2 g;have C:=kc3 q;have Q:=kc2 u;have R:=kc2 A;have G:=i01_01_0 E M wr;have I:=kc2 g;have L:=kc2 u;refine wp_region_held_drew (S:=fun w'=>Far (fun _=>False) (wr) w') (by kernel_rfl) (Far.of (below_drew _)) (fun ag=>?_);refine takeA 0 (v:=?_) rfl ?_ ?_;rotate_left
  · (intro w y;replace I:=Far.c2z I y (fun e=>e);replace L:=Far.c2z L y (fun e=>e);go_simp;try rfl)
  (try simp only [pu]);refine takeA 2 (v:=?_) rfl ?_ ?_;rotate_left
  · (intro w y;replace I:=Far.c2z I y (fun e=>e);replace L:=Far.c2z L y (fun e=>e);go_simp;try rfl)
  (try simp only [pu]);refine callA 1 rfl fun K B=>?_;go_simp;refine (namesM_any z.rs _ _ _ _ _ _ _ (MemW.keep (w:=wr) (memW_p0 p.out) (below_drew _)) (by omega)).mono ?_;rintro e a5 ⟨au,mu,cu,rfl,a,H⟩;clear D C Q R;clear G;have O:=a;replace a:=Below.one a;replace g:=kB g a;replace q:=kB q a;replace u:=kB u a;replace A:=kB A a;replace m:=kM m a;replace p:=kM p a;replace r:=kM r a;replace t:=kM t a;replace f:=kF f a;have b9:=a.size;clear a;have N:Hid (Mem (Nw 0 wr.heap.size a5.heap.size) a5 _ _):=zz H;clear H;go_simp;refine B.out _ _ ?_ (fun ah=>?_);· exact Far.trans ag (Far.of O)
  clear B K;refine callA 3 rfl fun K B=>?_;go_simp;refine (namesR_any z.rs _ _ _ _ _ _ _ (memW_p0 t.out) (by omega)).mono ?_;rintro e ad ⟨av,mv,cv,rfl,a,H⟩;have O:=a;replace g:=kB g a;replace q:=kB q a;replace u:=kB u a;replace A:=kB A a;replace m:=kM m a;replace p:=kM p a;replace r:=kM r a;replace t:=kM t a;replace N:=kM N a;replace f:=kF f a;have ba:=a.size;clear a;have U:Hid (Mem (Nw 0 a5.heap.size ad.heap.size) ad _ _):=zz H;clear H;go_simp;refine B.out _ _ ?_ (fun ai=>?_);· exact Far.trans ah (Far.of O)
  clear B K;refine callA 4 rfl fun K B=>?_;go_simp;refine (texts_any _ (rd_memW (memW_p0 N.out)) (rd_memW (memW_p0 U.out)) (Nat.le_refl _) (Nat.le_refl _)).mono ?_;rintro e bk ⟨rfl,a⟩;have O:=a;replace g:=kB g a;replace q:=kB q a;replace u:=kB u a;replace A:=kB A a;replace m:=kM m a;replace p:=kM p a;replace r:=kM r a;replace t:=kM t a;replace N:=kM N a;replace U:=kM U a;replace f:=kF f a;have bb:=a.size;clear a;rw [beq_self_eq_true];go_simp;refine B.out _ _ ?_ (fun aj=>?_);· exact Far.trans ai (Far.of O)
  clear B K;refine takeA 5 (v:=?_) rfl ?_ ?_;rotate_left
  · (intro w y;go_simp;try rfl)
  (try simp only [pu]);refine takeA 6 (v:=?_) rfl ?_ ?_;rotate_left
  · (intro w y;replace I:=Far.c2z I y (fun e=>e);replace L:=Far.c2z L y (fun e=>e);go_simp;try rfl)
  (try simp only [pu]);refine takeA 8 (v:=?_) rfl ?_ ?_;rotate_left
  · (intro w y;go_simp;try rfl)
  (try simp only [pu]);refine callA 7 rfl fun K B=>?_;go_simp;refine (msize_any z.ds _ _ _ _ J _ _ (memW_p0 m.out) (by omega)).mono ?_;rintro e bl ⟨rfl,a⟩;have O:=a;replace g:=kB g a;replace q:=kB q a;replace u:=kB u a;replace A:=kB A a;replace m:=kM m a;replace p:=kM p a;replace r:=kM r a;replace t:=kM t a;replace N:=kM N a;replace U:=kM U a;replace f:=kF f a;have bc:=a.size;clear a;go_simp;refine B.out _ _ ?_ (fun ak=>?_);· exact Far.trans aj (Far.of O)
  clear B K;refine takeA 9 (v:=?_) rfl ?_ ?_;rotate_left
  · (intro w y;go_simp;try rfl)
  (try simp only [pu]);refine takeA 10 (v:=?_) rfl ?_ ?_;rotate_left
  · (intro w y;go_simp;try rfl)
  (try simp only [pu]);refine takeA 11 (v:=?_) rfl ?_ ?_;rotate_left
  · (intro w y;go_simp;try rfl)
  (try simp only [pu]);refine takeA 12 (v:=?_) rfl ?_ ?_;rotate_left
  · (intro w y;replace I:=Far.c2z I y (fun e=>e);replace L:=Far.c2z L y (fun e=>e);go_simp;try rfl)
  (try simp only [pu]);refine takeA 13 (v:=?_) rfl ?_ ?_;rotate_left
  · (intro w y;replace I:=Far.c2z I y (fun e=>e);replace L:=Far.c2z L y (fun e=>e);go_simp;try rfl)
  (try simp only [pu]);refine callA 14 rfl fun K B=>?_;go_simp;refine (same_mod (all2_refl daS_self _) (all2_refl ruS_self _) _ _ _ _ _ _ _ _ _ _ _ _ _ (memW_p0 m.out) (memW_p0 p.out) (memW_p0 m.out) (memW_p0 p.out)).mono ?_;rintro e bm ⟨rfl,a⟩;have O:=a;replace g:=kB g a;replace q:=kB q a;replace u:=kB u a;replace A:=kB A a;replace m:=kM m a;replace p:=kM p a;replace r:=kM r a;replace t:=kM t a;replace N:=kM N a;replace U:=kM U a;replace f:=kF f a;have bd:=a.size;clear a;go_simp;refine B.out _ _ ?_ (fun b0=>?_);· exact Far.trans ak (Far.of O)
  clear B K;refine takeA 15 (v:=?_) rfl ?_ ?_;rotate_left
  · (intro w y;go_simp;try rfl)
  (try simp only [pu]);refine takeA 16 (v:=?_) rfl ?_ ?_;rotate_left
  · (intro w y;go_simp;try rfl)
  (try simp only [pu]);refine wpAnyH_done (by kernel_rfl) ?_ _
  go_wp2_with (fail)
  go_ret;exact ⟨rfl,refBelow f.out⟩
end
end Go.Proofs.YtcoiagfeoonpbaaGreat
