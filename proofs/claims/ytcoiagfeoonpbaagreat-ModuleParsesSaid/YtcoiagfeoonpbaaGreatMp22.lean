/-
  The module reader's part: an expression or a pattern, by the parser. No condition but how the reader and the tokens lie.
-/
import Derived.Test.YtcoiagfeoonpbaaGreatMp16
import Derived.Test.YtcoiagfeoonpbaaGreatMp12
import Derived.Test.YtcoiagfeoonpbaaGreatMp13
import Derived.Test.YtcoiagfeoonpbaaGreatMp10
import Derived.StillTailTactics
set_option maxHeartbeats 20000000
set_option maxRecDepth 100000
namespace Go.Proofs.YtcoiagfeoonpbaaGreat
section
open Go.RowKit
def PAns (ts:List Tk) (aL:Option Addr) (n cap q:Nat) (x:Ex) (s':MS) (W:World) (e:Ending) (w':World):Prop:=
  ∃ a m c,e=.returned (exV x a m c)∧FarQ q W w'∧RS ts aL n cap q s' ((0:Nat):Int) w'∧Mem (Nw 0 W.heap.size w'.heap.size) w' (.s 6 (Ex.rows x.args)) (.slice a m c)
theorem threeL {P:Program} {e:Region.Mode} {Q:Exit→Act→World→Prop} {S:World→Prop} {l:List Oper} (i j k:Nat) {g h ok:Oper} {f:Nat} {d:Array Bool} {a:Act} {w:World} (q:l[i]?=some g) (r:l[j]?=some h) (s:l[k]?=some ok) (t:Region.ready e l.toArray d=[i,j,k]) (u:Region.wanted g (yielded l.toArray a.tmps)=true) (v:Region.wanted h (yielded l.toArray a.tmps)=true) (x:Region.wanted ok (yielded l.toArray a.tmps)=true)
    (m:∀ K':Act→World→Prop,Shut (∀ a w,S w→(S w→wpAnyH P e l.toArray Q S f (d.setIfInBounds i true) a w)→K' a w)→Oper.wp P g a w K' Q)
    (o:∀ K':Act→World→Prop,Shut (∀ a w,S w→(S w→wpAnyH P e l.toArray Q S f (d.setIfInBounds j true) a w)→K' a w)→Oper.wp P h a w K' Q)
    (p:∀ K':Act→World→Prop,Shut (∀ a w,S w→(S w→wpAnyH P e l.toArray Q S f (d.setIfInBounds k true) a w)→K' a w)→Oper.wp P ok a w K' Q):wpAnyH P e l.toArray Q S (f+1) d a w:=
  wpAnyH_ready t (by simp) (AllReadyH.cons (by simpa using q) (fun K' b=>by rw [if_pos u];exact m K' b) (AllReadyH.cons (by simpa using r) (fun K' b=>by rw [if_pos v];exact o K' b) (AllReadyH.cons (by simpa using s) (fun K' b=>by rw [if_pos x];exact p K' b) AllReadyH.nil)))
theorem noEx_mem {base:Nat} {w:World} :Mem (Nw 0 base w.heap.size) w (.s 6 (Ex.rows noEx.args)) (.slice none 0 0):=by
  show Mem _ _ (.s 6 (Ex.rows [])) _
  rw [Ex.rows_eq];exact .e none 0 6 (by decide)
theorem RS.fault {ts:List Tk} {aL:Option Addr} {n cap q:Nat} {s:MS} {d l c:Int} {w:World} (h:RS ts aL n cap q s d w):RS ts aL n cap q ⟨s.i,some (l,c)⟩ d (((w.setCell ⟨q,3,none⟩ (.int .i64 1)).setCell ⟨q,4,none⟩ (.int .i64 l)).setCell ⟨q,5,none⟩ (.int .i64 c)):=
  h.of ((FarQ.set _ _ _).trans ((FarQ.set _ _ _).trans (FarQ.set _ _ _))) (((h.bo.set 3 _).set 4 _).set 5 _)
end
section
open Go.RowKit
section
variable {ts:List Tk} {aL:Option Addr} {n cap q:Nat}
theorem mpart_yes {F:Nat} {nt:Nt} {fn:FuncId} (hE:∀ args w,Sem.run Tryz.prog (callFunc fn args) w=.ok (.enter fn args) w)
  (HC:∀ (i:Nat) (r:Rd1) (w:World),MemW w (.s 5 (tkRows ts)) (.slice aL n cap)→n≤1048576→readE ts F nt i 0=some r→Calls Tryz.prog fn #[.slice aL n cap,.int .i64 (i:Int)] w (RunAns r w))
  {s s':MS} {x:Ex} (w:World) (Z:partM ts F nt s=some (x,s')) (hp:RS ts aL n cap q s ((0:Nat):Int) w) (ad:s.ok=true→∀ l c,readE ts F nt s.i 0≠some (.bad l c)):
  Calls Tryz.prog 57 #[.pointer (some ⟨q,0,none⟩),.func (.func fn) #[] #[]] w (PAns ts aL n cap q x s' w):=by
 have d:=zz hp;have ag:=hp.lt;have g:=zz (FarB.refl q w.heap.size w);clear hp;unfold partM at Z;go_enter Tryz.func57,Tryz.ntmps57;go_upto_region 1 with (fail);generalize a:World.alloc w _=H;have ah:=sizeA a;replace d:=rpA d a;replace g:=fA g a;have f:=nB a (w.heap.size);clear a;have N:=kc6 f
 go_wp2_with (fail)
 refine (mok_any _ d.out).mono ?_;rintro _ _ ⟨rfl,rfl⟩
 by_cases a3:s.ok=false
 ·
  rw [if_pos a3] at Z;cases Z;rw [a3]
  go_wp2_with (fail)
  clear N;generalize a:World.setCell _ ⟨w.heap.size,5,none⟩ _=u;replace d:=rpO6 d a;replace g:=fN6 g a;replace f:=bS6 f a;clear a;have B:=kc6 f;refine bodyPost_ret (v:=.agg #[.int .i64 0,.string ⟨#[]⟩,.int .i64 0,.slice none 0 0,.int .i64 0,.int .i64 0]) (by clear d g f;simp [results,Tryz.results57,go_sem,B]) rfl ?_;exact ⟨_,_,_,rfl,g.out.out,d.out,noEx_mem⟩
 rw [if_neg a3] at Z
 have M:s.ok=true:=by simpa using a3
 rw [M];go_upto_region 3 with (fail)
 rcases a1:readE ts F nt s.i 0 with _ | ⟨y,j⟩ | ⟨l_,c_⟩
 · (rw [a1] at Z;cases Z)
 ·
  rw [a1] at Z;simp only at Z;cases Z;clear N;have D:=kcR d;refine wp_region_held_drew (S:=fun w'=>Far (fun b=>H.heap.size≤b) (H) w') (by kernel_rfl) (Far.of (below_drew _)) (fun a4=>?_);refine takeA 0 (v:=?_) rfl ?_ ?_;rotate_left
  · (intro w z;replace D:=Far.c6z D z (by intro e;have e:_≤q:=e;omega);go_simp;try rfl)
  (try simp only [pu]);refine takeA 1 (v:=?_) rfl ?_ ?_;rotate_left
  · (intro w z;replace D:=Far.c6z D z (by intro e;have e:_≤q:=e;omega);go_simp;try rfl)
  (try simp only [pu]);refine takeA 2 (v:=?_) rfl ?_ ?_;rotate_left
  · (intro w z;replace D:=Far.c6z D z (by intro e;have e:_≤q:=e;omega);go_simp;try rfl)
  (try simp only [pu]);refine takeA 3 (v:=?_) rfl ?_ ?_;rotate_left
  · (intro w z;replace D:=Far.c6z D z (by intro e;have e:_≤q:=e;omega);go_simp;try rfl)
  (try simp only [pu]);refine takeA 4 (v:=?_) rfl ?_ ?_;rotate_left
  · (intro w z;replace D:=Far.c6z D z (by intro e;have e:_≤q:=e;omega);go_simp;try rfl)
  (try simp only [pu]);refine takeA 5 (v:=?_) rfl ?_ ?_;rotate_left
  · (intro w z;replace D:=Far.c6z D z (by intro e;have e:_≤q:=e;omega);go_simp;try rfl)
  (try simp only [pu]);refine takeA 6 (v:=?_) rfl ?_ ?_;rotate_left
  · (intro w z;replace D:=Far.c6z D z (by intro e;have e:_≤q:=e;omega);go_simp;try rfl)
  (try simp only [pu]);refine takeA 7 (v:=?_) rfl ?_ ?_;rotate_left
  · (intro w z;replace D:=Far.c6z D z (by intro e;have e:_≤q:=e;omega);go_simp;try rfl)
  (try simp only [pu]);refine takeA 8 (v:=?_) rfl ?_ ?_;rotate_left
  · (intro w z;replace D:=Far.c6z D z (by intro e;have e:_≤q:=e;omega);go_simp;try rfl)
  (try simp only [pu]);clear D;refine threeL 9 14 15 rfl rfl rfl (by kernel_rfl) (by rfl) (by rfl) (by rfl) (fun K h=>?_) (fun K h=>?_) (fun K h=>?_)
  ·
   go_simp;refine (HC s.i (.ok x j) _ d.out.drew.mem d.out.sm a1).mono ?_;rintro e u ⟨V,X,W,rfl,A,L⟩;have Y:=zz A;replace A:=Below.one A;have E:=FarQ.of (q:=q) A;have ai:H.heap.size≤u.heap.size:=E.size;replace f:=qB f E;replace g:=qF g E;replace d:=krP d A;clear E A;have J:Hid (Mem (Nw 0 H.heap.size _) _ _ _):=zz L;clear L;simp only [exV];have m:Hid (Mem (NwS (Bt H.heap.size u.heap.size) u.heap.size) u _ _):=zz (memS_bt J.out (by omega));clear J;go_simp;refine h.out _ _ ?_ (fun a0=>?_);· exact Far.trans a4 (Far.of Y.out)
   clear h K;refine takeA 10 (v:=?_) rfl ?_ ?_;rotate_left
   · (intro w z;go_simp;try rfl)
   (try simp only [pu]);refine takeA 11 (v:=?_) rfl ?_ ?_;rotate_left
   · (intro w z;go_simp;try rfl)
   (try simp only [pu]);refine takeA 12 (v:=?_) rfl ?_ ?_;rotate_left
   · (intro w z;go_simp;try rfl)
   (try simp only [pu]);refine takeA 13 (v:=?_) rfl ?_ ?_;rotate_left
   · (intro w z;go_simp;try rfl)
   (try simp only [pu]);refine twoL 14 15 rfl rfl (by kernel_rfl) (by rfl) (by rfl) (fun K h=>?_) (fun K h=>?_)
   ·
    go_simp;refine h.out _ _ ?_ (fun Q=>?_);· exact Far.trans a0 (Far.of (below_new _ _))
    clear h K;generalize a:(u.alloc (.cells #[.int .i64 0,.string ⟨#[]⟩,.int .i64 0,.slice none 0 0,.int .i64 0,.int .i64 0] 60))=C at *;have a7:=sizeA a;replace d:=rpA d a;replace g:=fA g a;replace f:=bA f a;replace m:=yA m a;have o:=nB a (u.heap.size);clear a;refine callA 15 rfl fun K h=>?_;go_simp;refine h.out _ _ ?_ (fun R=>?_);· exact Far.trans Q (Far.of (below_new _ _))
    clear h K;generalize a:(C.alloc (.cells #[.int .i64 0,.int .i64 0,.int .i64 0] 31))=O at *;have a8:=sizeA a;replace d:=rpA d a;replace g:=fA g a;replace f:=bA f a;replace o:=bA o a;replace m:=yA m a;have t:=nB a (u.heap.size+1);clear a;have G:=kc6 o;have I:=chain5 q w.heap.size u.heap.size (u.heap.size+1) O.heap.size;refine callA 16 rfl fun K h=>?_;go_simp;refine h.out _ _ ?_ (fun T=>?_);· exact (by (iterate 6 (refine Far.setCell (p:=⟨u.heap.size,_,none⟩) ?_ (by show H.heap.size≤u.heap.size;omega) _));exact R)
    clear h K;clear G;generalize a:World.setCell _ ⟨u.heap.size,5,none⟩ _=w5 at *;have a9:=sizeS6 a;replace d:=rpO6 d a;replace g:=fN6 g a;replace f:=bF6 f a;replace o:=bS6 o a;replace t:=bF6 t a;replace m:=yS6 m a;clear a;clear I;have B:=kc3 t;have I:=chain5 q w.heap.size u.heap.size (u.heap.size+1) w5.heap.size;refine takeA 17 (v:=?_) rfl ?_ ?_;rotate_left
    · (intro w z;go_simp;try rfl)
    (try simp only [pu]);refine callA 18 rfl fun K h=>?_;go_simp;refine h.out _ _ ?_ (fun a2=>?_);· exact (by (iterate 3 (refine Far.setCell (p:=⟨(u.heap.size+1),_,none⟩) ?_ (by show H.heap.size≤(u.heap.size+1);omega) _));exact T)
    clear h K;refine wpAnyH_done (by kernel_rfl) ?_ _;clear B;generalize a:World.setCell _ ⟨(u.heap.size+1),2,none⟩ _=P;have aa:=sizeS3 a;replace d:=rpO3 d a;replace g:=fN3 g a;replace f:=bF3 f a;replace o:=bF3 o a;replace t:=bS3 t a;replace m:=yS3 m a;clear a;clear I;have D:=kcR d;have B:=kc3 t;have I:=chain5 q w.heap.size u.heap.size (u.heap.size+1) P.heap.size;go_upto_region 8 with (fail);clear D B;generalize a:World.setCell P _ _=w7;have ac:=sizeS1 a;replace d:=zz (d.out.setIE (k:=j) a (by omega));replace g:=zz (g.out.setQE a);replace f:=bF1 f a;replace o:=bF1 o a;replace m:=yS1 m a;clear a;clear I;have N:=kc6 f;have G:=kc6 o
    go_wp2_with (fail)
    clear N G;generalize a:World.setCell _ ⟨w.heap.size,5,none⟩ _=w8;replace d:=rpO6 d a;replace g:=fN6 g a;replace f:=bS6 f a;replace m:=yS6 m a;clear a
    have U:s.b=none:=by unfold MS.ok at M;simpa using M
    rw [U] at d;have B:=kc6 f;refine bodyPost_ret (v:=.agg #[.int .i64 x.kind,.string x.name,.int .i64 x.n,.slice V X W,.int .i64 x.line,.int .i64 x.col]) (by clear d g f o t m;simp [results,Tryz.results57,go_sem,B]) rfl ?_;exact ⟨_,_,_,rfl,g.out.out,d.out,(memS_nw m.out (fun b A=>Nat.le_trans (by omega) A.1))⟩
   ·
    go_simp;refine h.out _ _ ?_ (fun Q=>?_);· exact Far.trans a0 (Far.of (below_new _ _))
    clear h K;generalize a:(u.alloc (.cells #[.int .i64 0,.int .i64 0,.int .i64 0] 31))=C at *;have a7:=sizeA a;replace d:=rpA d a;replace g:=fA g a;replace f:=bA f a;replace m:=yA m a;have t:=nB a (u.heap.size);clear a;refine callA 14 rfl fun K h=>?_;go_simp;refine h.out _ _ ?_ (fun R=>?_);· exact Far.trans Q (Far.of (below_new _ _))
    clear h K;generalize a:(C.alloc (.cells #[.int .i64 0,.string ⟨#[]⟩,.int .i64 0,.slice none 0 0,.int .i64 0,.int .i64 0] 60))=O at *;have a8:=sizeA a;replace d:=rpA d a;replace g:=fA g a;replace f:=bA f a;replace t:=bA t a;replace m:=yA m a;have o:=nB a (u.heap.size+1);clear a;have G:=kc6 o;have I:=chain5 q w.heap.size u.heap.size (u.heap.size+1) O.heap.size;refine callA 16 rfl fun K h=>?_;go_simp;refine h.out _ _ ?_ (fun T=>?_);· exact (by (iterate 6 (refine Far.setCell (p:=⟨(u.heap.size+1),_,none⟩) ?_ (by show H.heap.size≤(u.heap.size+1);omega) _));exact R)
    clear h K;clear G;generalize a:World.setCell _ ⟨(u.heap.size+1),5,none⟩ _=w5 at *;have a9:=sizeS6 a;replace d:=rpO6 d a;replace g:=fN6 g a;replace f:=bF6 f a;replace t:=bF6 t a;replace o:=bS6 o a;replace m:=yS6 m a;clear a;clear I;have B:=kc3 t;have I:=chain5 q w.heap.size u.heap.size (u.heap.size+1) w5.heap.size;refine takeA 17 (v:=?_) rfl ?_ ?_;rotate_left
    · (intro w z;go_simp;try rfl)
    (try simp only [pu]);refine callA 18 rfl fun K h=>?_;go_simp;refine h.out _ _ ?_ (fun a2=>?_);· exact (by (iterate 3 (refine Far.setCell (p:=⟨u.heap.size,_,none⟩) ?_ (by show H.heap.size≤u.heap.size;omega) _));exact T)
    clear h K;refine wpAnyH_done (by kernel_rfl) ?_ _;clear B;generalize a:World.setCell _ ⟨u.heap.size,2,none⟩ _=P;have aa:=sizeS3 a;replace d:=rpO3 d a;replace g:=fN3 g a;replace f:=bF3 f a;replace t:=bS3 t a;replace o:=bF3 o a;replace m:=yS3 m a;clear a;clear I;have D:=kcR d;have B:=kc3 t;have I:=chain5 q w.heap.size u.heap.size (u.heap.size+1) P.heap.size;go_upto_region 8 with (fail);clear D B;generalize a:World.setCell P _ _=w7;have ac:=sizeS1 a;replace d:=zz (d.out.setIE (k:=j) a (by omega));replace g:=zz (g.out.setQE a);replace f:=bF1 f a;replace o:=bF1 o a;replace m:=yS1 m a;clear a;clear I;have N:=kc6 f;have G:=kc6 o
    go_wp2_with (fail)
    clear N G;generalize a:World.setCell _ ⟨w.heap.size,5,none⟩ _=w8;replace d:=rpO6 d a;replace g:=fN6 g a;replace f:=bS6 f a;replace m:=yS6 m a;clear a
    have U:s.b=none:=by unfold MS.ok at M;simpa using M
    rw [U] at d;have B:=kc6 f;refine bodyPost_ret (v:=.agg #[.int .i64 x.kind,.string x.name,.int .i64 x.n,.slice V X W,.int .i64 x.line,.int .i64 x.col]) (by clear d g f t o m;simp [results,Tryz.results57,go_sem,B]) rfl ?_;exact ⟨_,_,_,rfl,g.out.out,d.out,(memS_nw m.out (fun b A=>Nat.le_trans (by omega) A.1))⟩
  ·
   go_simp;refine h.out _ _ ?_ (fun a0=>?_);· exact Far.trans a4 (Far.of (below_new _ _))
   clear h K;generalize a:(H.alloc (.cells #[.int .i64 0,.string ⟨#[]⟩,.int .i64 0,.slice none 0 0,.int .i64 0,.int .i64 0] 60))=ab at *;have a5:=sizeA a;replace d:=rpA d a;replace g:=fA g a;replace f:=bA f a;have o:=nB a (w.heap.size+1);clear a;generalize a:(ab.drew)=u at *;have a6:=sizeD a;replace d:=rpD d a;replace g:=fD g a;replace f:=bD f a;replace o:=bD o a;clear a
   have ae:u.heap.size=w.heap.size+2:=by omega
   clear a5 a6;refine twoL 9 15 rfl rfl (by kernel_rfl) (by rfl) (by rfl) (fun K h=>?_) (fun K h=>?_)
   ·
    go_simp;refine (HC s.i (.ok x j) _ d.out.mem d.out.sm a1).mono ?_;rintro e C ⟨V,X,W,rfl,A,L⟩;have Y:=zz A;have E:=FarQ.of (q:=q) A;have af:u.heap.size≤C.heap.size:=E.size;replace f:=qB f E;replace o:=qB o E;replace g:=qF g E;replace d:=krP d A;clear E A;have J:Hid (Mem (Nw 0 u.heap.size _) _ _ _):=zz L;clear L;simp only [exV];have m:Hid (Mem (NwS (Bt u.heap.size C.heap.size) C.heap.size) C _ _):=zz (memS_bt J.out (by omega));clear J;go_simp;refine h.out _ _ ?_ (fun Q=>?_);· exact Far.trans a0 (Far.of Y.out)
    clear h K;refine takeA 10 (v:=?_) rfl ?_ ?_;rotate_left
    · (intro w z;go_simp;try rfl)
    (try simp only [pu]);refine takeA 11 (v:=?_) rfl ?_ ?_;rotate_left
    · (intro w z;go_simp;try rfl)
    (try simp only [pu]);refine takeA 12 (v:=?_) rfl ?_ ?_;rotate_left
    · (intro w z;go_simp;try rfl)
    (try simp only [pu]);refine takeA 13 (v:=?_) rfl ?_ ?_;rotate_left
    · (intro w z;go_simp;try rfl)
    (try simp only [pu]);refine callA 15 rfl fun K h=>?_;go_simp;refine h.out _ _ ?_ (fun R=>?_);· exact Far.trans Q (Far.of (below_new _ _))
    clear h K;generalize a:(C.alloc (.cells #[.int .i64 0,.int .i64 0,.int .i64 0] 31))=O at *;have a8:=sizeA a;replace d:=rpA d a;replace g:=fA g a;replace f:=bA f a;replace o:=bA o a;replace m:=yA m a;have t:=nB a (C.heap.size);clear a;have G:=kc6 o;refine callA 16 rfl fun K h=>?_;go_simp;refine h.out _ _ ?_ (fun T=>?_);· exact (by (iterate 6 (refine Far.setCell (p:=⟨(w.heap.size+1),_,none⟩) ?_ (by show H.heap.size≤(w.heap.size+1);omega) _));exact R)
    clear h K;clear G;generalize a:World.setCell _ ⟨(w.heap.size+1),5,none⟩ _=w5 at *;have a9:=sizeS6 a;replace d:=rpO6 d a;replace g:=fN6 g a;replace f:=bF6 f a;replace o:=bS6 o a;replace t:=bF6 t a;replace m:=yS6 m a;clear a;have B:=kc3 t;have I:=chain5 q w.heap.size (w.heap.size+1) C.heap.size w5.heap.size;refine takeA 17 (v:=?_) rfl ?_ ?_;rotate_left
    · (intro w z;go_simp;try rfl)
    (try simp only [pu]);refine callA 18 rfl fun K h=>?_;go_simp;refine h.out _ _ ?_ (fun a2=>?_);· exact (by (iterate 3 (refine Far.setCell (p:=⟨C.heap.size,_,none⟩) ?_ (by show H.heap.size≤C.heap.size;omega) _));exact T)
    clear h K;refine wpAnyH_done (by kernel_rfl) ?_ _;clear B;generalize a:World.setCell _ ⟨C.heap.size,2,none⟩ _=P;have aa:=sizeS3 a;replace d:=rpO3 d a;replace g:=fN3 g a;replace f:=bF3 f a;replace o:=bF3 o a;replace t:=bS3 t a;replace m:=yS3 m a;clear a;clear I;have D:=kcR d;have B:=kc3 t;go_upto_region 8 with (fail);clear D B;generalize a:World.setCell P _ _=w7;replace d:=zz (d.out.setIE (k:=j) a (by omega));replace g:=zz (g.out.setQE a);replace f:=bF1 f a;replace o:=bF1 o a;replace m:=yS1 m a;clear a;have N:=kc6 f;have G:=kc6 o
    go_wp2_with (fail)
    clear N G;generalize a:World.setCell _ ⟨w.heap.size,5,none⟩ _=w8;replace d:=rpO6 d a;replace g:=fN6 g a;replace f:=bS6 f a;replace m:=yS6 m a;clear a
    have U:s.b=none:=by unfold MS.ok at M;simpa using M
    rw [U] at d;have B:=kc6 f;refine bodyPost_ret (v:=.agg #[.int .i64 x.kind,.string x.name,.int .i64 x.n,.slice V X W,.int .i64 x.line,.int .i64 x.col]) (by clear d g f o t m;simp [results,Tryz.results57,go_sem,B]) rfl ?_;exact ⟨_,_,_,rfl,g.out.out,d.out,(memS_nw m.out (fun b A=>Nat.le_trans (by omega) A.1))⟩
   ·
    go_simp;refine h.out _ _ ?_ (fun Q=>?_);· exact Far.trans a0 (Far.of (below_new _ _))
    clear h K;generalize a:(u.alloc (.cells #[.int .i64 0,.int .i64 0,.int .i64 0] 31))=C at *;have a7:=sizeA a;replace d:=rpA d a;replace g:=fA g a;replace f:=bA f a;replace o:=bA o a;have t:=nB a (w.heap.size+2);clear a;refine callA 9 rfl fun K h=>?_;go_simp;refine (HC s.i (.ok x j) _ d.out.mem d.out.sm a1).mono ?_;rintro e O ⟨V,X,W,rfl,A,L⟩;have Y:=zz A;have E:=FarQ.of (q:=q) A;replace f:=qB f E;replace o:=qB o E;replace t:=qB t E;replace g:=qF g E;replace d:=krP d A;clear E A;have J:Hid (Mem (Nw 0 C.heap.size _) _ _ _):=zz L;clear L;simp only [exV];have m:Hid (Mem (NwS (Bt C.heap.size O.heap.size) O.heap.size) O _ _):=zz (memS_bt J.out (by omega));clear J;go_simp;refine h.out _ _ ?_ (fun R=>?_);· exact Far.trans Q (Far.of Y.out)
    clear h K;refine takeA 10 (v:=?_) rfl ?_ ?_;rotate_left
    · (intro w z;go_simp;try rfl)
    (try simp only [pu]);refine takeA 11 (v:=?_) rfl ?_ ?_;rotate_left
    · (intro w z;go_simp;try rfl)
    (try simp only [pu]);refine takeA 12 (v:=?_) rfl ?_ ?_;rotate_left
    · (intro w z;go_simp;try rfl)
    (try simp only [pu]);refine takeA 13 (v:=?_) rfl ?_ ?_;rotate_left
    · (intro w z;go_simp;try rfl)
    (try simp only [pu]);have G:=kc6 o;refine callA 16 rfl fun K h=>?_;go_simp;refine h.out _ _ ?_ (fun T=>?_);· exact (by (iterate 6 (refine Far.setCell (p:=⟨(w.heap.size+1),_,none⟩) ?_ (by show H.heap.size≤(w.heap.size+1);omega) _));exact R)
    clear h K;clear G;generalize a:World.setCell _ ⟨(w.heap.size+1),5,none⟩ _=w5 at *;replace d:=rpO6 d a;replace g:=fN6 g a;replace f:=bF6 f a;replace o:=bS6 o a;replace t:=bF6 t a;replace m:=yS6 m a;clear a;have B:=kc3 t;refine takeA 17 (v:=?_) rfl ?_ ?_;rotate_left
    · (intro w z;go_simp;try rfl)
    (try simp only [pu]);refine callA 18 rfl fun K h=>?_;go_simp;refine h.out _ _ ?_ (fun a2=>?_);· exact (by (iterate 3 (refine Far.setCell (p:=⟨(w.heap.size+2),_,none⟩) ?_ (by show H.heap.size≤(w.heap.size+2);omega) _));exact T)
    clear h K;refine wpAnyH_done (by kernel_rfl) ?_ _;clear B;generalize a:World.setCell _ ⟨(w.heap.size+2),2,none⟩ _=P;replace d:=rpO3 d a;replace g:=fN3 g a;replace f:=bF3 f a;replace o:=bF3 o a;replace t:=bS3 t a;replace m:=yS3 m a;clear a;have D:=kcR d;have B:=kc3 t;go_upto_region 8 with (fail);clear D B;generalize a:World.setCell P _ _=w7;replace d:=zz (d.out.setIE (k:=j) a (by omega));replace g:=zz (g.out.setQE a);replace f:=bF1 f a;replace o:=bF1 o a;replace m:=yS1 m a;clear a;have N:=kc6 f;have G:=kc6 o
    go_wp2_with (fail)
    clear N G;generalize a:World.setCell _ ⟨w.heap.size,5,none⟩ _=w8;replace d:=rpO6 d a;replace g:=fN6 g a;replace f:=bS6 f a;replace m:=yS6 m a;clear a
    have U:s.b=none:=by unfold MS.ok at M;simpa using M
    rw [U] at d;have B:=kc6 f;refine bodyPost_ret (v:=.agg #[.int .i64 x.kind,.string x.name,.int .i64 x.n,.slice V X W,.int .i64 x.line,.int .i64 x.col]) (by clear d g f o t m;simp [results,Tryz.results57,go_sem,B]) rfl ?_;exact ⟨_,_,_,rfl,g.out.out,d.out,(memS_nw m.out (fun b A=>Nat.le_trans (by omega) A.1))⟩
  ·
   go_simp;refine h.out _ _ ?_ (fun a0=>?_);· exact Far.trans a4 (Far.of (below_new _ _))
   clear h K;generalize a:(H.alloc (.cells #[.int .i64 0,.int .i64 0,.int .i64 0] 31))=ab at *;have a5:=sizeA a;replace d:=rpA d a;replace g:=fA g a;replace f:=bA f a;have t:=nB a (w.heap.size+1);clear a;generalize a:(ab.drew)=u at *;have a6:=sizeD a;replace d:=rpD d a;replace g:=fD g a;replace f:=bD f a;replace t:=bD t a;clear a
   have ae:u.heap.size=w.heap.size+2:=by omega
   clear a5 a6;refine twoL 9 14 rfl rfl (by kernel_rfl) (by rfl) (by rfl) (fun K h=>?_) (fun K h=>?_)
   ·
    go_simp;refine (HC s.i (.ok x j) _ d.out.mem d.out.sm a1).mono ?_;rintro e C ⟨V,X,W,rfl,A,L⟩;have Y:=zz A;have E:=FarQ.of (q:=q) A;have af:u.heap.size≤C.heap.size:=E.size;replace f:=qB f E;replace t:=qB t E;replace g:=qF g E;replace d:=krP d A;clear E A;have J:Hid (Mem (Nw 0 u.heap.size _) _ _ _):=zz L;clear L;simp only [exV];have m:Hid (Mem (NwS (Bt u.heap.size C.heap.size) C.heap.size) C _ _):=zz (memS_bt J.out (by omega));clear J;go_simp;refine h.out _ _ ?_ (fun Q=>?_);· exact Far.trans a0 (Far.of Y.out)
    clear h K;refine takeA 10 (v:=?_) rfl ?_ ?_;rotate_left
    · (intro w z;go_simp;try rfl)
    (try simp only [pu]);refine takeA 11 (v:=?_) rfl ?_ ?_;rotate_left
    · (intro w z;go_simp;try rfl)
    (try simp only [pu]);refine takeA 12 (v:=?_) rfl ?_ ?_;rotate_left
    · (intro w z;go_simp;try rfl)
    (try simp only [pu]);refine takeA 13 (v:=?_) rfl ?_ ?_;rotate_left
    · (intro w z;go_simp;try rfl)
    (try simp only [pu]);refine callA 14 rfl fun K h=>?_;go_simp;refine h.out _ _ ?_ (fun R=>?_);· exact Far.trans Q (Far.of (below_new _ _))
    clear h K;generalize a:(C.alloc (.cells #[.int .i64 0,.string ⟨#[]⟩,.int .i64 0,.slice none 0 0,.int .i64 0,.int .i64 0] 60))=O at *;have a8:=sizeA a;replace d:=rpA d a;replace g:=fA g a;replace f:=bA f a;replace t:=bA t a;replace m:=yA m a;have o:=nB a (C.heap.size);clear a;have G:=kc6 o;have I:=chain5 q w.heap.size (w.heap.size+1) C.heap.size O.heap.size;refine callA 16 rfl fun K h=>?_;go_simp;refine h.out _ _ ?_ (fun T=>?_);· exact (by (iterate 6 (refine Far.setCell (p:=⟨C.heap.size,_,none⟩) ?_ (by show H.heap.size≤C.heap.size;omega) _));exact R)
    clear h K;clear G;generalize a:World.setCell _ ⟨C.heap.size,5,none⟩ _=w5 at *;have a9:=sizeS6 a;replace d:=rpO6 d a;replace g:=fN6 g a;replace f:=bF6 f a;replace t:=bF6 t a;replace o:=bS6 o a;replace m:=yS6 m a;clear a;clear I;have B:=kc3 t;refine takeA 17 (v:=?_) rfl ?_ ?_;rotate_left
    · (intro w z;go_simp;try rfl)
    (try simp only [pu]);refine callA 18 rfl fun K h=>?_;go_simp;refine h.out _ _ ?_ (fun a2=>?_);· exact (by (iterate 3 (refine Far.setCell (p:=⟨(w.heap.size+1),_,none⟩) ?_ (by show H.heap.size≤(w.heap.size+1);omega) _));exact T)
    clear h K;refine wpAnyH_done (by kernel_rfl) ?_ _;clear B;generalize a:World.setCell _ ⟨(w.heap.size+1),2,none⟩ _=P;have aa:=sizeS3 a;replace d:=rpO3 d a;replace g:=fN3 g a;replace f:=bF3 f a;replace t:=bS3 t a;replace o:=bF3 o a;replace m:=yS3 m a;clear a;have D:=kcR d;have B:=kc3 t;have I:=chain5 q w.heap.size (w.heap.size+1) C.heap.size P.heap.size;go_upto_region 8 with (fail);clear D B;generalize a:World.setCell P _ _=w7;have ac:=sizeS1 a;replace d:=zz (d.out.setIE (k:=j) a (by omega));replace g:=zz (g.out.setQE a);replace f:=bF1 f a;replace o:=bF1 o a;replace m:=yS1 m a;clear a;clear I;have N:=kc6 f;have G:=kc6 o
    go_wp2_with (fail)
    clear N G;generalize a:World.setCell _ ⟨w.heap.size,5,none⟩ _=w8;replace d:=rpO6 d a;replace g:=fN6 g a;replace f:=bS6 f a;replace m:=yS6 m a;clear a
    have U:s.b=none:=by unfold MS.ok at M;simpa using M
    rw [U] at d;have B:=kc6 f;refine bodyPost_ret (v:=.agg #[.int .i64 x.kind,.string x.name,.int .i64 x.n,.slice V X W,.int .i64 x.line,.int .i64 x.col]) (by clear d g f t o m;simp [results,Tryz.results57,go_sem,B]) rfl ?_;exact ⟨_,_,_,rfl,g.out.out,d.out,(memS_nw m.out (fun b A=>Nat.le_trans (by omega) A.1))⟩
   ·
    go_simp;refine h.out _ _ ?_ (fun Q=>?_);· exact Far.trans a0 (Far.of (below_new _ _))
    clear h K;generalize a:(u.alloc (.cells #[.int .i64 0,.string ⟨#[]⟩,.int .i64 0,.slice none 0 0,.int .i64 0,.int .i64 0] 60))=C at *;have a7:=sizeA a;replace d:=rpA d a;replace g:=fA g a;replace f:=bA f a;replace t:=bA t a;have o:=nB a (w.heap.size+2);clear a;refine callA 9 rfl fun K h=>?_;go_simp;refine (HC s.i (.ok x j) _ d.out.mem d.out.sm a1).mono ?_;rintro e O ⟨V,X,W,rfl,A,L⟩;have Y:=zz A;have E:=FarQ.of (q:=q) A;replace f:=qB f E;replace t:=qB t E;replace o:=qB o E;replace g:=qF g E;replace d:=krP d A;clear E A;have J:Hid (Mem (Nw 0 C.heap.size _) _ _ _):=zz L;clear L;simp only [exV];have m:Hid (Mem (NwS (Bt C.heap.size O.heap.size) O.heap.size) O _ _):=zz (memS_bt J.out (by omega));clear J;go_simp;refine h.out _ _ ?_ (fun R=>?_);· exact Far.trans Q (Far.of Y.out)
    clear h K;refine takeA 10 (v:=?_) rfl ?_ ?_;rotate_left
    · (intro w z;go_simp;try rfl)
    (try simp only [pu]);refine takeA 11 (v:=?_) rfl ?_ ?_;rotate_left
    · (intro w z;go_simp;try rfl)
    (try simp only [pu]);refine takeA 12 (v:=?_) rfl ?_ ?_;rotate_left
    · (intro w z;go_simp;try rfl)
    (try simp only [pu]);refine takeA 13 (v:=?_) rfl ?_ ?_;rotate_left
    · (intro w z;go_simp;try rfl)
    (try simp only [pu]);have G:=kc6 o;refine callA 16 rfl fun K h=>?_;go_simp;refine h.out _ _ ?_ (fun T=>?_);· exact (by (iterate 6 (refine Far.setCell (p:=⟨(w.heap.size+2),_,none⟩) ?_ (by show H.heap.size≤(w.heap.size+2);omega) _));exact R)
    clear h K;clear G;generalize a:World.setCell _ ⟨(w.heap.size+2),5,none⟩ _=w5 at *;replace d:=rpO6 d a;replace g:=fN6 g a;replace f:=bF6 f a;replace t:=bF6 t a;replace o:=bS6 o a;replace m:=yS6 m a;clear a;have B:=kc3 t;refine takeA 17 (v:=?_) rfl ?_ ?_;rotate_left
    · (intro w z;go_simp;try rfl)
    (try simp only [pu]);refine callA 18 rfl fun K h=>?_;go_simp;refine h.out _ _ ?_ (fun a2=>?_);· exact (by (iterate 3 (refine Far.setCell (p:=⟨(w.heap.size+1),_,none⟩) ?_ (by show H.heap.size≤(w.heap.size+1);omega) _));exact T)
    clear h K;refine wpAnyH_done (by kernel_rfl) ?_ _;clear B;generalize a:World.setCell _ ⟨(w.heap.size+1),2,none⟩ _=P;replace d:=rpO3 d a;replace g:=fN3 g a;replace f:=bF3 f a;replace t:=bS3 t a;replace o:=bF3 o a;replace m:=yS3 m a;clear a;have D:=kcR d;have B:=kc3 t;go_upto_region 8 with (fail);clear D B;generalize a:World.setCell P _ _=w7;replace d:=zz (d.out.setIE (k:=j) a (by omega));replace g:=zz (g.out.setQE a);replace f:=bF1 f a;replace o:=bF1 o a;replace m:=yS1 m a;clear a;have N:=kc6 f;have G:=kc6 o
    go_wp2_with (fail)
    clear N G;generalize a:World.setCell _ ⟨w.heap.size,5,none⟩ _=w8;replace d:=rpO6 d a;replace g:=fN6 g a;replace f:=bS6 f a;replace m:=yS6 m a;clear a
    have U:s.b=none:=by unfold MS.ok at M;simpa using M
    rw [U] at d;have B:=kc6 f;refine bodyPost_ret (v:=.agg #[.int .i64 x.kind,.string x.name,.int .i64 x.n,.slice V X W,.int .i64 x.line,.int .i64 x.col]) (by clear d g f t o m;simp [results,Tryz.results57,go_sem,B]) rfl ?_;exact ⟨_,_,_,rfl,g.out.out,d.out,(memS_nw m.out (fun b A=>Nat.le_trans (by omega) A.1))⟩
 ·
  exact absurd a1 (ad M _ _)
end
end
section
open Go.RowKit
section
variable {ts:List Tk} {aL:Option Addr} {n cap q:Nat}
theorem mpart_no {F:Nat} {nt:Nt} {fn:FuncId} (hE:∀ args w,Sem.run Tryz.prog (callFunc fn args) w=.ok (.enter fn args) w)
  (Y:∀ (i:Nat) (r:Rd1) (w:World),MemW w (.s 5 (tkRows ts)) (.slice aL n cap)→n≤1048576→readE ts F nt i 0=some r→Calls Tryz.prog fn #[.slice aL n cap,.int .i64 (i:Int)] w (RunAns r w))
  {s s':MS} {x:Ex} (w:World) (X:partM ts F nt s=some (x,s')) (hp:RS ts aL n cap q s ((0:Nat):Int) w) (a9:s.ok=true) (aa:∀ x j,readE ts F nt s.i 0≠some (.ok x j)):
  Calls Tryz.prog 57 #[.pointer (some ⟨q,0,none⟩),.func (.func fn) #[] #[]] w (PAns ts aL n cap q x s' w):=by
 have d:=zz hp;have ae:=hp.lt;have h:=zz (FarB.refl q w.heap.size w);clear hp;unfold partM at X;go_enter Tryz.func57,Tryz.ntmps57;go_upto_region 1 with (fail);generalize a:World.alloc w _=I;have af:=sizeA a;replace d:=rpA d a;replace h:=fA h a;have f:=nB a (w.heap.size);clear a
 go_wp2_with (fail)
 refine (mok_any _ d.out).mono ?_;rintro _ _ ⟨rfl,rfl⟩
 by_cases a0:s.ok=false
 ·
  rw [a9] at a0;cases a0
 rw [if_neg a0] at X
 have ab:s.ok=true:=by simpa using a0
 rw [ab];go_upto_region 3 with (fail)
 rcases U:readE ts F nt s.i 0 with _ | ⟨y,j⟩ | ⟨D,C⟩
 · (rw [U] at X;cases X)
 ·
  exact absurd U (aa _ _)
 ·
  rw [U] at X;simp only at X;cases X;have A:=kcR d;refine wp_region_held_drew (S:=fun w'=>Far (fun b=>I.heap.size≤b) (I) w') (by kernel_rfl) (Far.of (below_drew _)) (fun a1=>?_);refine takeA 0 (v:=?_) rfl ?_ ?_;rotate_left
  · (intro w t;replace A:=Far.c6z A t (by intro e;have e:_≤q:=e;omega);go_simp;try rfl)
  (try simp only [pu]);refine takeA 1 (v:=?_) rfl ?_ ?_;rotate_left
  · (intro w t;replace A:=Far.c6z A t (by intro e;have e:_≤q:=e;omega);go_simp;try rfl)
  (try simp only [pu]);refine takeA 2 (v:=?_) rfl ?_ ?_;rotate_left
  · (intro w t;replace A:=Far.c6z A t (by intro e;have e:_≤q:=e;omega);go_simp;try rfl)
  (try simp only [pu]);refine takeA 3 (v:=?_) rfl ?_ ?_;rotate_left
  · (intro w t;replace A:=Far.c6z A t (by intro e;have e:_≤q:=e;omega);go_simp;try rfl)
  (try simp only [pu]);refine takeA 4 (v:=?_) rfl ?_ ?_;rotate_left
  · (intro w t;replace A:=Far.c6z A t (by intro e;have e:_≤q:=e;omega);go_simp;try rfl)
  (try simp only [pu]);refine takeA 5 (v:=?_) rfl ?_ ?_;rotate_left
  · (intro w t;replace A:=Far.c6z A t (by intro e;have e:_≤q:=e;omega);go_simp;try rfl)
  (try simp only [pu]);refine takeA 6 (v:=?_) rfl ?_ ?_;rotate_left
  · (intro w t;replace A:=Far.c6z A t (by intro e;have e:_≤q:=e;omega);go_simp;try rfl)
  (try simp only [pu]);refine takeA 7 (v:=?_) rfl ?_ ?_;rotate_left
  · (intro w t;replace A:=Far.c6z A t (by intro e;have e:_≤q:=e;omega);go_simp;try rfl)
  (try simp only [pu]);refine takeA 8 (v:=?_) rfl ?_ ?_;rotate_left
  · (intro w t;replace A:=Far.c6z A t (by intro e;have e:_≤q:=e;omega);go_simp;try rfl)
  (try simp only [pu]);clear A;refine threeL 9 14 15 rfl rfl rfl (by kernel_rfl) (by rfl) (by rfl) (by rfl) (fun K m=>?_) (fun K m=>?_) (fun K m=>?_)
  ·
   go_simp;refine (Y s.i (.bad D C) _ d.out.drew.mem d.out.sm U).mono ?_;rintro e z ⟨rfl,G⟩;have R:=zz G;replace G:=Below.one G;have E:=FarQ.of (q:=q) G;have ag:I.heap.size≤z.heap.size:=E.size;replace f:=qB f E;replace h:=qF h E;replace d:=krP d G;clear E G;go_simp;refine m.out _ _ ?_ (fun T=>?_);· exact Far.trans a1 (Far.of R.out)
   clear m K;refine takeA 10 (v:=?_) rfl ?_ ?_;rotate_left
   · (intro w t;go_simp;try rfl)
   (try simp only [pu]);refine takeA 11 (v:=?_) rfl ?_ ?_;rotate_left
   · (intro w t;go_simp;try rfl)
   (try simp only [pu]);refine takeA 12 (v:=?_) rfl ?_ ?_;rotate_left
   · (intro w t;go_simp;try rfl)
   (try simp only [pu]);refine takeA 13 (v:=?_) rfl ?_ ?_;rotate_left
   · (intro w t;go_simp;try rfl)
   (try simp only [pu]);refine twoL 14 15 rfl rfl (by kernel_rfl) (by rfl) (by rfl) (fun K m=>?_) (fun K m=>?_)
   ·
    go_simp;refine m.out _ _ ?_ (fun M=>?_);· exact Far.trans T (Far.of (below_new _ _))
    clear m K;generalize a:(z.alloc (.cells #[.int .i64 0,.string ⟨#[]⟩,.int .i64 0,.slice none 0 0,.int .i64 0,.int .i64 0] 60))=H at *;have a4:=sizeA a;replace d:=rpA d a;replace h:=fA h a;replace f:=bA f a;have B:=nB a (z.heap.size);clear a;refine callA 15 rfl fun K m=>?_;go_simp;refine m.out _ _ ?_ (fun N=>?_);· exact Far.trans M (Far.of (below_new _ _))
    clear m K;generalize a:(H.alloc (.cells #[.int .i64 0,.int .i64 0,.int .i64 0] 31))=V at *;have a5:=sizeA a;replace d:=rpA d a;replace h:=fA h a;replace f:=bA f a;replace B:=bA B a;have o:=nB a (z.heap.size+1);clear a;have J:=kc6 B;have L:=chain5 q w.heap.size z.heap.size (z.heap.size+1) V.heap.size;refine callA 16 rfl fun K m=>?_;go_simp;refine m.out _ _ ?_ (fun O=>?_);· exact (by (iterate 6 (refine Far.setCell (p:=⟨z.heap.size,_,none⟩) ?_ (by show I.heap.size≤z.heap.size;omega) _));exact N)
    clear m K;clear J;generalize a:World.setCell _ ⟨z.heap.size,5,none⟩ _=W at *;have a6:=sizeS6 a;replace d:=rpO6 d a;replace h:=fN6 h a;replace f:=bF6 f a;replace o:=bF6 o a;clear a;clear L;have u:=kc3 o;have L:=chain5 q w.heap.size z.heap.size (z.heap.size+1) W.heap.size;refine takeA 17 (v:=?_) rfl ?_ ?_;rotate_left
    · (intro w t;go_simp;try rfl)
    (try simp only [pu]);refine callA 18 rfl fun K m=>?_;go_simp;refine m.out _ _ ?_ (fun Z=>?_);· exact (by (iterate 3 (refine Far.setCell (p:=⟨(z.heap.size+1),_,none⟩) ?_ (by show I.heap.size≤(z.heap.size+1);omega) _));exact O)
    clear m K;refine wpAnyH_done (by kernel_rfl) ?_ _;clear u;generalize a:World.setCell _ ⟨(z.heap.size+1),2,none⟩ _=Q;have a8:=sizeS3 a;replace d:=rpO3 d a;replace h:=fN3 h a;replace f:=bF3 f a;replace o:=bS3 o a;clear a;clear L;have A:=kcR d;have u:=kc3 o;go_upto_region 6 with (fail);replace h:=zz (((h.out.setQ 3 (.int .i64 1)).setQ 4 (.int .i64 D)).setQ 5 (.int .i64 C));replace d:=zz (d.out.fault (l:=D) (c:=C));replace f:=zz (((f.out.far (g:=q) 3 (.int .i64 1) (by omega)).far (g:=q) 4 (.int .i64 D) (by omega)).far (g:=q) 5 (.int .i64 C) (by omega));clear A u;generalize (((Q.setCell ⟨q,3,none⟩ (.int .i64 1)).setCell ⟨q,4,none⟩ (.int .i64 D)).setCell ⟨q,5,none⟩ (.int .i64 C))=w7 at *;have P:=kc6 f
    go_wp2_with (fail)
    clear P;generalize a:World.setCell _ ⟨w.heap.size,5,none⟩ _=w8;replace d:=rpO6 d a;replace h:=fN6 h a;replace f:=bS6 f a;clear a;have u:=kc6 f;refine bodyPost_ret (v:=.agg #[.int .i64 0,.string ⟨#[]⟩,.int .i64 0,.slice none 0 0,.int .i64 0,.int .i64 0]) (by clear d h f B o;simp [results,Tryz.results57,go_sem,u]) rfl ?_;exact ⟨_,_,_,rfl,h.out.out,d.out,noEx_mem⟩
   ·
    go_simp;refine m.out _ _ ?_ (fun M=>?_);· exact Far.trans T (Far.of (below_new _ _))
    clear m K;generalize a:(z.alloc (.cells #[.int .i64 0,.int .i64 0,.int .i64 0] 31))=H at *;have a4:=sizeA a;replace d:=rpA d a;replace h:=fA h a;replace f:=bA f a;have o:=nB a (z.heap.size);clear a;refine callA 14 rfl fun K m=>?_;go_simp;refine m.out _ _ ?_ (fun N=>?_);· exact Far.trans M (Far.of (below_new _ _))
    clear m K;generalize a:(H.alloc (.cells #[.int .i64 0,.string ⟨#[]⟩,.int .i64 0,.slice none 0 0,.int .i64 0,.int .i64 0] 60))=V at *;have a5:=sizeA a;replace d:=rpA d a;replace h:=fA h a;replace f:=bA f a;replace o:=bA o a;have B:=nB a (z.heap.size+1);clear a;have J:=kc6 B;have L:=chain5 q w.heap.size z.heap.size (z.heap.size+1) V.heap.size;refine callA 16 rfl fun K m=>?_;go_simp;refine m.out _ _ ?_ (fun O=>?_);· exact (by (iterate 6 (refine Far.setCell (p:=⟨(z.heap.size+1),_,none⟩) ?_ (by show I.heap.size≤(z.heap.size+1);omega) _));exact N)
    clear m K;clear J;generalize a:World.setCell _ ⟨(z.heap.size+1),5,none⟩ _=W at *;have a6:=sizeS6 a;replace d:=rpO6 d a;replace h:=fN6 h a;replace f:=bF6 f a;replace o:=bF6 o a;clear a;clear L;have u:=kc3 o;have L:=chain5 q w.heap.size z.heap.size (z.heap.size+1) W.heap.size;refine takeA 17 (v:=?_) rfl ?_ ?_;rotate_left
    · (intro w t;go_simp;try rfl)
    (try simp only [pu]);refine callA 18 rfl fun K m=>?_;go_simp;refine m.out _ _ ?_ (fun Z=>?_);· exact (by (iterate 3 (refine Far.setCell (p:=⟨z.heap.size,_,none⟩) ?_ (by show I.heap.size≤z.heap.size;omega) _));exact O)
    clear m K;refine wpAnyH_done (by kernel_rfl) ?_ _;clear u;generalize a:World.setCell _ ⟨z.heap.size,2,none⟩ _=Q;have a8:=sizeS3 a;replace d:=rpO3 d a;replace h:=fN3 h a;replace f:=bF3 f a;replace o:=bS3 o a;clear a;clear L;have A:=kcR d;have u:=kc3 o;go_upto_region 6 with (fail);replace h:=zz (((h.out.setQ 3 (.int .i64 1)).setQ 4 (.int .i64 D)).setQ 5 (.int .i64 C));replace d:=zz (d.out.fault (l:=D) (c:=C));replace f:=zz (((f.out.far (g:=q) 3 (.int .i64 1) (by omega)).far (g:=q) 4 (.int .i64 D) (by omega)).far (g:=q) 5 (.int .i64 C) (by omega));clear A u;generalize (((Q.setCell ⟨q,3,none⟩ (.int .i64 1)).setCell ⟨q,4,none⟩ (.int .i64 D)).setCell ⟨q,5,none⟩ (.int .i64 C))=w7 at *;have P:=kc6 f
    go_wp2_with (fail)
    clear P;generalize a:World.setCell _ ⟨w.heap.size,5,none⟩ _=w8;replace d:=rpO6 d a;replace h:=fN6 h a;replace f:=bS6 f a;clear a;have u:=kc6 f;refine bodyPost_ret (v:=.agg #[.int .i64 0,.string ⟨#[]⟩,.int .i64 0,.slice none 0 0,.int .i64 0,.int .i64 0]) (by clear d h f o B;simp [results,Tryz.results57,go_sem,u]) rfl ?_;exact ⟨_,_,_,rfl,h.out.out,d.out,noEx_mem⟩
  ·
   go_simp;refine m.out _ _ ?_ (fun T=>?_);· exact Far.trans a1 (Far.of (below_new _ _))
   clear m K;generalize a:(I.alloc (.cells #[.int .i64 0,.string ⟨#[]⟩,.int .i64 0,.slice none 0 0,.int .i64 0,.int .i64 0] 60))=a7 at *;have a2:=sizeA a;replace d:=rpA d a;replace h:=fA h a;replace f:=bA f a;have B:=nB a (w.heap.size+1);clear a;generalize a:(a7.drew)=z at *;have a3:=sizeD a;replace d:=rpD d a;replace h:=fD h a;replace f:=bD f a;replace B:=bD B a;clear a
   have ac:z.heap.size=w.heap.size+2:=by omega
   clear a2 a3;refine twoL 9 15 rfl rfl (by kernel_rfl) (by rfl) (by rfl) (fun K m=>?_) (fun K m=>?_)
   ·
    go_simp;refine (Y s.i (.bad D C) _ d.out.mem d.out.sm U).mono ?_;rintro e H ⟨rfl,G⟩;have R:=zz G;have E:=FarQ.of (q:=q) G;have ad:z.heap.size≤H.heap.size:=E.size;replace f:=qB f E;replace B:=qB B E;replace h:=qF h E;replace d:=krP d G;clear E G;go_simp;refine m.out _ _ ?_ (fun M=>?_);· exact Far.trans T (Far.of R.out)
    clear m K;refine takeA 10 (v:=?_) rfl ?_ ?_;rotate_left
    · (intro w t;go_simp;try rfl)
    (try simp only [pu]);refine takeA 11 (v:=?_) rfl ?_ ?_;rotate_left
    · (intro w t;go_simp;try rfl)
    (try simp only [pu]);refine takeA 12 (v:=?_) rfl ?_ ?_;rotate_left
    · (intro w t;go_simp;try rfl)
    (try simp only [pu]);refine takeA 13 (v:=?_) rfl ?_ ?_;rotate_left
    · (intro w t;go_simp;try rfl)
    (try simp only [pu]);refine callA 15 rfl fun K m=>?_;go_simp;refine m.out _ _ ?_ (fun N=>?_);· exact Far.trans M (Far.of (below_new _ _))
    clear m K;generalize a:(H.alloc (.cells #[.int .i64 0,.int .i64 0,.int .i64 0] 31))=V at *;have a5:=sizeA a;replace d:=rpA d a;replace h:=fA h a;replace f:=bA f a;replace B:=bA B a;have o:=nB a (H.heap.size);clear a;have J:=kc6 B;refine callA 16 rfl fun K m=>?_;go_simp;refine m.out _ _ ?_ (fun O=>?_);· exact (by (iterate 6 (refine Far.setCell (p:=⟨(w.heap.size+1),_,none⟩) ?_ (by show I.heap.size≤(w.heap.size+1);omega) _));exact N)
    clear m K;clear J;generalize a:World.setCell _ ⟨(w.heap.size+1),5,none⟩ _=W at *;have a6:=sizeS6 a;replace d:=rpO6 d a;replace h:=fN6 h a;replace f:=bF6 f a;replace o:=bF6 o a;clear a;have u:=kc3 o;have L:=chain5 q w.heap.size (w.heap.size+1) H.heap.size W.heap.size;refine takeA 17 (v:=?_) rfl ?_ ?_;rotate_left
    · (intro w t;go_simp;try rfl)
    (try simp only [pu]);refine callA 18 rfl fun K m=>?_;go_simp;refine m.out _ _ ?_ (fun Z=>?_);· exact (by (iterate 3 (refine Far.setCell (p:=⟨H.heap.size,_,none⟩) ?_ (by show I.heap.size≤H.heap.size;omega) _));exact O)
    clear m K;refine wpAnyH_done (by kernel_rfl) ?_ _;clear u;generalize a:World.setCell _ ⟨H.heap.size,2,none⟩ _=Q;have a8:=sizeS3 a;replace d:=rpO3 d a;replace h:=fN3 h a;replace f:=bF3 f a;replace o:=bS3 o a;clear a;clear L;have A:=kcR d;have u:=kc3 o;go_upto_region 6 with (fail);replace h:=zz (((h.out.setQ 3 (.int .i64 1)).setQ 4 (.int .i64 D)).setQ 5 (.int .i64 C));replace d:=zz (d.out.fault (l:=D) (c:=C));replace f:=zz (((f.out.far (g:=q) 3 (.int .i64 1) (by omega)).far (g:=q) 4 (.int .i64 D) (by omega)).far (g:=q) 5 (.int .i64 C) (by omega));clear A u;generalize (((Q.setCell ⟨q,3,none⟩ (.int .i64 1)).setCell ⟨q,4,none⟩ (.int .i64 D)).setCell ⟨q,5,none⟩ (.int .i64 C))=w7 at *;have P:=kc6 f
    go_wp2_with (fail)
    clear P;generalize a:World.setCell _ ⟨w.heap.size,5,none⟩ _=w8;replace d:=rpO6 d a;replace h:=fN6 h a;replace f:=bS6 f a;clear a;have u:=kc6 f;refine bodyPost_ret (v:=.agg #[.int .i64 0,.string ⟨#[]⟩,.int .i64 0,.slice none 0 0,.int .i64 0,.int .i64 0]) (by clear d h f B o;simp [results,Tryz.results57,go_sem,u]) rfl ?_;exact ⟨_,_,_,rfl,h.out.out,d.out,noEx_mem⟩
   ·
    go_simp;refine m.out _ _ ?_ (fun M=>?_);· exact Far.trans T (Far.of (below_new _ _))
    clear m K;generalize a:(z.alloc (.cells #[.int .i64 0,.int .i64 0,.int .i64 0] 31))=H at *;have a4:=sizeA a;replace d:=rpA d a;replace h:=fA h a;replace f:=bA f a;replace B:=bA B a;have o:=nB a (w.heap.size+2);clear a;refine callA 9 rfl fun K m=>?_;go_simp;refine (Y s.i (.bad D C) _ d.out.mem d.out.sm U).mono ?_;rintro e V ⟨rfl,G⟩;have R:=zz G;have E:=FarQ.of (q:=q) G;replace f:=qB f E;replace B:=qB B E;replace o:=qB o E;replace h:=qF h E;replace d:=krP d G;clear E G;go_simp;refine m.out _ _ ?_ (fun N=>?_);· exact Far.trans M (Far.of R.out)
    clear m K;refine takeA 10 (v:=?_) rfl ?_ ?_;rotate_left
    · (intro w t;go_simp;try rfl)
    (try simp only [pu]);refine takeA 11 (v:=?_) rfl ?_ ?_;rotate_left
    · (intro w t;go_simp;try rfl)
    (try simp only [pu]);refine takeA 12 (v:=?_) rfl ?_ ?_;rotate_left
    · (intro w t;go_simp;try rfl)
    (try simp only [pu]);refine takeA 13 (v:=?_) rfl ?_ ?_;rotate_left
    · (intro w t;go_simp;try rfl)
    (try simp only [pu]);have J:=kc6 B;refine callA 16 rfl fun K m=>?_;go_simp;refine m.out _ _ ?_ (fun O=>?_);· exact (by (iterate 6 (refine Far.setCell (p:=⟨(w.heap.size+1),_,none⟩) ?_ (by show I.heap.size≤(w.heap.size+1);omega) _));exact N)
    clear m K;clear J;generalize a:World.setCell _ ⟨(w.heap.size+1),5,none⟩ _=W at *;replace d:=rpO6 d a;replace h:=fN6 h a;replace f:=bF6 f a;replace o:=bF6 o a;clear a;have u:=kc3 o;refine takeA 17 (v:=?_) rfl ?_ ?_;rotate_left
    · (intro w t;go_simp;try rfl)
    (try simp only [pu]);refine callA 18 rfl fun K m=>?_;go_simp;refine m.out _ _ ?_ (fun Z=>?_);· exact (by (iterate 3 (refine Far.setCell (p:=⟨(w.heap.size+2),_,none⟩) ?_ (by show I.heap.size≤(w.heap.size+2);omega) _));exact O)
    clear m K;refine wpAnyH_done (by kernel_rfl) ?_ _;clear u;generalize a:World.setCell _ ⟨(w.heap.size+2),2,none⟩ _=Q;replace d:=rpO3 d a;replace h:=fN3 h a;replace f:=bF3 f a;replace o:=bS3 o a;clear a;have A:=kcR d;have u:=kc3 o;go_upto_region 6 with (fail);replace h:=zz (((h.out.setQ 3 (.int .i64 1)).setQ 4 (.int .i64 D)).setQ 5 (.int .i64 C));replace d:=zz (d.out.fault (l:=D) (c:=C));replace f:=zz (((f.out.far (g:=q) 3 (.int .i64 1) (by omega)).far (g:=q) 4 (.int .i64 D) (by omega)).far (g:=q) 5 (.int .i64 C) (by omega));clear A u;generalize (((Q.setCell ⟨q,3,none⟩ (.int .i64 1)).setCell ⟨q,4,none⟩ (.int .i64 D)).setCell ⟨q,5,none⟩ (.int .i64 C))=w7 at *;have P:=kc6 f
    go_wp2_with (fail)
    clear P;generalize a:World.setCell _ ⟨w.heap.size,5,none⟩ _=w8;replace d:=rpO6 d a;replace h:=fN6 h a;replace f:=bS6 f a;clear a;have u:=kc6 f;refine bodyPost_ret (v:=.agg #[.int .i64 0,.string ⟨#[]⟩,.int .i64 0,.slice none 0 0,.int .i64 0,.int .i64 0]) (by clear d h f B o;simp [results,Tryz.results57,go_sem,u]) rfl ?_;exact ⟨_,_,_,rfl,h.out.out,d.out,noEx_mem⟩
  ·
   go_simp;refine m.out _ _ ?_ (fun T=>?_);· exact Far.trans a1 (Far.of (below_new _ _))
   clear m K;generalize a:(I.alloc (.cells #[.int .i64 0,.int .i64 0,.int .i64 0] 31))=a7 at *;have a2:=sizeA a;replace d:=rpA d a;replace h:=fA h a;replace f:=bA f a;have o:=nB a (w.heap.size+1);clear a;generalize a:(a7.drew)=z at *;have a3:=sizeD a;replace d:=rpD d a;replace h:=fD h a;replace f:=bD f a;replace o:=bD o a;clear a
   have ac:z.heap.size=w.heap.size+2:=by omega
   clear a2 a3;refine twoL 9 14 rfl rfl (by kernel_rfl) (by rfl) (by rfl) (fun K m=>?_) (fun K m=>?_)
   ·
    go_simp;refine (Y s.i (.bad D C) _ d.out.mem d.out.sm U).mono ?_;rintro e H ⟨rfl,G⟩;have R:=zz G;have E:=FarQ.of (q:=q) G;have ad:z.heap.size≤H.heap.size:=E.size;replace f:=qB f E;replace o:=qB o E;replace h:=qF h E;replace d:=krP d G;clear E G;go_simp;refine m.out _ _ ?_ (fun M=>?_);· exact Far.trans T (Far.of R.out)
    clear m K;refine takeA 10 (v:=?_) rfl ?_ ?_;rotate_left
    · (intro w t;go_simp;try rfl)
    (try simp only [pu]);refine takeA 11 (v:=?_) rfl ?_ ?_;rotate_left
    · (intro w t;go_simp;try rfl)
    (try simp only [pu]);refine takeA 12 (v:=?_) rfl ?_ ?_;rotate_left
    · (intro w t;go_simp;try rfl)
    (try simp only [pu]);refine takeA 13 (v:=?_) rfl ?_ ?_;rotate_left
    · (intro w t;go_simp;try rfl)
    (try simp only [pu]);refine callA 14 rfl fun K m=>?_;go_simp;refine m.out _ _ ?_ (fun N=>?_);· exact Far.trans M (Far.of (below_new _ _))
    clear m K;generalize a:(H.alloc (.cells #[.int .i64 0,.string ⟨#[]⟩,.int .i64 0,.slice none 0 0,.int .i64 0,.int .i64 0] 60))=V at *;have a5:=sizeA a;replace d:=rpA d a;replace h:=fA h a;replace f:=bA f a;replace o:=bA o a;have B:=nB a (H.heap.size);clear a;have J:=kc6 B;have L:=chain5 q w.heap.size (w.heap.size+1) H.heap.size V.heap.size;refine callA 16 rfl fun K m=>?_;go_simp;refine m.out _ _ ?_ (fun O=>?_);· exact (by (iterate 6 (refine Far.setCell (p:=⟨H.heap.size,_,none⟩) ?_ (by show I.heap.size≤H.heap.size;omega) _));exact N)
    clear m K;clear J;generalize a:World.setCell _ ⟨H.heap.size,5,none⟩ _=W at *;have a6:=sizeS6 a;replace d:=rpO6 d a;replace h:=fN6 h a;replace f:=bF6 f a;replace o:=bF6 o a;clear a;clear L;have u:=kc3 o;refine takeA 17 (v:=?_) rfl ?_ ?_;rotate_left
    · (intro w t;go_simp;try rfl)
    (try simp only [pu]);refine callA 18 rfl fun K m=>?_;go_simp;refine m.out _ _ ?_ (fun Z=>?_);· exact (by (iterate 3 (refine Far.setCell (p:=⟨(w.heap.size+1),_,none⟩) ?_ (by show I.heap.size≤(w.heap.size+1);omega) _));exact O)
    clear m K;refine wpAnyH_done (by kernel_rfl) ?_ _;clear u;generalize a:World.setCell _ ⟨(w.heap.size+1),2,none⟩ _=Q;replace d:=rpO3 d a;replace h:=fN3 h a;replace f:=bF3 f a;replace o:=bS3 o a;clear a;have A:=kcR d;have u:=kc3 o;go_upto_region 6 with (fail);replace h:=zz (((h.out.setQ 3 (.int .i64 1)).setQ 4 (.int .i64 D)).setQ 5 (.int .i64 C));replace d:=zz (d.out.fault (l:=D) (c:=C));replace f:=zz (((f.out.far (g:=q) 3 (.int .i64 1) (by omega)).far (g:=q) 4 (.int .i64 D) (by omega)).far (g:=q) 5 (.int .i64 C) (by omega));clear A u;generalize (((Q.setCell ⟨q,3,none⟩ (.int .i64 1)).setCell ⟨q,4,none⟩ (.int .i64 D)).setCell ⟨q,5,none⟩ (.int .i64 C))=w7 at *;have P:=kc6 f
    go_wp2_with (fail)
    clear P;generalize a:World.setCell _ ⟨w.heap.size,5,none⟩ _=w8;replace d:=rpO6 d a;replace h:=fN6 h a;replace f:=bS6 f a;clear a;have u:=kc6 f;refine bodyPost_ret (v:=.agg #[.int .i64 0,.string ⟨#[]⟩,.int .i64 0,.slice none 0 0,.int .i64 0,.int .i64 0]) (by clear d h f o B;simp [results,Tryz.results57,go_sem,u]) rfl ?_;exact ⟨_,_,_,rfl,h.out.out,d.out,noEx_mem⟩
   ·
    go_simp;refine m.out _ _ ?_ (fun M=>?_);· exact Far.trans T (Far.of (below_new _ _))
    clear m K;generalize a:(z.alloc (.cells #[.int .i64 0,.string ⟨#[]⟩,.int .i64 0,.slice none 0 0,.int .i64 0,.int .i64 0] 60))=H at *;have a4:=sizeA a;replace d:=rpA d a;replace h:=fA h a;replace f:=bA f a;replace o:=bA o a;have B:=nB a (w.heap.size+2);clear a;refine callA 9 rfl fun K m=>?_;go_simp;refine (Y s.i (.bad D C) _ d.out.mem d.out.sm U).mono ?_;rintro e V ⟨rfl,G⟩;have R:=zz G;have E:=FarQ.of (q:=q) G;replace f:=qB f E;replace o:=qB o E;replace B:=qB B E;replace h:=qF h E;replace d:=krP d G;clear E G;go_simp;refine m.out _ _ ?_ (fun N=>?_);· exact Far.trans M (Far.of R.out)
    clear m K;refine takeA 10 (v:=?_) rfl ?_ ?_;rotate_left
    · (intro w t;go_simp;try rfl)
    (try simp only [pu]);refine takeA 11 (v:=?_) rfl ?_ ?_;rotate_left
    · (intro w t;go_simp;try rfl)
    (try simp only [pu]);refine takeA 12 (v:=?_) rfl ?_ ?_;rotate_left
    · (intro w t;go_simp;try rfl)
    (try simp only [pu]);refine takeA 13 (v:=?_) rfl ?_ ?_;rotate_left
    · (intro w t;go_simp;try rfl)
    (try simp only [pu]);have J:=kc6 B;refine callA 16 rfl fun K m=>?_;go_simp;refine m.out _ _ ?_ (fun O=>?_);· exact (by (iterate 6 (refine Far.setCell (p:=⟨(w.heap.size+2),_,none⟩) ?_ (by show I.heap.size≤(w.heap.size+2);omega) _));exact N)
    clear m K;clear J;generalize a:World.setCell _ ⟨(w.heap.size+2),5,none⟩ _=W at *;replace d:=rpO6 d a;replace h:=fN6 h a;replace f:=bF6 f a;replace o:=bF6 o a;clear a;have u:=kc3 o;refine takeA 17 (v:=?_) rfl ?_ ?_;rotate_left
    · (intro w t;go_simp;try rfl)
    (try simp only [pu]);refine callA 18 rfl fun K m=>?_;go_simp;refine m.out _ _ ?_ (fun Z=>?_);· exact (by (iterate 3 (refine Far.setCell (p:=⟨(w.heap.size+1),_,none⟩) ?_ (by show I.heap.size≤(w.heap.size+1);omega) _));exact O)
    clear m K;refine wpAnyH_done (by kernel_rfl) ?_ _;clear u;generalize a:World.setCell _ ⟨(w.heap.size+1),2,none⟩ _=Q;replace d:=rpO3 d a;replace h:=fN3 h a;replace f:=bF3 f a;replace o:=bS3 o a;clear a;have A:=kcR d;have u:=kc3 o;go_upto_region 6 with (fail);replace h:=zz (((h.out.setQ 3 (.int .i64 1)).setQ 4 (.int .i64 D)).setQ 5 (.int .i64 C));replace d:=zz (d.out.fault (l:=D) (c:=C));replace f:=zz (((f.out.far (g:=q) 3 (.int .i64 1) (by omega)).far (g:=q) 4 (.int .i64 D) (by omega)).far (g:=q) 5 (.int .i64 C) (by omega));clear A u;generalize (((Q.setCell ⟨q,3,none⟩ (.int .i64 1)).setCell ⟨q,4,none⟩ (.int .i64 D)).setCell ⟨q,5,none⟩ (.int .i64 C))=w7 at *;have P:=kc6 f
    go_wp2_with (fail)
    clear P;generalize a:World.setCell _ ⟨w.heap.size,5,none⟩ _=w8;replace d:=rpO6 d a;replace h:=fN6 h a;replace f:=bS6 f a;clear a;have u:=kc6 f;refine bodyPost_ret (v:=.agg #[.int .i64 0,.string ⟨#[]⟩,.int .i64 0,.slice none 0 0,.int .i64 0,.int .i64 0]) (by clear d h f o B;simp [results,Tryz.results57,go_sem,u]) rfl ?_;exact ⟨_,_,_,rfl,h.out.out,d.out,noEx_mem⟩
end
end
section
open Go.RowKit
section
variable {ts:List Tk} {aL:Option Addr} {n cap q:Nat}
theorem part_run {F:Nat} {b:Nt} {a:FuncId} (f:∀ args w,Sem.run Tryz.prog (callFunc a args) w=.ok (.enter a args) w)
  (d:∀ (i:Nat) (r:Rd1) (w:World),MemW w (.s 5 (tkRows ts)) (.slice aL n cap)→n≤1048576→readE ts F b i 0=some r→Calls Tryz.prog a #[.slice aL n cap,.int .i64 (i:Int)] w (RunAns r w))
  {s o:MS} {x:Ex} (w:World) (m:partM ts F b s=some (x,o)) (g:RS ts aL n cap q s ((0:Nat):Int) w):
  Calls Tryz.prog 57 #[.pointer (some ⟨q,0,none⟩),.func (.func a) #[] #[]] w (PAns ts aL n cap q x o w):=by
 by_cases h:s.ok=true∧∃ l c,readE ts F b s.i 0=some (.bad l c)
 · exact mpart_no f d w m g h.1 fun x j e=>by obtain ⟨_,l,c,h⟩:=h;rw [h] at e;cases e
 · exact mpart_yes f d w m g fun p l c e=>h ⟨p,l,c,e⟩
theorem part_pat {F:Nat} {s a:MS} {x:Ex} (w:World) (f:partM ts F .pat s=some (x,a)) (e:RS ts aL n cap q s ((0:Nat):Int) w):Calls Tryz.prog 57 #[.pointer (some ⟨q,0,none⟩),.func (.func 58) #[] #[]] w (PAns ts aL n cap q x a w):=
 part_run (fun _ _=>by kernel_rfl) (fun i r w b d g=>pat_any (i:=(i:Int)) w b d (by simpa using g)) w f e
theorem part_expr {F:Nat} {s a:MS} {x:Ex} (w:World) (f:partM ts F .expr s=some (x,a)) (e:RS ts aL n cap q s ((0:Nat):Int) w):Calls Tryz.prog 57 #[.pointer (some ⟨q,0,none⟩),.func (.func 59) #[] #[]] w (PAns ts aL n cap q x a w):=
 part_run (fun _ _=>by kernel_rfl) (fun i r w b d g=>of_any (i:=(i:Int)) w b d (by simpa using g)) w f e
end
end
end Go.Proofs.YtcoiagfeoonpbaaGreat
