/-
  'append' of a row that may be empty onto a slice of the call's own. No condition but sizes.
-/
import Derived.Test.YtcoiagfeoonpbaaGreatMp30
import Derived.Test.YtcoiagfeoonpbaaGreatMp33
import Derived.Deep.RegionLawGrows
import Derived.Deep.AppendSrc
import Derived.Test.YtcoiagfeoonpbaaGreatMp23
import Derived.Test.YtcoiagfeoonpbaaGreatMp27
import Derived.Test.YtcoiagfeoonpbaaGreatMp13
import Derived.Deep.Cut
set_option maxHeartbeats 20000000
set_option maxRecDepth 100000
namespace Go.Proofs.YtcoiagfeoonpbaaGreat
section
open Go.RowKit
section
variable {P:Program} {w:World} {t e:TypeId} {z:Value} {sz bytes:Nat}
end
end
section
open Go.RowKit
def Md1.ds:Md1→List Da | .ok ds _=>ds | .bad .. =>[]
def Md1.rs:Md1→List Ru | .ok _ rs=>rs | .bad .. =>[]
def Md1.k:Md1→Int | .ok .. =>0 | .bad k _ _=>k
def Md1.l:Md1→Int | .ok .. =>0 | .bad _ l _=>l
def Md1.c:Md1→Int | .ok .. =>0 | .bad _ _ c=>c
def MdOne (r:Md1) (W:World) (e:Ending) (w':World):Prop:=
  ∃ a m c a' m' c',e=.returned (.tuple #[.agg #[.slice a m c,.slice a' m' c'],.agg #[.int .i64 r.k,.int .i64 r.l,.int .i64 r.c]])∧Below W.heap.size W w'∧Mem (Nw 0 W.heap.size w'.heap.size) w' (.s 5 (r.ds.map Da.row)) (.slice a m c)∧Mem (Nw 0 W.heap.size w'.heap.size) w' (.s 11 (r.rs.map Ru.row)) (.slice a' m' c')
theorem mparse_one (s:ByteArray) (w:World) (hs:s.size≤1000000):Calls Tryz.prog 6 #[.string s] w (MdOne (modE s) w):=by
  refine (mparse_any s w hs).mono ?_;intro e w' h
  cases hr:modE s with
  | ok ds rs=>rw [hr] at h;exact h
  | bad k l c =>
    rw [hr] at h;exact ⟨none,0,0,none,0,0,h.1,h.2,.e none 0 5 (by decide),.e none 0 11 (by decide)⟩
end
section
open Go.RowKit
def MdOneR (r:Md1) (W:World) (e:Ending) (w':World):Prop:=
  ∃ a m c a' m' c',e=.returned (.tuple #[.agg #[.slice a m c,.slice a' m' c'],.int .i64 r.k,.agg #[.int .i64 r.l,.int .i64 r.c]])∧Below W.heap.size W w'∧Mem (Nw 0 W.heap.size w'.heap.size) w' (.s 5 (r.ds.map Da.row)) (.slice a m c)∧Mem (Nw 0 W.heap.size w'.heap.size) w' (.s 11 (r.rs.map Ru.row)) (.slice a' m' c')
theorem memY {T:Nat} {w:World} {x:At} {y:Value} (h:Mem (NwS (Bt 0 T) w.heap.size) w x y) (d:T≤w.heap.size):MemW w x y:=h.mono (fun b a=>by have :=a.1.2;omega) fun _ _=>rfl
theorem oxS6 {x:Option Nat} {base sz g:Nat} {e:TypeId} {w o:World} {y b d f i j m:Value} {rs:List (List At)} (h:Hid (OwnX x base e sz w y rs)) (p:((((((w.setCell ⟨g,0,none⟩ b).setCell ⟨g,1,none⟩ d).setCell ⟨g,2,none⟩ f).setCell ⟨g,3,none⟩ i).setCell ⟨g,4,none⟩ j).setCell ⟨g,5,none⟩ m)=o) (a:g<base:=by omega):Hid (OwnX x base e sz o y rs):=zz (p ▸ ((((((h.out.set a 0 b).set a 1 d).set a 2 f).set a 3 i).set a 4 j).set a 5 m))
theorem row_appXG {x:Option Nat} {base sz g:Nat} {t:TypeId} {W w:World} {y:Value} {rs:List (List At)} {r:List At} {a:Array Value} (h:OwnX x base t sz W y rs) (m:∀ k,x=some k→k<W.heap.size) (d:base≤W.heap.size) (i:W.heap.size≤w.heap.size) (f:All2 (Mem (Nw 0 W.heap.size w.heap.size) w) r a.toList) (j:a.toList.length=sz) (e:w.heap.size=g):
    Mem (fun b=>NwS (fun b=>base≤b∧x≠some b) (w.alloc (.cells a t)).heap.size b∧y.ownBlock≠some b) (w.alloc (.cells a t)) (.s sz [r]) (.slice (some ⟨g,0,none⟩) 1 1):=by
  subst e;exact row_appX h m d i f j
theorem endM_ok {ds:List Da} {rs:List Ru} {s:MS} (h:s.ok=true):endM (ds,rs,s)=.ok ds rs:=by
  have a:s.b=none:=Option.isNone_iff_eq_none.1 h;unfold endM
  show (match s.b with | none=>_ | some p=>_)=_
  rw [a]
theorem endM_bad {ds:List Da} {rs:List Ru} {s:MS} (h:s.ok=false):endM (ds,rs,s)=.bad 1 (lB s.b) (cB s.b):=by
  unfold endM
  show (match s.b with | none=>_ | some p=>_)=_
  cases hb:s.b with
  | none=>unfold MS.ok at h;rw [hb] at h;cases h
  | some p=>rfl
attribute [local go_sem] tk_pos tk_text tk_kind0 tk_kindM
theorem rowR_mem {S:Nat→Prop} {w:World} {j t:ByteArray} {R G:List (List At)} {k m u v l c:Int} {z:At} {a b d:Option Addr} {g e h f i c3:Nat} (o:Mem S w (.s 6 R) (.slice a g e)) (p:Mem S w (.s 6 G) (.slice b h f)) (q:Mem S w z (.slice d i c3)):All2 (Mem S w) (rowR j R G k t m z u v l c) [.string j,.slice a g e,.slice b h f,.int .i64 k,.string t,.int .i64 m,.slice d i c3,.int .i64 u,.int .i64 v,.int .i64 l,.int .i64 c]:=
  .cons (.v _ rfl) (.cons o (.cons p (.cons (.v _ rfl) (.cons (.v _ rfl) (.cons (.v _ rfl) (.cons q (.cons (.v _ rfl) (.cons (.v _ rfl) (.cons (.v _ rfl) (.cons (.v _ rfl) .nil))))))))))
theorem itemsM_ok9 {ts:List Tk} {F g:Nat} :∀ {f:Nat} {ad ds:List Da} {ar rs:List Ru} {s s':MS},itemsM ts F g f ad ar s=some (ds,rs,s')→s'.ok=true→s.ok=true:=by
  intro f
  induction f with
  | zero=>intro ad ds ar rs s s' h;rw [itemsM] at h;cases h
  | succ f ih =>
    intro ad ds ar rs s s' h hs';rw [itemsM] at h
    split at h
    · rename_i hc
      rw [Bool.and_eq_true] at hc;exact hc.1
    · cases h
      exact hs'
theorem rmod_any (s:ByteArray) (w:World) (hs:s.size≤1000000):Calls Tryz.prog 7 #[.string s] w (MdOneR (modE s) w):=by
 obtain ⟨rp,bc⟩:∃ rp,modE s=rp:=⟨_,rfl⟩;rw [bc];have b9:=zz bc;clear bc;have H:=zz True.intro;have m:Hid (FarB w.heap.size w.heap.size w w):=zz (FarB.refl _ _ _);go_enter Tryz.func7,Tryz.ntmps7
 go_wp2_with (fail)
 generalize a:World.alloc w _=cl;have W:=sizeA a;replace m:=fA m a;have d:=nB a (w.heap.size);clear a;generalize a:World.alloc cl _=w1;have X:=sizeA a;replace m:=fA m a;replace d:=bA d a;have f:=nB a (w.heap.size+1);clear a
 have cq:w1.heap.size=w.heap.size+2:=by omega
 clear W X;have r:=kc2 d;have t:=kc2 f;have z:=i01_0 w w1;have I:=i012 w;clear r t;refine (rscan_any s _ hs).mono ?_;rintro _ g ⟨a0,n0,b1,rfl,q,hR⟩;replace d:=kB d q;replace f:=kB f q;replace m:=kF m q;have au:=q.size;clear q;have HR:=zz hR;clear hR;obtain ⟨ke,le,ce,aj,b3⟩:∃ ke le ce aj,lexes s=(ke,le,ce,aj):=⟨_,_,_,_,rfl⟩;have bl:=lexes_len s;rw [b3] at HR bl;rw [b3];simp only at HR bl ⊢;have ak:=zz b3;clear b3;obtain ⟨T0,bx⟩:∃ k,k=g.heap.size:=⟨_,rfl⟩
 have c6:aj.length=n0:=by have h1:=(rd_toks HR.out).len.1;rw [tkRows_len,List.length_map] at h1;exact h1
 have u:Hid (Mem (NwS (Bt 0 T0) g.heap.size) g (.s 5 (tkRows (aj.map tkOf))) (.slice a0 n0 b1)):=zz (by rw [bx];exact (rd_toks HR.out).mono (fun b q=>⟨⟨Nat.zero_le _,q⟩,q⟩) fun _ _=>rfl);clear HR;clear z I;have r:=kc2 d;have t:=kc2 f;have z:=i01_0 w g;go_upto_region 2 with (fail);clear r t;generalize a:World.alloc g _=w3;have cs:=sizeA a;replace m:=fA m a;replace d:=bA d a;replace f:=bA f a;replace u:=yA u a;have P:=nB a (g.heap.size);clear a;clear z;have r:=kc2 d;have t:=kc2 f;have U:=kc2 P;have z:=i01_0_0 w g w3;have I:=i01_01 w g
 by_cases ai:ke=0
 rotate_left
 ·
  have e0:(ke != 0)=true:=by simp [ai]
  have c7:rp=.bad ke le ce:=by rw [←b9.out,modE,ak.out,if_neg ai]
  clear ai u;subst c7;go_upto_region 3 with (fail);clear r t U;clear z I;have r:=kc2 d;have t:=kc2 f;have U:=kc2 P;have z:=i01_0_0 w g w3;have I:=i01_01 w g;refine wp_region_held_drew (S:=fun w'=>Far (fun b=>b=w.heap.size∨b=(w.heap.size+1)) (w3) w') (by kernel_rfl) (Far.of (below_drew _)) (fun bv=>?_);refine takeA 0 (v:=?_) rfl ?_ ?_;rotate_left
  · (intro w V;replace U:=Far.c2z U V;go_simp;try rfl)
  (try simp only [pu]);refine takeA 1 (v:=?_) rfl ?_ ?_;rotate_left
  · (intro w V;replace U:=Far.c2z U V;go_simp;try rfl)
  (try simp only [pu]);refine takeA 2 (v:=?_) rfl ?_ ?_;rotate_left
  · (intro w V;replace U:=Far.c2z U V;go_simp;try rfl)
  (try simp only [pu]);refine callA 3 rfl fun K hK=>?_;go_simp;refine hK.out _ _ ?_ (fun bb=>?_);· exact (by refine Far.trans ?_ (Far.of (below_drew _));(iterate 2 (refine Far.setCell (p:=⟨w.heap.size,_,none⟩) ?_ (.inl rfl) _));exact Far.refl _ _)
  clear hK K;clear r t U;generalize a:((w3.setCell ⟨w.heap.size,0,none⟩ (.slice none 0 0)).setCell ⟨w.heap.size,1,none⟩ (.slice none 0 0))=bg at *;have W:=sizeS2 a;replace m:=fN2 m a;replace d:=bS2 d a;replace f:=bF2 f a;replace P:=bF2 P a;clear a;generalize a:(bg.drew)=w4 at *;have X:=sizeD a;replace m:=fD m a;replace d:=bD d a;replace f:=bD f a;replace P:=bD P a;clear a
  have cf:w4.heap.size=g.heap.size+1:=by omega
  clear W X;clear z I;have r:=kc2 d;have t:=kc2 f;have U:=kc2 P;have z:=i01_0_0 w g w4;have I:=i01_01 w g;refine takeA 4 (v:=?_) rfl ?_ ?_;rotate_left
  · (intro w V;go_simp;try rfl)
  (try simp only [pu]);refine callA 5 rfl fun K hK=>?_;go_simp;refine hK.out _ _ ?_ (fun bw=>?_);· exact (by (iterate 2 (refine Far.setCell (p:=⟨(w.heap.size+1),_,none⟩) ?_ (.inr rfl) _));exact bb)
  clear hK K;refine wpAnyH_done (by kernel_rfl) ?_ _;clear r t U;generalize a:World.setCell _ ⟨(w.heap.size+1),1,none⟩ _=w5;have ci:=sizeS2 a;replace m:=fN2 m a;replace d:=bF2 d a;replace f:=bS2 f a;replace P:=bF2 P a;clear a;clear z I
  go_wp2_with (fail)
  have fr:=kc2 d;have fz:=kc2 f;refine bodyPost_ret (v:=.tuple #[.agg #[.slice none 0 0,.slice none 0 0],.int .i64 ke,.agg #[.int .i64 le,.int .i64 ce]]) (by clear m H d f P;simp [results,Tryz.results7,go_sem,fr,fz]) rfl ?_;exact ⟨none,0,0,none,0,0,rfl,refBelow m.out,.e none 0 5 (by decide),.e none 0 11 (by decide)⟩
 have bk:(lexes s).1=0:=by rw [ak.out];exact ai
 have cu:aj.length≤1048576:=by
  by_cases h4:4096<s.size
  · have h5:=ak.out;rw [lexes_long s h4] at h5;cases h5;cases ai
  · omega
 subst ai;obtain ⟨F,b5⟩:∃ ts,aj.map tkOf=ts:=⟨_,rfl⟩
 have bq:toksA s=F:=by unfold toksA;rw [ak.out];exact b5
 obtain ⟨⟨dz,rz,sz⟩,hV⟩:=itemsA_some F
 have bp:rp=endM (dz,rz,sz):=by rw [←b9.out,modE,if_pos bk,bq,hV]
 have cn:F.length=n0:=by rw [←b5,List.length_map];exact c6
 have bn:n0≤1048576:=by omega
 rw [b5] at u;replace hV:itemsM F (fuF F) (fuG F) (F.length+2) [] [] ⟨0,none⟩=some (dz,rz,sz):=hV;have bi:=zz bp;clear b9 ak bq bk b5 bp
 go_wp2_with (fail)
 clear r t U;generalize a:World.alloc w3 _=bg;have W:=sizeA a;replace m:=fA m a;replace d:=bA d a;replace f:=bA f a;replace P:=bA P a;replace u:=yA u a;have j:=nB a (g.heap.size+1);clear a;generalize a:World.alloc bg _=w4;have X:=sizeA a;replace m:=fA m a;replace d:=bA d a;replace f:=bA f a;replace P:=bA P a;replace j:=bA j a;replace u:=yA u a;have o:=nB a (g.heap.size+2);clear a
 have cf:w4.heap.size=g.heap.size+3:=by omega
 clear W X;clear z I;have r:=kc2 d;have t:=kc2 f;have U:=kc2 P;have A:=kc6 j;have B:=kc2 o;have z:=chain6 w.heap.size (w.heap.size+1) g.heap.size (g.heap.size+1) (g.heap.size+2) w4.heap.size;have I:=chain6 w.heap.size (w.heap.size+1) g.heap.size (g.heap.size+1) (g.heap.size+2) (g.heap.size+3);replace j:Hid (Bo w4 (g.heap.size+1) 67 #[.slice a0 n0 b1,.int .i64 ((⟨0,none⟩:MS).i:Int),.int .i64 0,.bool (!(⟨0,none⟩:MS).ok),.int .i64 (lB (⟨0,none⟩:MS).b),.int .i64 (cB (⟨0,none⟩:MS).b)]):=j;clear r t U A B
 have bz:w.heap.size<w4.heap.size∧(w.heap.size+1)<w4.heap.size∧(g.heap.size+1)<w4.heap.size∧(g.heap.size+2)<w4.heap.size∧T0≤w4.heap.size:=by refine ⟨?_,?_,?_,?_,?_⟩ <;> omega
 obtain ⟨B0,bu⟩:∃ k,k=w4.heap.size:=⟨_,rfl⟩;rw [←bu] at bz
 go_loopw [] (fun wr=>∃ (ds:List Da) (rs:List Ru) (ys:List Da) (R:List (List At)) (st G:MS) (d1:Int) (gg:Nat) (ad:Option Addr) (md cd:Nat) (ar:Option Addr) (mr cr:Nat),itemsM F (fuF F) (fuG F) gg ds rs st=some (dz,rz,sz)∧Hid (RelS st G d1)∧Hid (sz.ok=true→ys=ds∧R=rs.map Ru.row)∧Hid (FarB w.heap.size w.heap.size w wr)∧Hid (Bo wr w.heap.size 26 #[.slice none 0 0,.slice none 0 0])∧Hid (Bo wr (w.heap.size+1) 29 #[.int .i64 0,.int .i64 0])∧Hid (Bo wr (g.heap.size+1) 67 #[.slice a0 n0 b1,.int .i64 (G.i:Int),.int .i64 d1,.bool (!G.ok),.int .i64 (lB G.b),.int .i64 (cB G.b)])∧Hid (Bo wr (g.heap.size+2) 26 #[.slice ad md cd,.slice ar mr cr])∧Hid (Mem (NwS (Bt 0 T0) wr.heap.size) wr (.s 5 (tkRows F)) (.slice a0 n0 b1))∧Hid (OwnX (Value.slice ar mr cr).ownBlock B0 40 5 wr (.slice ad md cd) (ys.map Da.row))∧Hid (OwnX (Value.slice ad md cd).ownBlock B0 62 11 wr (.slice ar mr cr) R)∧(G.ok=true→ys.length+R.length+leftM F G≤F.length)∧ys.length+R.length≤F.length+1∧B0≤wr.heap.size) (fun wr=>posU F.length (g.heap.size+1) wr)
 case atStart=>exact ⟨[],[],[],[],_,⟨0,none⟩,0,_,none,0,0,none,0,0,hV,zz (RelS.refl _),zz (fun _=>⟨rfl,rfl⟩),m,d,f,j,o,u,zz (OwnX.nil _ _ _ _ _),zz (OwnX.nil _ _ _ _ _),(fun _=>by have :=leftM_le (ts:=F) ⟨0,none⟩;simp only [List.length_nil];omega),by simp,by omega⟩
 case round=>
  clear m d f j o u hV P;obtain ⟨ds,rs,ys,R,st,G,d1,gg,ad,md,cd,ar,mr,cr,M,ao,b0,m,d,f,j,o,u,C,D,c0,cm,cj⟩:=hrel;have b6:=j
  cases gg with
  | zero=>rw [itemsM] at M;cases M
  | succ gg=>
   rw [itemsM] at M;cases hok:G.ok
   case' false=>
    have a5:st.ok=false:=ao.out.ok.symm.trans hok;rw [if_neg (by rw [a5];simp)] at M;clear a5;have r:=kc2 d;have t:=kc2 f;have A:=kc6 j;have B:=kc2 o;have z:=chain5 w.heap.size (w.heap.size+1) (g.heap.size+1) (g.heap.size+2) wr.heap.size;go_upto_region 15 with (fail);clear r t A B;clear z;clear hok
   case' true=>
    have a5:st.ok=true:=ao.out.ok.symm.trans hok;obtain ⟨e1,e2⟩:=ao.out.eq a5;subst e1;have HD:=zz e2;have al:=zz a5;have b7:Hid ((!G.ok)=false):=zz (by rw [hok];rfl);clear e2;have r:=kc2 d;have t:=kc2 f;have A:=kc6 j;have B:=kc2 o;have z:=chain5 w.heap.size (w.heap.size+1) (g.heap.size+1) (g.heap.size+2) wr.heap.size
    go_wp2_with (fail)
    clear r t A B;clear z;refine (nowB G d1 (by first | exact rfl | exact b7.out) _ (memY u.out (by omega))).mono ?_;rintro _ wr ⟨rfl,q⟩;replace d:=kB d q;replace f:=kB f q;replace j:=kB j q;replace o:=kB o q;replace C:=kxO C q;replace D:=kxO D q;replace u:=kY u q;replace m:=kF m q;have c8:=q.size;clear q
    replace cj:B0≤wr.heap.size:=by omega
    clear c8;simp only [tkV];have r:=kc2 d;have t:=kc2 f;have A:=kc6 j;have B:=kc2 o;have z:=chain5 w.heap.size (w.heap.size+1) (g.heap.size+1) (g.heap.size+2) wr.heap.size
    by_cases ah:(nowT F G.i).k=0
    case neg=>
     have e0:((nowT F G.i).k != 0)=true:=by simp [ah]
     rw [if_pos (by rw [a5,decide_eq_false ah];rfl)] at M;have e2:=HD.out;subst e2;have c2:=c0 hok;rw [leftM_ok a5] at c2;have ap:=zz (step_take (ts:=F) (k:=1) (x:=⟨#[]⟩) G);obtain ⟨s2,au⟩:∃ s2,takeS F G 1 ⟨#[]⟩=s2:=⟨_,rfl⟩
     have b2:s2.ok=true→G.i<F.length:=fun h=>by
      rw [←au] at h;unfold takeS at h
      split at h
      · rename_i hi;exact isT_lt (isS_parts hi).2 (by decide)
      · rw [fail_notok] at h;cases h
     rw [au] at M ap;have bs:=zz au;have bh:=zz (RelS.refl s2);clear au ah hok a5 HD
     go_wp2_with (fail)
     clear r t A B;refine (takeB G 0 1 ⟨#[]⟩ (by first | exact rfl | exact b7.out) _ (memY u.out (by omega)) (by decide)).mono ?_;rintro _ w6 ⟨rfl,q⟩;replace d:=kB d q;replace f:=kB f q;replace j:=kB j q;replace o:=kB o q;replace C:=kxO C q;replace D:=kxO D q;replace u:=kY u q;replace m:=kF m q;have co:=q.size;clear q;rw [bs.out];simp only [rdS,rdV];clear z;have r:=kc2 d;have t:=kc2 f;have A:=kc6 j;have B:=kc2 o;have z:=chain5 w.heap.size (w.heap.size+1) (g.heap.size+1) (g.heap.size+2) w6.heap.size
     go_wp2_with (fail)
     clear r t A B;generalize a:World.setCell _ ⟨(g.heap.size+1),5,none⟩ _=w7;have cw:=sizeS6 a;replace m:=fN6 m a;replace d:=bF6 d a;replace f:=bF6 f a;replace j:=bS6 j a;replace o:=bF6 o a;replace C:=oxS6 C a;replace D:=oxS6 D a;replace u:=yS6 u a;clear a;clear z;have r:=kc2 d;have t:=kc2 f;have A:=kc6 j;have B:=kc2 o;have z:=chain5 w.heap.size (w.heap.size+1) (g.heap.size+1) (g.heap.size+2) w7.heap.size;have I:=chain5 w.heap.size (w.heap.size+1) (g.heap.size+1) (g.heap.size+2) (w6.heap.size);clear r t A B;refine (isU s2 0 5 wData _ (memY u.out (by omega))).mono ?_;rintro _ w8 ⟨rfl,q⟩;replace d:=kB d q;replace f:=kB f q;replace j:=kB j q;replace o:=kB o q;replace C:=kxO C q;replace D:=kxO D q;replace u:=kY u q;replace m:=kF m q;have cp:=q.size;clear q;clear z I;have r:=kc2 d;have t:=kc2 f;have A:=kc6 j;have B:=kc2 o;have z:=chain5 w.heap.size (w.heap.size+1) (g.heap.size+1) (g.heap.size+2) w8.heap.size
     cases hd:isS F s2 5 wData with
     | true=>
      rw [if_pos hd] at M;obtain ⟨Y,aw,M⟩:=Option.bind_eq_some_iff.1 M;obtain ⟨y0,sy⟩:=Y;have a2:=zz aw;clear aw
      go_wp2_with (fail)
      clear r t A B;have am:=C;have an:=D;refine (rdata_any bh.out a2.out _ (memY u.out (by omega)) bn).mono ?_;rintro _ E ⟨s3,y,ay,my,cy,az,mz,cz,rfl,q,hrel,hm,aq,hy⟩;replace d:=kB d q;replace f:=kB f q;replace j:=kB j q;replace o:=kB o q;replace C:=kxO C q;replace D:=kxO D q;replace u:=kY u q;replace m:=kF m q;have ca:=q.size;clear q;have a4:=zz hrel;have O:=zz hm;have N:=zz aq;have ba:=zz hy;clear hrel hm aq hy;simp only [rdS,rdV,daV];clear z;have r:=kc2 d;have t:=kc2 f;have A:=kc6 j;have B:=kc2 o;have z:=chain5 w.heap.size (w.heap.size+1) (g.heap.size+1) (g.heap.size+2) E.heap.size;go_upto_region 10 with (fail);clear r t A B;generalize a:World.alloc E _=be;have W:=sizeA a;replace m:=fA m a;replace d:=bA d a;replace f:=bA f a;replace j:=bA j a;replace o:=bA o a;replace O:=mA O a;replace N:=mA N a;replace C:=oxA C a;replace D:=oxA D a;replace u:=yA u a;have Q:=nB a (E.heap.size);clear a;generalize a:World.alloc be _=ax;have X:=sizeA a;replace m:=fA m a;replace d:=bA d a;replace f:=bA f a;replace j:=bA j a;replace o:=bA o a;replace Q:=bA Q a;replace O:=mA O a;replace N:=mA N a;replace C:=oxA C a;replace D:=oxA D a;replace u:=yA u a;have a1:=nB a (E.heap.size+1);clear a
      have cc:ax.heap.size=E.heap.size+2:=by omega
      clear W X;clear z;have r:=kc2 d;have t:=kc2 f;have A:=kc6 j;have B:=kc2 o;have pc:=kc6 Q;have xc:=kc5 a1;have z:=chain7 w.heap.size (w.heap.size+1) (g.heap.size+1) (g.heap.size+2) E.heap.size (E.heap.size+1) ax.heap.size;have I:=chain7 w.heap.size (w.heap.size+1) (g.heap.size+1) (g.heap.size+2) E.heap.size (E.heap.size+1) (E.heap.size+2);go_upto_region 11 with (fail);clear r t A B pc xc;generalize a:World.setCell _ ⟨(g.heap.size+1),5,none⟩ _=ag;have cg:=sizeS6 a;replace m:=fN6 m a;replace d:=bF6 d a;replace f:=bF6 f a;replace j:=bS6 j a;replace o:=bF6 o a;replace Q:=bF6 Q a;replace a1:=bF6 a1 a;replace O:=mS6 O a;replace N:=mS6 N a;replace C:=oxS6 C a;replace D:=oxS6 D a;replace u:=yS6 u a;clear a;clear z I;have r:=kc2 d;have t:=kc2 f;have A:=kc6 j;have B:=kc2 o;have pc:=kc6 Q;have xc:=kc5 a1;have z:=chain7 w.heap.size (w.heap.size+1) (g.heap.size+1) (g.heap.size+2) E.heap.size (E.heap.size+1) ag.heap.size;have I:=chain7 w.heap.size (w.heap.size+1) (g.heap.size+1) (g.heap.size+2) E.heap.size (E.heap.size+1) (E.heap.size+2)
      have T:∀ k,(Value.slice ad md cd).ownBlock=some k→B0≤k:=fun k L=>(C.out.lt k L).1
      have av:∀ k,_=some k→k<ag.heap.size:=fun k L=>(D.out.lt k L).2
      go_wp2_with (first | (at_builtin;refine Hid.out ?_))
      refine zz ?_;refine wpList_append_S2 rfl _ _ rfl Tryz.underlying23 info_datM rfl (by decide) rfl rfl (C.out.alloc _).ow (by simp) (row_appXG am.out (fun k L=>(an.out.lt k L).2) (by omega) (by omega) (da_mem (x:=y) O.out N.out) rfl (by omega)) (by simp only [List.length_map,List.length_cons,List.length_nil];omega) (by simp only [List.length_map,List.length_cons,List.length_nil];omega) (by rw [World.size_alloc];omega) ?_;intro ck a6 ho J af;obtain ⟨a9,m9,c9,rfl⟩:=mem_slice ho.mem
      have cb:ag.heap.size+1≤a6.heap.size:=by have h:=J.size;rw [World.size_alloc] at h;exact h
      replace m:=gFx m J T;replace d:=gOx d J T;replace f:=gOx f J T;replace j:=gOx j J T;replace o:=gOx o J T
      replace u:=zz (memS_grown (memS_alloc u.out _) J (fun k L=>by have :=T k L;unfold Bt;omega))
      have a8:=zz ((C.out.alloc _).app ho (fun k L=>Nat.lt_of_lt_of_le (av k L) (by rw [World.size_alloc];omega)) af);have aa:=zz ((D.out.alloc _).other2 J af);clear r t A B pc xc;clear z I;clear ho J T af av am an C D Q a1 O N;have r:=kc2 d;have t:=kc2 f;have A:=kc6 j;have B:=kc2 o;have z:=chain5 w.heap.size (w.heap.size+1) (g.heap.size+1) (g.heap.size+2) a6.heap.size
      go_wp2_with (fail)
      clear r t A B;generalize a:World.setCell a6 _ _=bf;have ch:=sizeS1 a;replace m:=fN1 m a;replace d:=bF1 d a;replace f:=bF1 f a;replace j:=bF1 j a;replace o:=s2_0 o a;replace a8:=oxS1 a8 a;replace aa:=oxS1 aa a;replace u:=yS1 u a;clear a;clear z;have r:=kc2 d;have t:=kc2 f;have A:=kc6 j;have B:=kc2 o;have z:=chain5 w.heap.size (w.heap.size+1) (g.heap.size+1) (g.heap.size+2) bf.heap.size;have I:=chain5 w.heap.size (w.heap.size+1) (g.heap.size+1) (g.heap.size+2) (a6.heap.size);clear r t A B
      go_roundw
      case rel=>exact ⟨ds++[y0],rs,ys++[y],R,sy,s3,0,gg,a9,m9,c9,ar,mr,cr,M,a4,zz (fun h=>by have h2:=(itemsM_ok9 M h);have h3:=b0.out h;rw [h3.1,ba.out h2];exact ⟨rfl,h3.2⟩),m,d,f,j,o,u,(zz (by rw [List.map_append];exact a8.out)),aa,(fun ae=>by
       have Z:sy.ok=true:=a4.out.ok.symm.trans ae;obtain ⟨e3,_⟩:=a4.out.eq Z;have h1:leftM F sy≤leftM F G - 2:=leftM_step (ts:=F) (ap.out.trans (dataM_step a2.out));have h2:=b2 ((dataM_step a2.out).fwd Z).1;rw [leftM_ok al.out] at h1;rw [e3];simp only [List.length_append,List.length_cons,List.length_nil]
       omega),(by simp only [List.length_append,List.length_cons,List.length_nil];omega),by omega⟩
      case measure=>
       exact posU_lt b6.out j.out _ al.out fun ae=>by
        have Z:sy.ok=true:=a4.out.ok.symm.trans ae;obtain ⟨e3,_⟩:=a4.out.eq Z;have h1:G.i+2≤sy.i:=((ap.out.trans (dataM_step a2.out)).fwd Z).2;rw [e3];exact ⟨by omega,b2 ((dataM_step a2.out).fwd Z).1⟩
     | false=>
      rw [if_neg (by rw [hd];decide)] at M;obtain ⟨Y,aw,M⟩:=Option.bind_eq_some_iff.1 M;obtain ⟨y0,sy⟩:=Y;have a2:=zz aw;clear aw
      go_wp2_with (fail)
      clear r t A B;have am:=D;have an:=C;refine (rrule_any bh.out a2.out _ (memY u.out (by omega)) bn).mono ?_;rintro _ E ⟨s3,d3,nm,R1,G1,z1,ay,my,cy,az,mz,cz,kk,tt,nn,a3,m3,c3,u1,v1,l1,c1,rfl,q,hrel,hm,aq,bm,hy⟩;replace d:=kB d q;replace f:=kB f q;replace j:=kB j q;replace o:=kB o q;replace C:=kxO C q;replace D:=kxO D q;replace u:=kY u q;replace m:=kF m q;have ca:=q.size;clear q;have a4:=zz hrel;have O:=zz hm;have N:=zz aq;have a7:=zz bm;have ba:=zz hy;clear hrel hm aq bm hy;simp only [rdS,rdV];clear z;have r:=kc2 d;have t:=kc2 f;have A:=kc6 j;have B:=kc2 o;have z:=chain5 w.heap.size (w.heap.size+1) (g.heap.size+1) (g.heap.size+2) E.heap.size;go_upto_region 13 with (fail);clear r t A B;generalize a:World.alloc E _=be;have W:=sizeA a;replace m:=fA m a;replace d:=bA d a;replace f:=bA f a;replace j:=bA j a;replace o:=bA o a;replace O:=mA O a;replace N:=mA N a;replace a7:=mA a7 a;replace C:=oxA C a;replace D:=oxA D a;replace u:=yA u a;have Q:=nB a (E.heap.size);clear a;generalize a:World.alloc be _=ax;have X:=sizeA a;replace m:=fA m a;replace d:=bA d a;replace f:=bA f a;replace j:=bA j a;replace o:=bA o a;replace Q:=bA Q a;replace O:=mA O a;replace N:=mA N a;replace a7:=mA a7 a;replace C:=oxA C a;replace D:=oxA D a;replace u:=yA u a;have a1:=nB a (E.heap.size+1);clear a
      have cc:ax.heap.size=E.heap.size+2:=by omega
      clear W X;clear z;have r:=kc2 d;have t:=kc2 f;have A:=kc6 j;have B:=kc2 o;have pc:=kc6 Q;have xc:=a1.out.c11z;have z:=chain7 w.heap.size (w.heap.size+1) (g.heap.size+1) (g.heap.size+2) E.heap.size (E.heap.size+1) ax.heap.size;have I:=chain7 w.heap.size (w.heap.size+1) (g.heap.size+1) (g.heap.size+2) E.heap.size (E.heap.size+1) (E.heap.size+2);go_upto_region 14 with (fail);clear r t A B pc xc;generalize a:World.setCell _ ⟨(g.heap.size+1),5,none⟩ _=ag;have cg:=sizeS6 a;replace m:=fN6 m a;replace d:=bF6 d a;replace f:=bF6 f a;replace j:=bS6 j a;replace o:=bF6 o a;replace Q:=bF6 Q a;replace a1:=bF6 a1 a;replace O:=mS6 O a;replace N:=mS6 N a;replace a7:=mS6 a7 a;replace C:=oxS6 C a;replace D:=oxS6 D a;replace u:=yS6 u a;clear a;clear z I;have r:=kc2 d;have t:=kc2 f;have A:=kc6 j;have B:=kc2 o;have pc:=kc6 Q;have xc:=a1.out.c11z;have z:=chain7 w.heap.size (w.heap.size+1) (g.heap.size+1) (g.heap.size+2) E.heap.size (E.heap.size+1) ag.heap.size;have I:=chain7 w.heap.size (w.heap.size+1) (g.heap.size+1) (g.heap.size+2) E.heap.size (E.heap.size+1) (E.heap.size+2)
      have T:∀ k,(Value.slice ar mr cr).ownBlock=some k→B0≤k:=fun k L=>(D.out.lt k L).1
      have av:∀ k,_=some k→k<ag.heap.size:=fun k L=>(C.out.lt k L).2
      go_wp2_with (first | (at_builtin;refine Hid.out ?_))
      refine zz ?_;refine wpList_append_S2 rfl _ _ rfl Tryz.underlying24 info_rulM rfl (by decide) rfl rfl (D.out.alloc _).ow (by simp) (row_appXG am.out (fun k L=>(an.out.lt k L).2) (by omega) (by omega) (rowR_mem O.out N.out a7.out) rfl (by omega)) (by simp only [List.length_cons,List.length_nil];omega) (by simp only [List.length_cons,List.length_nil];omega) (by rw [World.size_alloc];omega) ?_;intro ck a6 ho J af;obtain ⟨a9,m9,c9,rfl⟩:=mem_slice ho.mem
      have cb:ag.heap.size+1≤a6.heap.size:=by have h:=J.size;rw [World.size_alloc] at h;exact h
      replace m:=gFx m J T;replace d:=gOx d J T;replace f:=gOx f J T;replace j:=gOx j J T;replace o:=gOx o J T
      replace u:=zz (memS_grown (memS_alloc u.out _) J (fun k L=>by have :=T k L;unfold Bt;omega))
      have aa:=zz ((D.out.alloc _).app ho (fun k L=>Nat.lt_of_lt_of_le (av k L) (by rw [World.size_alloc];omega)) af);have a8:=zz ((C.out.alloc _).other2 J af);clear r t A B pc xc;clear z I;clear ho J T af av am an D C Q a1 O N a7;have r:=kc2 d;have t:=kc2 f;have A:=kc6 j;have B:=kc2 o;have z:=chain5 w.heap.size (w.heap.size+1) (g.heap.size+1) (g.heap.size+2) a6.heap.size
      go_wp2_with (fail)
      clear r t A B;generalize a:World.setCell a6 _ _=bf;have ch:=sizeS1 a;replace m:=fN1 m a;replace d:=bF1 d a;replace f:=bF1 f a;replace j:=bF1 j a;replace o:=s2_1 o a;replace a8:=oxS1 a8 a;replace aa:=oxS1 aa a;replace u:=yS1 u a;clear a;clear z;have r:=kc2 d;have t:=kc2 f;have A:=kc6 j;have B:=kc2 o;have z:=chain5 w.heap.size (w.heap.size+1) (g.heap.size+1) (g.heap.size+2) bf.heap.size;have I:=chain5 w.heap.size (w.heap.size+1) (g.heap.size+1) (g.heap.size+2) (a6.heap.size);clear r t A B
      go_roundw
      case rel=>exact ⟨ds,rs++[y0],ys,R++[rowR nm R1 G1 kk tt nn z1 u1 v1 l1 c1],sy,s3,d3,gg,ad,md,cd,a9,m9,c9,M,a4,zz (fun h=>by have h2:=(itemsM_ok9 M h);have h3:=b0.out h;rw [h3.2,ba.out h2,List.map_append];exact ⟨h3.1,rfl⟩),m,d,f,j,o,u,a8,aa,(fun ae=>by
       have Z:sy.ok=true:=a4.out.ok.symm.trans ae;obtain ⟨e3,_⟩:=a4.out.eq Z;have h1:leftM F sy≤leftM F G - 2:=leftM_step (ts:=F) (ap.out.trans (ruleM_step a2.out));have h2:=b2 ((ruleM_step a2.out).fwd Z).1;rw [leftM_ok al.out] at h1;rw [e3];simp only [List.length_append,List.length_cons,List.length_nil]
       omega),(by simp only [List.length_append,List.length_cons,List.length_nil];omega),by omega⟩
      case measure=>
       exact posU_lt b6.out j.out _ al.out fun ae=>by
        have Z:sy.ok=true:=a4.out.ok.symm.trans ae;obtain ⟨e3,_⟩:=a4.out.eq Z;have h1:G.i+2≤sy.i:=((ap.out.trans (ruleM_step a2.out)).fwd Z).2;rw [e3];exact ⟨by omega,b2 ((ruleM_step a2.out).fwd Z).1⟩
    case' pos=>
     have e0:((nowT F G.i).k != 0)=false:=by simp [ah]
     rw [if_neg (by rw [a5,ah];decide)] at M;go_upto_region 15 with (fail);clear r t A B;clear z;clear e0 ah a5 hok HD al b7
   all_goals (
    have e9:=Prod.mk.inj (Option.some.inj M);have e8:=Prod.mk.inj e9.2
    have b8:Hid (RelS sz G d1):=zz (by have h:=ao.out;have e:=e8.2.symm;rw [e];exact h)
    have bt:Hid (sz.ok=true→ys=dz∧R=rz.map Ru.row):=zz (fun h=>by have h2:=b0.out h;rw [←e9.1, ←e8.1];exact h2)
    clear M e9 e8 ao b0 b6 u;obtain ⟨T1,bj⟩:∃ k,k=wr.heap.size:=⟨_,rfl⟩;have ab:Hid (Mem (NwS (Bt B0 T1) wr.heap.size) wr (.s 5 (ys.map Da.row)) (.slice ad md cd)):=zz (by rw [bj];exact memS_bt C.out.mem (by omega));have ac:Hid (Mem (NwS (Bt B0 T1) wr.heap.size) wr (.s 11 R) (.slice ar mr cr)):=zz (by rw [bj];exact memS_bt D.out.mem (by omega));clear C D
    cases hok:G.ok with
    | false=>
     have b4:sz.ok=false:=b8.out.ok.symm.trans hok
     have bd:rp=.bad 1 (lB G.b) (cB G.b):=by rw [bi.out,b8.out.b];exact endM_bad b4
     subst bd;clear ab ac;have r:=kc2 d;have t:=kc2 f;have A:=kc6 j;have B:=kc2 o;have z:=chain5 w.heap.size (w.heap.size+1) (g.heap.size+1) (g.heap.size+2) wr.heap.size;go_upto_region 16 with (fail);clear r t A B;clear z;have r:=kc2 d;have t:=kc2 f;have A:=kc6 j;have B:=kc2 o;have z:=chain5 w.heap.size (w.heap.size+1) (g.heap.size+1) (g.heap.size+2) wr.heap.size;refine wp_region_held_drew (S:=fun w'=>Far (fun b=>b=w.heap.size∨b=(w.heap.size+1)) (wr) w') (by kernel_rfl) (Far.of (below_drew _)) (fun bv=>?_);refine takeA 0 (v:=?_) rfl ?_ ?_;rotate_left
     · (intro w V;replace A:=Far.c6z A V;go_simp;try rfl)
     (try simp only [pu]);refine takeA 1 (v:=?_) rfl ?_ ?_;rotate_left
     · (intro w V;replace A:=Far.c6z A V;go_simp;try rfl)
     (try simp only [pu]);refine takeA 2 (v:=?_) rfl ?_ ?_;rotate_left
     · (intro w V;replace A:=Far.c6z A V;go_simp;try rfl)
     (try simp only [pu]);refine callA 3 rfl fun K hK=>?_;go_simp;refine hK.out _ _ ?_ (fun bb=>?_);· exact (by refine Far.trans ?_ (Far.of (below_drew _));(iterate 2 (refine Far.setCell (p:=⟨w.heap.size,_,none⟩) ?_ (.inl rfl) _));exact Far.refl _ _)
     clear hK K;clear r t A B;generalize a:((wr.setCell ⟨w.heap.size,0,none⟩ (.slice none 0 0)).setCell ⟨w.heap.size,1,none⟩ (.slice none 0 0))=br at *;have W:=sizeS2 a;replace m:=fN2 m a;replace d:=bS2 d a;replace f:=bF2 f a;replace j:=bF2 j a;replace o:=bF2 o a;clear a;generalize a:(br.drew)=w5 at *;have X:=sizeD a;replace m:=fD m a;replace d:=bD d a;replace f:=bD f a;replace j:=bD j a;replace o:=bD o a;clear a
     have ct:w5.heap.size=wr.heap.size+0:=by omega
     clear W X;clear z;have r:=kc2 d;have t:=kc2 f;have A:=kc6 j;have B:=kc2 o;have z:=chain5 w.heap.size (w.heap.size+1) (g.heap.size+1) (g.heap.size+2) w5.heap.size;have I:=chain5 w.heap.size (w.heap.size+1) (g.heap.size+1) (g.heap.size+2) (wr.heap.size);refine takeA 4 (v:=?_) rfl ?_ ?_;rotate_left
     · (intro w V;go_simp;try rfl)
     (try simp only [pu]);refine callA 5 rfl fun K hK=>?_;go_simp;refine hK.out _ _ ?_ (fun bw=>?_);· exact (by (iterate 2 (refine Far.setCell (p:=⟨(w.heap.size+1),_,none⟩) ?_ (.inr rfl) _));exact bb)
     clear hK K;refine wpAnyH_done (by kernel_rfl) ?_ _;clear r t A B;generalize a:World.setCell _ ⟨(w.heap.size+1),1,none⟩ _=w6;have cv:=sizeS2 a;replace m:=fN2 m a;replace d:=bF2 d a;replace f:=bS2 f a;replace j:=bF2 j a;replace o:=bF2 o a;clear a;clear z I
     go_wp2_with (fail)
     have fr:=kc2 d;have fz:=kc2 f;refine bodyPost_ret (v:=.tuple #[.agg #[.slice none 0 0,.slice none 0 0],.int .i64 1,.agg #[.int .i64 (lB G.b),.int .i64 (cB G.b)]]) (by clear m H d f j o;simp [results,Tryz.results7,go_sem,fr,fz]) rfl ?_;exact ⟨none,0,0,none,0,0,rfl,refBelow m.out,.e none 0 5 (by decide),.e none 0 11 (by decide)⟩
    | true=>
     have b4:sz.ok=true:=b8.out.ok.symm.trans hok
     have bd:rp=.ok dz rz:=by rw [bi.out];exact endM_ok b4
     subst bd;obtain ⟨ey,eR⟩:=bt.out b4;subst ey;subst eR;have r:=kc2 d;have t:=kc2 f;have A:=kc6 j;have B:=kc2 o;have z:=chain5 w.heap.size (w.heap.size+1) (g.heap.size+1) (g.heap.size+2) wr.heap.size
     go_wp2_with (fail)
     clear r t A B;generalize a:World.setCell _ ⟨w.heap.size,1,none⟩ _=br;have W:=sizeS2 a;replace m:=fN2 m a;replace d:=bS2 d a;replace f:=bF2 f a;replace j:=bF2 j a;replace o:=bF2 o a;replace ab:=yS2 ab a;replace ac:=yS2 ac a;clear a;generalize a:World.setCell _ ⟨(w.heap.size+1),1,none⟩ _=w5;have X:=sizeS2 a;replace m:=fN2 m a;replace d:=bF2 d a;replace f:=bS2 f a;replace j:=bF2 j a;replace o:=bF2 o a;replace ab:=yS2 ab a;replace ac:=yS2 ac a;clear a
     have ci:w5.heap.size=wr.heap.size:=by omega
     clear W X;clear z
     go_wp2_with (fail)
     have fr:=kc2 d;have fz:=kc2 f;refine bodyPost_ret (v:=.tuple #[.agg #[.slice ad md cd,.slice ar mr cr],.int .i64 0,.agg #[.int .i64 0,.int .i64 0]]) (by clear m H d f j o ab ac;simp [results,Tryz.results7,go_sem,fr,fz]) rfl ?_
     exact ⟨_,_,_,_,_,_,rfl,refBelow m.out,memS_nw ab.out (fun b q=>Nat.le_trans (by omega) q.1),memS_nw ac.out (fun b q=>Nat.le_trans (by omega) q.1)⟩)
end
end Go.Proofs.YtcoiagfeoonpbaaGreat
