/-
 The document's reader's typ and types: types. No condition but how the tokens lie.
-/
import Derived.Test.YtcoiagfeoonpbaaGreatMp14
import Derived.Test.YtcoiagfeoonpbaaGreatMp16
import Derived.Test.YtcoiagfeoonpbaaGreatMp10
import Derived.Deep.Cut
import Derived.Test.YtcoiagfeoonpbaaGreatMp3
import Derived.Test.YtcoiagfeoonpbaaGreatMp9
set_option maxHeartbeats 20000000
set_option maxRecDepth 100000
namespace Go.Proofs.YtcoiagfeoonpbaaGreat
section
open Go.RowKit
def RTAns (aL:Option Addr) (n cap:Nat) (x:Tm) (s':MS) (deep:Int) (W:World) (e:Ending) (w':World):Prop:=
 ∃ a m c,e=.returned (.tuple #[rdS aL n cap s' deep,tmV x a m c])∧Below W.heap.size W w'∧Mem (Nw 0 W.heap.size w'.heap.size) w' (.s 4 (Tm.rows x.args)) (.slice a m c)
def RLAns (aL:Option Addr) (n cap:Nat) (l:List Tm) (s':MS) (deep:Int) (W:World) (e:Ending) (w':World):Prop:=
 ∃ a m c,e=.returned (.tuple #[rdS aL n cap s' deep,.slice a m c])∧Below W.heap.size W w'∧Mem (Nw 0 W.heap.size w'.heap.size) w' (.s 4 (Tm.rows l)) (.slice a m c)
section
variable (ts:List Tk) (aL:Option Addr) (n cap:Nat)
def ReadsRT (f:Nat):Prop:=∀ (at':Bool) (s:MS) (deep:Nat) (x:Tm) (s':MS) (w:World),deep≤40→(at'=true→s.ok=true)→typeM ts f (if at' then .atom else .typ) deep s=some (x,s')→MemW w (.s 5 (tkRows ts)) (.slice aL n cap)→n≤1048576→Calls Tryz.prog 138 #[rdS aL n cap s (deep:Int),.bool at'] w (RTAns aL n cap x s' (deep:Int) w)
def ReadsRL (f:Nat):Prop:=∀ (s:MS) (deep:Nat) (x:Tm) (s':MS) (w:World),deep≤40→typeM ts f (.atoms []) deep s=some (x,s')→MemW w (.s 5 (tkRows ts)) (.slice aL n cap)→n≤1048576→Calls Tryz.prog 103 #[rdS aL n cap s (deep:Int)] w (RLAns aL n cap x.args s' (deep:Int) w)
end
section
variable {ts:List Tk} {aL:Option Addr} {n cap:Nat}
theorem row_appG {base:Nat} {w:World} {t:TypeId} {sz:Nat} {y:Value} {rs:List (List At)} {W:World} {r:List At} {a:Array Value} (h:OwnD 0 base t sz W y rs) (d:base≤W.heap.size) (i:W.heap.size≤w.heap.size) (f:All2 (Mem (Nw 0 W.heap.size w.heap.size) w) r a.toList) (j:a.toList.length=sz) {g:Nat} (e:w.heap.size=g):
  Mem (fun b=>Nw 0 base (w.alloc (.cells a t)).heap.size b∧y.ownBlock≠some b) (w.alloc (.cells a t)) (.s sz [r]) (.slice (some ⟨g,0,none⟩) 1 1):=by
 subst e;exact row_app h d i f j
theorem yS4 {w b:World} {g:Nat} {A:Nat→Prop} {x:At} {y:Value} {d f i j:Value} (h:Hid (Mem (NwS A w.heap.size) w x y)) (e:((((w.setCell ⟨g,0,none⟩ d).setCell ⟨g,1,none⟩ f).setCell ⟨g,2,none⟩ i).setCell ⟨g,3,none⟩ j)=b) (a: ¬A g:=by first | (unfold Av;omega) | (unfold Bt;omega)):Hid (Mem (NwS A b.heap.size) b x y):=zz (e ▸ memS_set (memS_set (memS_set (memS_set h.out a 0 d) a 1 f) a 2 i) a 3 j)
attribute [local go_sem] tk_pos tk_text tk_kind0
theorem typR_bad {i:Nat} {p:Int × Int} {d:Int} (o:Bool) (w:World) (h:MemW w (.s 5 (tkRows ts)) (.slice aL n cap)):
  Calls Tryz.prog 138 #[rdV aL n cap (i:Int) d true p.1 p.2,.bool o] w (RTAns aL n cap noTm ⟨i,some p⟩ d w):=by
 have H:=zz h;clear h;have b:Hid (FarB w.heap.size w.heap.size w w):=zz (FarB.refl _ _ _);simp only [rdV];go_enter Tryz.func138,Tryz.ntmps138
 go_wp2_with (fail)
 generalize a:World.alloc w _=C;have r:=sizeA a;replace b:=fA b a;have j:=nB a (w.heap.size);clear a;generalize a:World.alloc C _=D;have t:=sizeA a;replace b:=fA b a;replace j:=bA j a;have f:=nB a (w.heap.size+1);clear a;generalize a:World.alloc D _=B;have u:=sizeA a;replace b:=fA b a;replace j:=bA j a;replace f:=bA f a;have g:=nB a (w.heap.size+2);clear a
 have J:B.heap.size=w.heap.size+3:=by omega
 clear r t u;refine (nowR_any _ (refTok b.out H.out)).mono ?_;rintro _ E ⟨rfl,m⟩;replace j:=kB j m;replace f:=kB f m;replace g:=kB g m;replace b:=kF b m;have I:=m.size;clear m;simp only [tkV];have x:=kc6 j;have A:=kc6 f;have G:=kc4 g;have q:=i012_0 w E
 go_wp2_with (fail)
 clear x A G;generalize a:World.setCell _ ⟨(w.heap.size+1),5,none⟩ _=L;replace b:=fN6 b a;replace f:=bS6 f a;replace g:=bF6 g a;clear a;generalize a:World.setCell _ ⟨(w.heap.size+2),3,none⟩ _=F;replace b:=fN4 b a;replace f:=bF4 f a;replace g:=bS4 g a;clear a;generalize a:World.alloc F _=K;replace b:=fA b a;replace f:=bA f a;replace g:=bA g a;clear a;clear q
 go_wp2_with (fail)
 have z:=kc6 f;have y:=kc4 g;refine bodyPost_ret (v:=.tuple #[.agg #[.slice aL n cap,.int .i64 (i:Int),.int .i64 d,.bool true,.int .i64 p.1,.int .i64 p.2],.agg #[.int .i64 0,.string ⟨#[]⟩,.int .i64 0,.slice none 0 0]]) (by clear b H j f g;simp [results,Tryz.results138,go_sem,z,y]) rfl ?_;exact ⟨_,_,_,rfl,refBelow b.out,.e none 0 4 (by decide)⟩
theorem typR_badC {i:Nat} {d l c:Int} (w:World) (h:MemW w (.s 5 (tkRows ts)) (.slice aL n cap)):
  Calls Tryz.prog 138 #[rdV aL n cap (i:Int) d true l c,.bool false] w fun e g=>∃ a m b,e=.returned (.tuple #[rdV aL n cap (i:Int) d true l c,.agg #[.int .i64 0,.string ⟨#[]⟩,.int .i64 0,.slice a m b]])∧Below w.heap.size w g∧m=0∧b≤maxLen:=
 (typR_bad (i:=i) (p:=(l,c)) (d:=d) false w h).mono fun e g ⟨a,m,b,h1,h2,h3⟩=>⟨a,m,b,h1,h2,by have f:=h3.len;exact f.1.symm,by have f:=h3.len;unfold maxLen;omega⟩
theorem typR_low {i A:Nat} (I:Bool) (w:World) (h:MemW w (.s 5 (tkRows ts)) (.slice aL n cap)) (B:(nowT ts i).k=2):
  Calls Tryz.prog 138 #[rdV aL n cap (i:Int) (A:Int) false 0 0,.bool I] w (RTAns aL n cap (.mk 1 (nowT ts i).s 0 []) ⟨i+1,none⟩ (A:Int) w):=by
 have H:=zz h;clear h;have d:Hid (FarB w.heap.size w.heap.size w w):=zz (FarB.refl _ _ _);simp only [rdV];go_enter Tryz.func138,Tryz.ntmps138
 have X:((nowT ts i).k==2)=true:=by simp [B]
 have M:i<ts.length:=now_lt (by rw [B];decide);have F:=H.out.len
 have u:(i:Int)+1≤9223372036854775807:=by rw [tkRows_len] at F;omega
 clear F M;replace u:=zz u;clear B
 go_wp2_with (fail)
 generalize a:World.alloc w _=R;have C:=sizeA a;replace d:=fA d a;have j:=nB a (w.heap.size);clear a;generalize a:World.alloc R _=T;have D:=sizeA a;replace d:=fA d a;replace j:=bA j a;have f:=nB a (w.heap.size+1);clear a;generalize a:World.alloc T _=Q;have N:=sizeA a;replace d:=fA d a;replace j:=bA j a;replace f:=bA f a;have g:=nB a (w.heap.size+2);clear a
 have a1:Q.heap.size=w.heap.size+3:=by omega
 clear C D N;refine (nowR_any _ (refTok d.out H.out)).mono ?_;rintro _ x ⟨rfl,r⟩;replace j:=kB j r;replace f:=kB f r;replace g:=kB g r;replace d:=kF d r;have a0:=r.size;clear r;simp only [tkV];have o:=kc6 j;have J:=i012_0 w x;go_upto_region 12 with (fail);replace u:=u.out
 go_wp2_with (fail)
 clear o;generalize a:World.setCell x _ _=U;have C:=sizeS1 a;replace d:=fN1 d a;replace j:=s6_1 j a;replace f:=bF1 f a;replace g:=bF1 g a;clear a;generalize a:World.alloc U _=G;have D:=sizeA a;replace d:=fA d a;replace j:=bA j a;replace f:=bA f a;replace g:=bA g a;have E:=nB a (x.heap.size);clear a
 have a2:G.heap.size=x.heap.size+1:=by omega
 clear C D;clear J;have o:=kc6 j;have O:=kc6 f;have q:=kc5 E;refine wp_region_held_drew (S:=fun P=>Far (fun b=>b=(w.heap.size+1)∨b=(w.heap.size+2)) (G) P) (by kernel_rfl) (Far.of (below_drew _)) (fun Y=>?_);refine takeA 0 (v:=?_) rfl ?_ ?_;rotate_left
 · (intro w m;replace o:=Far.c6z o m;replace q:=Far.c5z q m;go_simp;try rfl)
 (try simp only [pu]);refine takeA 1 (v:=?_) rfl ?_ ?_;rotate_left
 · (intro w m;replace o:=Far.c6z o m;replace q:=Far.c5z q m;go_simp;try rfl)
 (try simp only [pu]);refine takeA 2 (v:=?_) rfl ?_ ?_;rotate_left
 · (intro w m;replace o:=Far.c6z o m;replace q:=Far.c5z q m;go_simp;try rfl)
 (try simp only [pu]);refine takeA 3 (v:=?_) rfl ?_ ?_;rotate_left
 · (intro w m;replace o:=Far.c6z o m;replace q:=Far.c5z q m;go_simp;try rfl)
 (try simp only [pu]);refine callA 4 rfl fun K t=>?_;go_simp;refine t.out _ _ ?_ (fun L=>?_);· exact (by refine Far.trans ?_ (Far.of (below_drew _));(iterate 6 (refine Far.setCell (p:=⟨(w.heap.size+1),_,none⟩) ?_ (.inl rfl) _));exact Far.refl _ _)
 clear t K;clear o O q;generalize a:World.setCell _ ⟨(w.heap.size+1),5,none⟩ _=V at *;replace d:=fN6 d a;replace f:=bS6 f a;replace g:=bF6 g a;clear a;generalize a:(V.drew)=w4 at *;replace d:=fD d a;replace f:=bD f a;replace g:=bD g a;clear a;have W:=kc4 g;refine callA 5 rfl fun K t=>?_;go_simp;refine t.out _ _ ?_ (fun Z=>?_);· exact (by (iterate 4 (refine Far.setCell (p:=⟨(w.heap.size+2),_,none⟩) ?_ (.inr rfl) _));exact L)
 clear t K;refine wpAnyH_done (by kernel_rfl) ?_ _;clear W;generalize a:World.setCell _ ⟨(w.heap.size+2),3,none⟩ _=w5;replace d:=fN4 d a;replace f:=bF4 f a;replace g:=bS4 g a;clear a
 go_wp2_with (fail)
 have z:=kc6 f;have y:=kc4 g;refine bodyPost_ret (v:=.tuple #[.agg #[.slice aL n cap,.int .i64 ((i:Int)+1),.int .i64 (A:Int),.bool false,.int .i64 0,.int .i64 0],.agg #[.int .i64 1,.string (nowT ts i).s,.int .i64 0,.slice none 0 0]]) (by clear d H j f g E;simp [results,Tryz.results138,go_sem,z,y]) rfl ?_;exact ⟨_,_,_,rfl,refBelow d.out,.e none 0 4 (by decide)⟩
theorem typR_upA {i x:Nat} (w:World) (h:MemW w (.s 5 (tkRows ts)) (.slice aL n cap)) (r:(nowT ts i).k=3):
  Calls Tryz.prog 138 #[rdV aL n cap (i:Int) (x:Int) false 0 0,.bool true] w (RTAns aL n cap (.mk 2 (nowT ts i).s 0 []) ⟨i+1,none⟩ (x:Int) w):=by
 have H:=zz h;clear h;have d:Hid (FarB w.heap.size w.heap.size w w):=zz (FarB.refl _ _ _);simp only [rdV];go_enter Tryz.func138,Tryz.ntmps138
 have X:((nowT ts i).k==2)=false:=by simp [r]
 have Y:((nowT ts i).k==3)=true:=by simp [r]
 have M:i<ts.length:=now_lt (by rw [r];decide);have G:=H.out.len
 have t:(i:Int)+1≤9223372036854775807:=by rw [tkRows_len] at G;omega
 clear G M;replace t:=zz t;clear r
 go_wp2_with (fail)
 generalize a:World.alloc w _=Q;have B:=sizeA a;replace d:=fA d a;have j:=nB a (w.heap.size);clear a;generalize a:World.alloc Q _=R;have C:=sizeA a;replace d:=fA d a;replace j:=bA j a;have f:=nB a (w.heap.size+1);clear a;generalize a:World.alloc R _=P;have D:=sizeA a;replace d:=fA d a;replace j:=bA j a;replace f:=bA f a;have g:=nB a (w.heap.size+2);clear a
 have a2:P.heap.size=w.heap.size+3:=by omega
 clear B C D;refine (nowR_any _ (refTok d.out H.out)).mono ?_;rintro _ u ⟨rfl,m⟩;replace j:=kB j m;replace f:=kB f m;replace g:=kB g m;replace d:=kF d m;have a1:=m.size;clear m;simp only [tkV];have q:=kc6 j;have J:=i012_0 w u;go_upto_region 15 with (fail);replace t:=t.out
 go_wp2_with (fail)
 clear q;generalize a:World.setCell u _ _=T;have B:=sizeS1 a;replace d:=fN1 d a;replace j:=s6_1 j a;replace f:=bF1 f a;replace g:=bF1 g a;clear a;generalize a:World.alloc T _=U;have C:=sizeA a;replace d:=fA d a;replace j:=bA j a;replace f:=bA f a;replace g:=bA g a;clear a;generalize a:World.alloc U _=I;have D:=sizeA a;replace d:=fA d a;replace j:=bA j a;replace f:=bA f a;replace g:=bA g a;have F:=nB a (u.heap.size+1);clear a
 have a3:I.heap.size=u.heap.size+2:=by omega
 clear B C D;clear J;have q:=kc6 j;have N:=kc6 f;have E:=kc4 F;refine wp_region_held_drew (S:=fun O=>Far (fun b=>b=(w.heap.size+1)∨b=(w.heap.size+2)) (I) O) (by kernel_rfl) (Far.of (below_drew _)) (fun Z=>?_);refine takeA 0 (v:=?_) rfl ?_ ?_;rotate_left
 · (intro w A;replace q:=Far.c6z q A;go_simp;try rfl)
 (try simp only [pu]);refine takeA 1 (v:=?_) rfl ?_ ?_;rotate_left
 · (intro w A;replace E:=Far.c4z E A;go_simp;try rfl)
 (try simp only [pu]);refine callA 2 rfl fun K o=>?_;go_simp;refine o.out _ _ ?_ (fun L=>?_);· exact (by refine Far.trans ?_ (Far.of (below_drew _));(iterate 6 (refine Far.setCell (p:=⟨(w.heap.size+1),_,none⟩) ?_ (.inl rfl) _));exact Far.refl _ _)
 clear o K;clear q N E;generalize a:World.setCell _ ⟨(w.heap.size+1),5,none⟩ _=V at *;replace d:=fN6 d a;replace f:=bS6 f a;replace g:=bF6 g a;clear a;generalize a:(V.drew)=w4 at *;replace d:=fD d a;replace f:=bD f a;replace g:=bD g a;clear a;have W:=kc4 g;refine callA 3 rfl fun K o=>?_;go_simp;refine o.out _ _ ?_ (fun a0=>?_);· exact (by (iterate 4 (refine Far.setCell (p:=⟨(w.heap.size+2),_,none⟩) ?_ (.inr rfl) _));exact L)
 clear o K;refine wpAnyH_done (by kernel_rfl) ?_ _;clear W;generalize a:World.setCell _ ⟨(w.heap.size+2),3,none⟩ _=w5;replace d:=fN4 d a;replace f:=bF4 f a;replace g:=bS4 g a;clear a
 go_wp2_with (fail)
 have z:=kc6 f;have y:=kc4 g;refine bodyPost_ret (v:=.tuple #[.agg #[.slice aL n cap,.int .i64 ((i:Int)+1),.int .i64 (x:Int),.bool false,.int .i64 0,.int .i64 0],.agg #[.int .i64 2,.string (nowT ts i).s,.int .i64 0,.slice none 0 0]]) (by clear d H j f g F;simp [results,Tryz.results138,go_sem,z,y]) rfl ?_;exact ⟨_,_,_,rfl,refBelow d.out,.e none 0 4 (by decide)⟩
theorem typR_upT {f i u:Nat} {z:Tm} {t:MS} (w:World) (h:MemW w (.s 5 (tkRows ts)) (.slice aL n cap)) (G:(nowT ts i).k=3) (U:u≤40) (W:n≤1048576) (X:typeM ts f (.atoms []) u ⟨i+1,none⟩=some (z,t)) (P:ReadsRL ts aL n cap f):
  Calls Tryz.prog 138 #[rdV aL n cap (i:Int) (u:Int) false 0 0,.bool false] w (RTAns aL n cap (.mk 2 (nowT ts i).s 0 z.args) t (u:Int) w):=by
 have H:=zz h;clear h;have d:Hid (FarB w.heap.size w.heap.size w w):=zz (FarB.refl _ _ _);simp only [rdV];go_enter Tryz.func138,Tryz.ntmps138
 have e2:((nowT ts i).k==2)=false:=by simp [G]
 have e3:((nowT ts i).k==3)=true:=by simp [G]
 have V:i<ts.length:=now_lt (by rw [G];decide);have N:=H.out.len
 have I:(i:Int)+1≤9223372036854775807:=by rw [tkRows_len] at N;omega
 clear N V;replace I:=zz I;clear G
 go_wp2_with (fail)
 generalize a:World.alloc w _=a0;have C:=sizeA a;replace d:=fA d a;have j:=nB a (w.heap.size);clear a;generalize a:World.alloc a0 _=a1;have D:=sizeA a;replace d:=fA d a;replace j:=bA j a;have e:=nB a (w.heap.size+1);clear a;generalize a:World.alloc a1 _=w1;have E:=sizeA a;replace d:=fA d a;replace j:=bA j a;replace e:=bA e a;have g:=nB a (w.heap.size+2);clear a
 have ab:w1.heap.size=w.heap.size+3:=by omega
 clear C D E;refine (nowR_any _ (refTok d.out H.out)).mono ?_;rintro _ x ⟨rfl,o⟩;replace j:=kB j o;replace e:=kB e o;replace g:=kB g o;replace d:=kF d o;have a9:=o.size;clear o;simp only [tkV];have r:=kc6 j;have A:=i012_0 w x;go_upto_region 15 with (fail);replace I:=I.out
 go_wp2_with (fail)
 clear r;generalize a:World.setCell x _ _=a2;have C:=sizeS1 a;replace d:=fN1 d a;replace j:=s6_1 j a;replace e:=bF1 e a;replace g:=bF1 g a;clear a;generalize a:World.alloc a2 _=a3;have D:=sizeA a;replace d:=fA d a;replace j:=bA j a;replace e:=bA e a;replace g:=bA g a;clear a;generalize a:World.alloc a3 _=w3;have E:=sizeA a;replace d:=fA d a;replace j:=bA j a;replace e:=bA e a;replace g:=bA g a;have q:=nB a (x.heap.size+1);clear a
 have ac:w3.heap.size=x.heap.size+2:=by omega
 clear C D E;clear A;refine (P ⟨i+1,none⟩ u z t _ U X (refTok d.out H.out) W).mono ?_;rintro _ O ⟨Q,Y,R,rfl,o,M⟩;replace j:=kB j o;replace e:=kB e o;replace g:=kB g o;replace q:=kB q o;replace d:=kF d o;have aa:=o.size;clear o;have m:=zz M;clear M;simp only [rdS,rdV];have r:=kc6 j;have F:=kc4 q;have A:=i012_01_0 w x O
 go_wp2_with (fail)
 clear r F;generalize a:World.setCell _ ⟨w.heap.size,5,none⟩ _=a4;have C:=sizeS6 a;replace d:=fN6 d a;replace j:=bS6 j a;replace e:=bF6 e a;replace g:=bF6 g a;replace q:=bF6 q a;replace m:=mS6 m a;clear a;generalize a:World.setCell a4 _ _=a5;have D:=sizeS1 a;replace d:=fN1 d a;replace j:=bF1 j a;replace e:=bF1 e a;replace g:=bF1 g a;replace q:=s4_3 q a;replace m:=mS1 m a;clear a;generalize a:World.alloc a5 _=L;have E:=sizeA a;replace d:=fA d a;replace j:=bA j a;replace e:=bA e a;replace g:=bA g a;replace q:=bA q a;replace m:=mA m a;clear a
 have ad:L.heap.size=O.heap.size+1:=by omega
 clear C D E;clear A;have r:=kc6 j;have Z:=kc6 e;have F:=kc4 q;have A:=i012_1_0 w x L;refine wp_region_held_drew (S:=fun w'=>Far (fun b=>b=(w.heap.size+1)∨b=(w.heap.size+2)) (L) w') (by kernel_rfl) (Far.of (below_drew _)) (fun a7=>?_);refine takeA 0 (v:=?_) rfl ?_ ?_;rotate_left
 · (intro w J;replace r:=Far.c6z r J;go_simp;try rfl)
 (try simp only [pu]);refine takeA 1 (v:=?_) rfl ?_ ?_;rotate_left
 · (intro w J;replace F:=Far.c4z F J;go_simp;try rfl)
 (try simp only [pu]);refine callA 2 rfl fun K B=>?_;go_simp;refine B.out _ _ ?_ (fun T=>?_);· exact (by refine Far.trans ?_ (Far.of (below_drew _));(iterate 6 (refine Far.setCell (p:=⟨(w.heap.size+1),_,none⟩) ?_ (.inl rfl) _));exact Far.refl _ _)
 clear B K;clear r Z F;generalize a:World.setCell _ ⟨(w.heap.size+1),5,none⟩ _=a6 at *;replace d:=fN6 d a;replace e:=bS6 e a;replace g:=bF6 g a;replace m:=mS6 m a;clear a;generalize a:(a6.drew)=w6 at *;replace d:=fD d a;replace e:=bD e a;replace g:=bD g a;replace m:=mD m a;clear a;clear A;have xc:=kc4 g;refine callA 3 rfl fun K B=>?_;go_simp;refine B.out _ _ ?_ (fun a8=>?_);· exact (by (iterate 4 (refine Far.setCell (p:=⟨(w.heap.size+2),_,none⟩) ?_ (.inr rfl) _));exact T)
 clear B K;refine wpAnyH_done (by kernel_rfl) ?_ _;clear xc;generalize a:World.setCell _ ⟨(w.heap.size+2),3,none⟩ _=w7;replace d:=fN4 d a;replace e:=bF4 e a;replace g:=bS4 g a;replace m:=mS4 m a;clear a
 go_wp2_with (fail)
 have z:=kc6 e;have y:=kc4 g;refine bodyPost_ret (v:=.tuple #[.agg #[.slice aL n cap,.int .i64 (t.i:Int),.int .i64 (u:Int),.bool (!t.ok),.int .i64 (lB t.b),.int .i64 (cB t.b)],.agg #[.int .i64 2,.string (nowT ts i).s,.int .i64 0,.slice Q Y R]]) (by clear d H j e g q m;simp [results,Tryz.results138,go_sem,z,y]) rfl ?_;exact ⟨_,_,_,rfl,refBelow d.out,memNw m.out (by omega)⟩
theorem typR_no {i m:Nat} (t:Bool) (w:World) (h:MemW w (.s 5 (tkRows ts)) (.slice aL n cap)) (p:(nowT ts i).k≠2) (q:(nowT ts i).k≠3) (x:isT ts i 6 wOpen=false):
  Calls Tryz.prog 138 #[rdV aL n cap (i:Int) (m:Int) false 0 0,.bool t] w (RTAns aL n cap noTm (failS ts ⟨i,none⟩) (m:Int) w):=by
 have H:=zz h;clear h;have b:Hid (FarB w.heap.size w.heap.size w w):=zz (FarB.refl _ _ _);simp only [rdV];go_enter Tryz.func138,Tryz.ntmps138
 have J:((nowT ts i).k==2)=false:=by simp [p]
 have K:((nowT ts i).k==3)=false:=by simp [q]
 clear p q
 go_wp2_with (fail)
 generalize a:World.alloc w _=F;have A:=sizeA a;replace b:=fA b a;have j:=nB a (w.heap.size);clear a;generalize a:World.alloc F _=G;have B:=sizeA a;replace b:=fA b a;replace j:=bA j a;have d:=nB a (w.heap.size+1);clear a;generalize a:World.alloc G _=E;have C:=sizeA a;replace b:=fA b a;replace j:=bA j a;replace d:=bA d a;have g:=nB a (w.heap.size+2);clear a
 have M:E.heap.size=w.heap.size+3:=by omega
 clear A B C;refine (nowR_any _ (refTok b.out H.out)).mono ?_;rintro _ r ⟨rfl,f⟩;replace j:=kB j f;replace d:=kB d f;replace g:=kB g f;replace b:=kF b f;have L:=f.size;clear f;simp only [tkV];have o:=kc6 j;have u:=i012_0 w r
 go_wp2_with (fail)
 clear o;generalize a:World.alloc r _=N;replace b:=fA b a;replace j:=bA j a;replace d:=bA d a;replace g:=bA g a;clear a;clear u;refine (isR_ok (s:=wOpen) _ (refTok b.out H.out)).mono ?_;rintro _ O ⟨rfl,f⟩;replace j:=kB j f;replace d:=kB d f;replace g:=kB g f;replace b:=kF b f;clear f;rw [x];have o:=kc6 j
 go_wp2_with (fail)
 clear o;refine (failR_ok _ (refTok b.out H.out)).mono ?_;rintro _ P ⟨rfl,f⟩;replace d:=kB d f;replace g:=kB g f;replace b:=kF b f;clear f;simp only [rdV];have D:=kc6 d;have I:=kc4 g
 go_wp2_with (fail)
 clear D I;generalize a:World.setCell _ ⟨(w.heap.size+1),5,none⟩ _=R;replace b:=fN6 b a;replace d:=bS6 d a;replace g:=bF6 g a;clear a;generalize a:World.setCell _ ⟨(w.heap.size+2),3,none⟩ _=Q;replace b:=fN4 b a;replace d:=bF4 d a;replace g:=bS4 g a;clear a
 go_wp2_with (fail)
 have z:=kc6 d;have y:=kc4 g;refine bodyPost_ret (v:=.tuple #[.agg #[.slice aL n cap,.int .i64 (i:Int),.int .i64 (m:Int),.bool true,.int .i64 (nowT ts i).l,.int .i64 (nowT ts i).c],.agg #[.int .i64 0,.string ⟨#[]⟩,.int .i64 0,.slice none 0 0]]) (by clear b H j d g;simp [results,Tryz.results138,go_sem,z,y]) rfl ?_;exact ⟨_,_,_,rfl,refBelow b.out,.e none 0 4 (by decide)⟩
theorem typR_40 {i u:Nat} (R:Bool) (w:World) (h:MemW w (.s 5 (tkRows ts)) (.slice aL n cap)) (M:(nowT ts i).k≠2) (N:(nowT ts i).k≠3) (W:isT ts i 6 wOpen=true) (F:u=40):
  Calls Tryz.prog 138 #[rdV aL n cap (i:Int) (u:Int) false 0 0,.bool R] w (RTAns aL n cap noTm (failS ts ⟨i,none⟩) (u:Int) w):=by
 have H:=zz h;clear h;have f:Hid (FarB w.heap.size w.heap.size w w):=zz (FarB.refl _ _ _);simp only [rdV];go_enter Tryz.func138,Tryz.ntmps138
 have e2:((nowT ts i).k==2)=false:=by simp [M]
 have e3:((nowT ts i).k==3)=false:=by simp [N]
 clear M N;replace F:=zz F
 go_wp2_with (fail)
 generalize a:World.alloc w _=a1;have B:=sizeA a;replace f:=fA f a;have o:=nB a (w.heap.size);clear a;generalize a:World.alloc a1 _=a2;have C:=sizeA a;replace f:=fA f a;replace o:=bA o a;have j:=nB a (w.heap.size+1);clear a;generalize a:World.alloc a2 _=w1;have X:=sizeA a;replace f:=fA f a;replace o:=bA o a;replace j:=bA j a;have m:=nB a (w.heap.size+2);clear a
 have ac:w1.heap.size=w.heap.size+3:=by omega
 clear B C X;refine (nowR_any _ (refTok f.out H.out)).mono ?_;rintro _ J ⟨rfl,g⟩;replace o:=kB o g;replace j:=kB j g;replace m:=kB m g;replace f:=kF f g;have a7:=g.size;clear g;simp only [tkV];have D:=kc6 o;have x:=i012_0 w J
 go_wp2_with (fail)
 clear D;generalize a:World.alloc J _=w3;have ad:=sizeA a;replace f:=fA f a;replace o:=bA o a;replace j:=bA j a;replace m:=bA m a;clear a;clear x;refine (isR_ok (s:=wOpen) _ (refTok f.out H.out)).mono ?_;rintro _ w4 ⟨rfl,g⟩;replace o:=kB o g;replace j:=kB j g;replace m:=kB m g;replace f:=kF f g;have a8:=g.size;clear g;rw [W];have D:=kc6 o
 go_wp2_with (fail)
 clear D;refine (downU40 _ (refTok f.out H.out) F.out).mono ?_;rintro _ w5 ⟨rfl,g⟩;replace o:=kB o g;replace j:=kB j g;replace m:=kB m g;replace f:=kF f g;have a9:=g.size;clear g;clear F;simp only [rdV]
 go_wp2_with (fail)
 refine (typR_badC (i:=i) (d:=(u:Int)) _ (refTok f.out H.out)).mono ?_;rintro _ t ⟨T,mz,U,rfl,g,rfl,O⟩;have Q:=zz O;clear O;replace o:=kB o g;replace j:=kB j g;replace m:=kB m g;replace f:=kF f g;have aa:=g.size;clear g;simp only [rdV]
 go_wp2_with (fail)
 generalize a:World.alloc t _=a3;have B:=sizeA a;replace f:=fA f a;replace o:=bA o a;replace j:=bA j a;replace m:=bA m a;have q:=nB a (t.heap.size);clear a;generalize a:World.alloc a3 _=w7;have C:=sizeA a;replace f:=fA f a;replace o:=bA o a;replace j:=bA j a;replace m:=bA m a;replace q:=bA q a;have r:=nB a (t.heap.size+1);clear a
 have ae:w7.heap.size=t.heap.size+2:=by omega
 clear B C;refine (takeR_bad _ (refTok f.out H.out)).mono ?_;rintro _ P ⟨rfl,g⟩;replace o:=kB o g;replace j:=kB j g;replace m:=kB m g;replace q:=kB q g;replace r:=kB r g;replace f:=kF f g;have ab:=g.size;clear g;simp only [rdV];have D:=kc6 o;have E:=kc6 q;have x:=i012_0_01_0 w J t P
 go_wp2_with (fail)
 clear D E;generalize a:World.setCell _ ⟨t.heap.size,5,none⟩ _=a4;have B:=sizeS6 a;replace f:=fN6 f a;replace j:=bF6 j a;replace m:=bF6 m a;replace q:=bS6 q a;replace r:=bF6 r a;clear a;generalize a:World.setCell a4 _ _=L;have C:=sizeS1 a;replace f:=fN1 f a;replace j:=bF1 j a;replace m:=bF1 m a;replace q:=s6_2 q a;replace r:=bF1 r a;clear a
 have af:L.heap.size=P.heap.size:=by omega
 clear B C;clear x;clear o;have Y:=kc6 j;have E:=kc6 q;have I:=kc4 r;have x:=i12_01_0 w t L;refine wp_region_held_drew (S:=fun Z=>Far (fun b=>b=(w.heap.size+1)∨b=(w.heap.size+2)) (L) Z) (by kernel_rfl) (Far.of (below_drew _)) (fun a5=>?_);refine takeA 0 (v:=?_) rfl ?_ ?_;rotate_left
 · (intro w G;replace E:=Far.c6z E G;go_simp;try rfl)
 (try simp only [pu]);refine takeA 1 (v:=?_) rfl ?_ ?_;rotate_left
 · (intro w G;replace I:=Far.c4z I G;go_simp;try rfl)
 (try simp only [pu]);refine callA 2 rfl fun K A=>?_;go_simp;refine A.out _ _ ?_ (fun V=>?_);· exact (by refine Far.trans ?_ (Far.of (below_drew _));(iterate 6 (refine Far.setCell (p:=⟨(w.heap.size+1),_,none⟩) ?_ (.inl rfl) _));exact Far.refl _ _)
 clear A K;clear Y E I;generalize a:World.setCell _ ⟨(w.heap.size+1),5,none⟩ _=a0 at *;replace f:=fN6 f a;replace j:=bS6 j a;replace m:=bF6 m a;clear a;generalize a:(a0.drew)=ag at *;replace f:=fD f a;replace j:=bD j a;replace m:=bD m a;clear a;clear x;have xc:=kc4 m;refine callA 3 rfl fun K A=>?_;go_simp;refine A.out _ _ ?_ (fun a6=>?_);· exact (by (iterate 4 (refine Far.setCell (p:=⟨(w.heap.size+2),_,none⟩) ?_ (.inr rfl) _));exact V)
 clear A K;refine wpAnyH_done (by kernel_rfl) ?_ _;clear xc;generalize a:World.setCell _ ⟨(w.heap.size+2),3,none⟩ _=ah;replace f:=fN4 f a;replace j:=bF4 j a;replace m:=bS4 m a;clear a
 go_wp2_with (fail)
 have z:=kc6 j;have y:=kc4 m;refine bodyPost_ret (v:=.tuple #[.agg #[.slice aL n cap,.int .i64 (i:Int),.int .i64 (u:Int),.bool true,.int .i64 (nowT ts i).l,.int .i64 (nowT ts i).c],.agg #[.int .i64 0,.string ⟨#[]⟩,.int .i64 0,.slice T 0 U]]) (by clear f H j m q r;simp [results,Tryz.results138,go_sem,z,y]) rfl ?_
 exact ⟨_,_,_,rfl,refBelow f.out,.e _ _ 4 (by have :=Q.out;unfold maxLen at this;omega)⟩
theorem typR_par {f i u:Nat} {x:Tm} {sz:MS} (U:Bool) (w:World) (h:MemW w (.s 5 (tkRows ts)) (.slice aL n cap)) (N:(nowT ts i).k≠2) (O:(nowT ts i).k≠3) (Q:isT ts i 6 wOpen=true) (hd:u≤40) (a6:u≠40) (hn:n≤1048576) (hr:typeM ts f .typ (u+1) ⟨i+1,none⟩=some (x,sz)) (T:ReadsRT ts aL n cap f):
  Calls Tryz.prog 138 #[rdV aL n cap (i:Int) (u:Int) false 0 0,.bool U] w (RTAns aL n cap x (takeS ts sz 6 wClose) (u:Int) w):=by
 have H:=zz h;clear h;have d:Hid (FarB w.heap.size w.heap.size w w):=zz (FarB.refl _ _ _);simp only [rdV];go_enter Tryz.func138,Tryz.ntmps138
 have e2:((nowT ts i).k==2)=false:=by simp [N]
 have e3:((nowT ts i).k==3)=false:=by simp [O]
 clear N O
 go_wp2_with (fail)
 generalize a:World.alloc w _=a2;have C:=sizeA a;replace d:=fA d a;have m:=nB a (w.heap.size);clear a;generalize a:World.alloc a2 _=a3;have D:=sizeA a;replace d:=fA d a;replace m:=bA m a;have g:=nB a (w.heap.size+1);clear a;generalize a:World.alloc a3 _=w1;have a0:=sizeA a;replace d:=fA d a;replace m:=bA m a;replace g:=bA g a;have j:=nB a (w.heap.size+2);clear a
 have ae:w1.heap.size=w.heap.size+3:=by omega
 clear C D a0;refine (nowR_any _ (refTok d.out H.out)).mono ?_;rintro _ G ⟨rfl,e⟩;replace m:=kB m e;replace g:=kB g e;replace j:=kB j e;replace d:=kF d e;have a9:=e.size;clear e;simp only [tkV];have E:=kc6 m;have A:=i012_0 w G
 go_wp2_with (fail)
 clear E;generalize a:World.alloc G _=w3;have af:=sizeA a;replace d:=fA d a;replace m:=bA m a;replace g:=bA g a;replace j:=bA j a;clear a;clear A;refine (isR_ok (s:=wOpen) _ (refTok d.out H.out)).mono ?_;rintro _ w4 ⟨rfl,e⟩;replace m:=kB m e;replace g:=kB g e;replace j:=kB j e;replace d:=kF d e;have aa:=e.size;clear e;rw [Q];have E:=kc6 m;have A:=i012_0_0 w G w4
 go_wp2_with (fail)
 have Z:i<ts.length:=isT_lt Q (by decide)
 have Y:u+1≤40:=by omega
 clear E;refine (downR_ok _ (refTok d.out H.out) (by omega) Z).mono ?_;rintro _ w5 ⟨rfl,e⟩;replace m:=kB m e;replace g:=kB g e;replace j:=kB j e;replace d:=kF d e;have ab:=e.size;clear e;simp only [rdV];clear A
 go_wp2_with (fail)
 refine (T false ⟨i+1,none⟩ (u+1) x sz _ Y (fun h=>by cases h) hr (refTok d.out H.out) hn).mono ?_;rintro _ r ⟨V,mz,W,rfl,e,P⟩;replace m:=kB m e;replace g:=kB g e;replace j:=kB j e;replace d:=kF d e;have ac:=e.size;clear e;have M:=zz P;clear P;simp only [rdS,rdV,tmV];have o:Hid (Mem (NwS (Bt w5.heap.size r.heap.size) r.heap.size) r _ _):=zz (memS_bt M.out (by omega));clear M
 go_wp2_with (fail)
 generalize a:World.alloc r _=a4;have C:=sizeA a;replace d:=fA d a;replace m:=bA m a;replace g:=bA g a;replace j:=bA j a;replace o:=yA o a;have q:=nB a (r.heap.size);clear a;generalize a:World.alloc a4 _=w7;have D:=sizeA a;replace d:=fA d a;replace m:=bA m a;replace g:=bA g a;replace j:=bA j a;replace q:=bA q a;replace o:=yA o a;have t:=nB a (r.heap.size+1);clear a
 have ag:w7.heap.size=r.heap.size+2:=by omega
 clear C D;refine (takeU sz _ 6 wClose _ (refTok d.out H.out) (by decide)).mono ?_;rintro _ R ⟨rfl,e⟩;replace m:=kB m e;replace g:=kB g e;replace j:=kB j e;replace q:=kB q e;replace t:=kB t e;replace o:=kY o e;replace d:=kF d e;have ad:=e.size;clear e;simp only [rdS,rdV];have E:=kc6 m;have F:=kc6 q;have A:=i012_0_01_0 w G r R
 go_wp2_with (fail)
 clear E F;generalize a:World.setCell _ ⟨r.heap.size,5,none⟩ _=a5;have C:=sizeS6 a;replace d:=fN6 d a;replace g:=bF6 g a;replace j:=bF6 j a;replace q:=bS6 q a;replace t:=bF6 t a;replace o:=yS6 o a;clear a;generalize a:World.setCell a5 _ _=L;have D:=sizeS1 a;replace d:=fN1 d a;replace g:=bF1 g a;replace j:=bF1 j a;replace q:=s6_2 q a;replace t:=bF1 t a;replace o:=yS1 o a;clear a
 have ah:L.heap.size=R.heap.size:=by omega
 clear C D;clear A;clear m;have sc:=kc6 g;have F:=kc6 q;have J:=kc4 t;have A:=i12_01_0 w r L;refine wp_region_held_drew (S:=fun w'=>Far (fun b=>b=(w.heap.size+1)∨b=(w.heap.size+2)) (L) w') (by kernel_rfl) (Far.of (below_drew _)) (fun a7=>?_);refine takeA 0 (v:=?_) rfl ?_ ?_;rotate_left
 · (intro w I;replace F:=Far.c6z F I;go_simp;try rfl)
 (try simp only [pu]);refine takeA 1 (v:=?_) rfl ?_ ?_;rotate_left
 · (intro w I;replace J:=Far.c4z J I;go_simp;try rfl)
 (try simp only [pu]);refine callA 2 rfl fun K B=>?_;go_simp;refine B.out _ _ ?_ (fun X=>?_);· exact (by refine Far.trans ?_ (Far.of (below_drew _));(iterate 6 (refine Far.setCell (p:=⟨(w.heap.size+1),_,none⟩) ?_ (.inl rfl) _));exact Far.refl _ _)
 clear B K;clear sc F J;generalize a:World.setCell _ ⟨(w.heap.size+1),5,none⟩ _=a1 at *;replace d:=fN6 d a;replace g:=bS6 g a;replace j:=bF6 j a;replace o:=yS6 o a;clear a;generalize a:(a1.drew)=ai at *;replace d:=fD d a;replace g:=bD g a;replace j:=bD j a;replace o:=yD o a;clear a;clear A;have xc:=kc4 j;refine callA 3 rfl fun K B=>?_;go_simp;refine B.out _ _ ?_ (fun a8=>?_);· exact (by (iterate 4 (refine Far.setCell (p:=⟨(w.heap.size+2),_,none⟩) ?_ (.inr rfl) _));exact X)
 clear B K;refine wpAnyH_done (by kernel_rfl) ?_ _;clear xc;generalize a:World.setCell _ ⟨(w.heap.size+2),3,none⟩ _=aj;replace d:=fN4 d a;replace g:=bF4 g a;replace j:=bS4 j a;replace o:=yS4 o a;clear a
 go_wp2_with (fail)
 have z:=kc6 g;have y:=kc4 j;refine bodyPost_ret (v:=.tuple #[.agg #[.slice aL n cap,.int .i64 ((takeS ts sz 6 wClose).i:Int),.int .i64 (u:Int),.bool (!(takeS ts sz 6 wClose).ok),.int .i64 (lB (takeS ts sz 6 wClose).b),.int .i64 (cB (takeS ts sz 6 wClose).b)],.agg #[.int .i64 x.kind,.string x.name,.int .i64 x.n,.slice V mz W]]) (by clear d H g j q t o;simp [results,Tryz.results138,go_sem,z,y]) rfl ?_;exact ⟨_,_,_,rfl,refBelow d.out,bt_nw (base:=w.heap.size) o.out (by omega)⟩
theorem typR_reads {f:Nat} (v:∀ g,g≤f→ReadsRT ts aL n cap g) (u:ReadsRL ts aL n cap f):ReadsRT ts aL n cap (f+1):=by
 intro h s B x C w r A o e t;obtain ⟨i,b⟩:=s
 cases b with
 | some p=>
  cases h with
  | true=>cases A rfl
  | false=>
   rw [if_neg (by decide),typeM,if_pos (show (⟨i,some p⟩:MS).ok=false from rfl)] at o;cases o;exact typR_bad false w e
 | none=>
  rcases typ_parts o with ⟨d,rfl,rfl⟩ | ⟨a,rfl,rfl,rfl⟩ | ⟨a,rfl,z,q,rfl⟩ | ⟨d,a,j,rfl,rfl⟩ | ⟨d,a,j,m,rfl,rfl⟩ | ⟨d,a,j,m,g,sz,y,q,rfl⟩
  · exact typR_low h w e d
  · exact typR_upA w e a
  · exact typR_upT w e a r t q u
  · exact typR_no h w e d a j
  · exact typR_40 h w e d a j m
  · exact typR_par h w e d a j r m t q (v g y)
theorem typesR_reads (f:Nat) (HA:∀ g,g<f→ReadsRT ts aL n cap g):ReadsRL ts aL n cap f:=by
 intro s0 M x s' w hd q G hn;have H:=zz G;clear G;have e:Hid (FarB w.heap.size w.heap.size w w):=zz (FarB.refl _ _ _);simp only [rdV,rdS];go_enter Tryz.func103,Tryz.ntmps103
 go_wp2_with (fail)
 generalize a:World.alloc w _=ad;have U:=sizeA a;replace e:=fA e a;have d:=nB a (w.heap.size);clear a;generalize a:World.alloc ad _=w1;have V:=sizeA a;replace e:=fA e a;replace d:=bA d a;have j:=nB a (w.heap.size+1);clear a
 have ak:w1.heap.size=w.heap.size+2:=by omega
 clear U V
 go_loopw [4] (fun v wr=>∃ (l:List Tm) (s:MS) (g:Nat),typeM ts g (.atoms l) M s=some (x,s')∧g≤f∧Hid (FarB w.heap.size w.heap.size w wr)∧Hid (Bo wr w.heap.size 67 #[.slice aL n cap,.int .i64 (s.i:Int),.int .i64 (M:Int),.bool (!s.ok),.int .i64 (lB s.b),.int .i64 (cB s.b)])∧Hid (Bo wr (w.heap.size+1) 67 #[.slice none 0 0,.int .i64 0,.int .i64 0,.bool false,.int .i64 0,.int .i64 0])∧Hid (OwnD 0 (w.heap.size+2) 83 4 wr v (Tm.rows l))∧(l.length:Int)+leftM ts s≤ts.length∧w.heap.size+2≤wr.heap.size) (fun v _=>ts.length+1 - lenV v)
 case atStart=>exact ⟨[],s0,f,q,Nat.le_refl _,e,d,j,zz (OwnD.nil _ _ _ _ _),(by have :=leftM_le (ts:=ts) s0;simp only [List.length_nil];omega),by omega⟩
 case round=>
  clear e d j q;obtain ⟨l,s,g,q,hg,e,d,j,m,C,ar⟩:=hrel;obtain ⟨Y,m1,Z,rfl,a8,ah,aa⟩:=form2T m.out;have F:=H.out.len;rw [tkRows_len] at F;have L:=zz a8;clear a8 aa F;obtain ⟨i,b⟩:=s
  cases b with
  | some p=>
   replace d:Hid (Bo wr w.heap.size 67 #[.slice aL n cap,.int .i64 (i:Int),.int .i64 (M:Int),.bool true,.int .i64 p.1,.int .i64 p.2]):=d
   cases g with
   | zero=>rw [typeM] at q;cases q
   | succ g=>
    have y:startsS ts ⟨i,some p⟩=false:=by rfl
    rw [typeM] at q;simp only [y,Bool.false_eq_true,if_false] at q;cases q;clear y;have t:=kc6 d;have sc:=kc6 j
    go_wp2_with (fail)
    clear t sc;generalize a:World.setCell _ ⟨(w.heap.size+1),5,none⟩ _=w2;replace e:=fN6 e a;replace j:=bS6 j a;replace m:=oS6 m a;clear a;have z:=kc6 j;refine bodyPost_ret (v:=.tuple #[.agg #[.slice aL n cap,.int .i64 (i:Int),.int .i64 (M:Int),.bool true,.int .i64 p.1,.int .i64 p.2],.slice Y m1 Z]) (by clear e H d j m;simp [results,Tryz.results103,go_sem,z]) rfl ?_;exact ⟨_,_,_,rfl,refBelow e.out,memNw m.out.mem (by omega)⟩
  | none=>
   replace d:Hid (Bo wr w.heap.size 67 #[.slice aL n cap,.int .i64 (i:Int),.int .i64 (M:Int),.bool false,.int .i64 0,.int .i64 0]):=d;have a5:(⟨i,none⟩:MS).ok=true:=rfl;have t:=kc6 d
   go_wp2_with (fail)
   clear t;refine (nowR_any _ (refTok e.out H.out)).mono ?_;rintro _ w2 ⟨rfl,o⟩;replace d:=kB d o;replace j:=kB j o;replace m:=kO m o;replace e:=kF e o;have ai:=o.size;clear o;simp only [tkV];have t:=kc6 d
   by_cases h2:(nowT ts i).k=2
   ·
    cases g with
    | zero=>rw [typeM] at q;cases q
    | succ g=>
     have y:startsS ts ⟨i,none⟩=true:=by unfold startsS;rw [a5];simp [h2]
     rw [typeM] at q;simp only [y,if_true] at q;obtain ⟨p,J,a6⟩:=Option.bind_eq_some_iff.1 q;obtain ⟨z,sz⟩:=p;have O:=zz y;clear y q;clear t;have t:=kc6 d
     go_wp2_with (fail)
     have X:=m;clear t;refine (HA g (by omega) true ⟨i,none⟩ M z sz _ hd (fun _=>rfl) J (refTok e.out H.out) hn).mono ?_;rintro _ S ⟨az,mz,cz,rfl,o,G⟩;replace d:=kB d o;replace j:=kB j o;replace m:=kO m o;replace e:=kF e o;have ab:=o.size;clear o;have r:=zz G;clear G;simp only [rdS,rdV,tmV];go_upto_region 4 with (fail);generalize a:World.alloc S _=ae;have U:=sizeA a;replace e:=fA e a;replace d:=bA d a;replace j:=bA j a;replace r:=mA r a;replace m:=oA m a;have E:=nB a (S.heap.size);clear a;generalize a:World.alloc ae _=K;have V:=sizeA a;replace e:=fA e a;replace d:=bA d a;replace j:=bA j a;replace E:=bA E a;replace r:=mA r a;replace m:=oA m a;have D:=nB a (S.heap.size+1);clear a
     have al:K.heap.size=S.heap.size+2:=by omega
     clear U V;have t:=kc6 d;have qc:=kc6 E;have P:=i01_01_0 w S K;go_upto_region 5 with (fail);clear t qc;generalize a:World.setCell _ ⟨w.heap.size,5,none⟩ _=B;have ao:=sizeS6 a;replace e:=fN6 e a;replace d:=bS6 d a;replace j:=bF6 j a;replace D:=bF6 D a;replace r:=mS6 r a;replace m:=oS6 m a;clear a;clear P;have oc:=kc4 D;have P:=i01_01_0 w S B;have hZ:=i01_012 w S;have F:=H.out.len;rw [tkRows_len] at F
     have a7:l.length+1≤1048576:=by
      have u:=leftM_step (ts:=ts) (typeM_step _ _ _ _ _ _ J);have a3:i<ts.length:=starts_ltM O.out;rw [leftM_ok (s:=⟨i,none⟩) rfl] at C u;simp only [wMt] at u;dsimp only at C
      omega
     clear F
     go_wp2_with (first | (at_builtin;refine wpList_append_D rfl _ _ rfl Tryz.underlying73 info_tyM rfl (by decide) rfl rfl (m.out.alloc _) (row_appG X.out (by omega) (by omega) (tm_mem r.out) rfl (by omega)) (by have :=L.out;simp only [rows_len4,List.length_cons,List.length_nil];omega) (by have :=L.out;simp only [rows_len4,List.length_cons,List.length_nil];omega) (by rw [World.size_alloc];omega) ?_;intro v9 T R Q;have W:=zz R;clear R;have A:=zz Q;clear Q))
     have I:∀ k,(Value.slice Y m1 Z).ownBlock=some k→w.heap.size+2≤k:=fun k hk=>(m.out.lt k hk).1
     clear oc;have N:Hid (OwnD 0 (w.heap.size+2) 83 4 T v9 (Tm.rows (l++[z]))):=zz (by rw [rows_app4];exact W.out);obtain ⟨a2,m2,c2,rfl,a4,_,_⟩:=form2T N.out;rw [List.length_append,List.length_cons,List.length_nil] at a4
     have a9:B.heap.size+1≤T.heap.size:=by have h:=A.out.size;rw [World.size_alloc] at h;exact h
     have a0:((l++[z]).length:Int)+leftM ts sz≤ts.length:=by
      have u:=leftM_step (ts:=ts) (typeM_step _ _ _ _ _ _ J);have a3:i<ts.length:=starts_ltM O.out;rw [leftM_ok (s:=⟨i,none⟩) rfl] at C u;simp only [wMt] at u;dsimp only at C;rw [List.length_append,List.length_cons,List.length_nil]
      omega
     replace e:=gFx e A.out I;replace d:=gOx d A.out I;replace j:=gOx j A.out I
     go_roundw
     case rel=>exact ⟨l++[z],sz,g,a6,by omega,e,d,j,N,a0,by omega⟩
     case measure=>have :=L.out;simp only [lenV];omega
   have e2:((nowT ts i).k==2)=false:=by simp [h2]
   go_wp2_with (fail)
   clear t;refine (nowR_any _ (refTok e.out H.out)).mono ?_;rintro _ S ⟨rfl,o⟩;replace d:=kB d o;replace j:=kB j o;replace m:=kO m o;replace e:=kF e o;have ab:=o.size;clear o;simp only [tkV];have t:=kc6 d
   by_cases h3:(nowT ts i).k=3
   ·
    cases g with
    | zero=>rw [typeM] at q;cases q
    | succ g=>
     have y:startsS ts ⟨i,none⟩=true:=by unfold startsS;rw [a5];simp [h3]
     rw [typeM] at q;simp only [y,if_true] at q;obtain ⟨p,J,a6⟩:=Option.bind_eq_some_iff.1 q;obtain ⟨z,sz⟩:=p;have O:=zz y;clear y q;clear t;have t:=kc6 d
     go_wp2_with (fail)
     have X:=m;clear t;refine (HA g (by omega) true ⟨i,none⟩ M z sz _ hd (fun _=>rfl) J (refTok e.out H.out) hn).mono ?_;rintro _ K ⟨az,mz,cz,rfl,o,G⟩;replace d:=kB d o;replace j:=kB j o;replace m:=kO m o;replace e:=kF e o;have ac:=o.size;clear o;have r:=zz G;clear G;simp only [rdS,rdV,tmV];go_upto_region 4 with (fail);generalize a:World.alloc K _=af;have U:=sizeA a;replace e:=fA e a;replace d:=bA d a;replace j:=bA j a;replace r:=mA r a;replace m:=oA m a;have E:=nB a (K.heap.size);clear a;generalize a:World.alloc af _=B;have V:=sizeA a;replace e:=fA e a;replace d:=bA d a;replace j:=bA j a;replace E:=bA E a;replace r:=mA r a;replace m:=oA m a;have D:=nB a (K.heap.size+1);clear a
     have am:B.heap.size=K.heap.size+2:=by omega
     clear U V;have t:=kc6 d;have qc:=kc6 E;have P:=i01_01_0 w K B;go_upto_region 5 with (fail);clear t qc;generalize a:World.setCell _ ⟨w.heap.size,5,none⟩ _=w6;have ap:=sizeS6 a;replace e:=fN6 e a;replace d:=bS6 d a;replace j:=bF6 j a;replace D:=bF6 D a;replace r:=mS6 r a;replace m:=oS6 m a;clear a;clear P;have oc:=kc4 D;have P:=i01_01_0 w K w6;have hZ:=i01_012 w K;have F:=H.out.len;rw [tkRows_len] at F
     have a7:l.length+1≤1048576:=by
      have u:=leftM_step (ts:=ts) (typeM_step _ _ _ _ _ _ J);have a3:i<ts.length:=starts_ltM O.out;rw [leftM_ok (s:=⟨i,none⟩) rfl] at C u;simp only [wMt] at u;dsimp only at C
      omega
     clear F
     go_wp2_with (first | (at_builtin;refine wpList_append_D rfl _ _ rfl Tryz.underlying73 info_tyM rfl (by decide) rfl rfl (m.out.alloc _) (row_appG X.out (by omega) (by omega) (tm_mem r.out) rfl (by omega)) (by have :=L.out;simp only [rows_len4,List.length_cons,List.length_nil];omega) (by have :=L.out;simp only [rows_len4,List.length_cons,List.length_nil];omega) (by rw [World.size_alloc];omega) ?_;intro v9 T R Q;have W:=zz R;clear R;have A:=zz Q;clear Q))
     have I:∀ k,(Value.slice Y m1 Z).ownBlock=some k→w.heap.size+2≤k:=fun k hk=>(m.out.lt k hk).1
     clear oc;have N:Hid (OwnD 0 (w.heap.size+2) 83 4 T v9 (Tm.rows (l++[z]))):=zz (by rw [rows_app4];exact W.out);obtain ⟨a2,m2,c2,rfl,a4,_,_⟩:=form2T N.out;rw [List.length_append,List.length_cons,List.length_nil] at a4
     have a9:w6.heap.size+1≤T.heap.size:=by have h:=A.out.size;rw [World.size_alloc] at h;exact h
     have a0:((l++[z]).length:Int)+leftM ts sz≤ts.length:=by
      have u:=leftM_step (ts:=ts) (typeM_step _ _ _ _ _ _ J);have a3:i<ts.length:=starts_ltM O.out;rw [leftM_ok (s:=⟨i,none⟩) rfl] at C u;simp only [wMt] at u;dsimp only at C;rw [List.length_append,List.length_cons,List.length_nil]
      omega
     replace e:=gFx e A.out I;replace d:=gOx d A.out I;replace j:=gOx j A.out I
     go_roundw
     case rel=>exact ⟨l++[z],sz,g,a6,by omega,e,d,j,N,a0,by omega⟩
     case measure=>have :=L.out;simp only [lenV];omega
   have e3:((nowT ts i).k==3)=false:=by simp [h3]
   go_wp2_with (fail)
   clear t;refine (isR_ok (s:=wOpen) _ (refTok e.out H.out)).mono ?_;rintro _ K ⟨rfl,o⟩;replace d:=kB d o;replace j:=kB j o;replace m:=kO m o;replace e:=kF e o;have ac:=o.size;clear o
   cases his:isT ts i 6 wOpen with
   | true=>
    cases g with
    | zero=>rw [typeM] at q;cases q
    | succ g=>
     have y:startsS ts ⟨i,none⟩=true:=by unfold startsS;rw [a5];unfold isS;rw [a5,his];simp
     rw [typeM] at q;simp only [y,if_true] at q;obtain ⟨p,J,a6⟩:=Option.bind_eq_some_iff.1 q;obtain ⟨z,sz⟩:=p;have O:=zz y;clear y q;have t:=kc6 d
     go_wp2_with (fail)
     have X:=m;clear t;refine (HA g (by omega) true ⟨i,none⟩ M z sz _ hd (fun _=>rfl) J (refTok e.out H.out) hn).mono ?_;rintro _ B ⟨az,mz,cz,rfl,o,G⟩;replace d:=kB d o;replace j:=kB j o;replace m:=kO m o;replace e:=kF e o;have aj:=o.size;clear o;have r:=zz G;clear G;simp only [rdS,rdV,tmV];go_upto_region 4 with (fail);generalize a:World.alloc B _=ag;have U:=sizeA a;replace e:=fA e a;replace d:=bA d a;replace j:=bA j a;replace r:=mA r a;replace m:=oA m a;have E:=nB a (B.heap.size);clear a;generalize a:World.alloc ag _=w6;have V:=sizeA a;replace e:=fA e a;replace d:=bA d a;replace j:=bA j a;replace E:=bA E a;replace r:=mA r a;replace m:=oA m a;have D:=nB a (B.heap.size+1);clear a
     have an:w6.heap.size=B.heap.size+2:=by omega
     clear U V;have t:=kc6 d;have qc:=kc6 E;have P:=i01_01_0 w B w6;go_upto_region 5 with (fail);clear t qc;generalize a:World.setCell _ ⟨w.heap.size,5,none⟩ _=w7;have aq:=sizeS6 a;replace e:=fN6 e a;replace d:=bS6 d a;replace j:=bF6 j a;replace D:=bF6 D a;replace r:=mS6 r a;replace m:=oS6 m a;clear a;clear P;have oc:=kc4 D;have P:=i01_01_0 w B w7;have hZ:=i01_012 w B;have F:=H.out.len;rw [tkRows_len] at F
     have a7:l.length+1≤1048576:=by
      have u:=leftM_step (ts:=ts) (typeM_step _ _ _ _ _ _ J);have a3:i<ts.length:=starts_ltM O.out;rw [leftM_ok (s:=⟨i,none⟩) rfl] at C u;simp only [wMt] at u;dsimp only at C
      omega
     clear F
     go_wp2_with (first | (at_builtin;refine wpList_append_D rfl _ _ rfl Tryz.underlying73 info_tyM rfl (by decide) rfl rfl (m.out.alloc _) (row_appG X.out (by omega) (by omega) (tm_mem r.out) rfl (by omega)) (by have :=L.out;simp only [rows_len4,List.length_cons,List.length_nil];omega) (by have :=L.out;simp only [rows_len4,List.length_cons,List.length_nil];omega) (by rw [World.size_alloc];omega) ?_;intro v9 T R Q;have W:=zz R;clear R;have A:=zz Q;clear Q))
     have I:∀ k,(Value.slice Y m1 Z).ownBlock=some k→w.heap.size+2≤k:=fun k hk=>(m.out.lt k hk).1
     clear oc;have N:Hid (OwnD 0 (w.heap.size+2) 83 4 T v9 (Tm.rows (l++[z]))):=zz (by rw [rows_app4];exact W.out);obtain ⟨a2,m2,c2,rfl,a4,_,_⟩:=form2T N.out;rw [List.length_append,List.length_cons,List.length_nil] at a4
     have a9:w7.heap.size+1≤T.heap.size:=by have h:=A.out.size;rw [World.size_alloc] at h;exact h
     have a0:((l++[z]).length:Int)+leftM ts sz≤ts.length:=by
      have u:=leftM_step (ts:=ts) (typeM_step _ _ _ _ _ _ J);have a3:i<ts.length:=starts_ltM O.out;rw [leftM_ok (s:=⟨i,none⟩) rfl] at C u;simp only [wMt] at u;dsimp only at C;rw [List.length_append,List.length_cons,List.length_nil]
      omega
     replace e:=gFx e A.out I;replace d:=gOx d A.out I;replace j:=gOx j A.out I
     go_roundw
     case rel=>exact ⟨l++[z],sz,g,a6,by omega,e,d,j,N,a0,by omega⟩
     case measure=>have :=L.out;simp only [lenV];omega
   | false=>
    cases g with
    | zero=>rw [typeM] at q;cases q
    | succ g=>
     have y:startsS ts ⟨i,none⟩=false:=by unfold startsS;rw [a5];unfold isS;rw [his];simp [h2,h3]
     rw [typeM] at q;simp only [y,Bool.false_eq_true,if_false] at q;cases q;clear y;have t:=kc6 d;have sc:=kc6 j
     go_wp2_with (fail)
     clear t sc;generalize a:World.setCell _ ⟨(w.heap.size+1),5,none⟩ _=B;replace e:=fN6 e a;replace j:=bS6 j a;replace m:=oS6 m a;clear a;have z:=kc6 j;refine bodyPost_ret (v:=.tuple #[.agg #[.slice aL n cap,.int .i64 (i:Int),.int .i64 (M:Int),.bool false,.int .i64 0,.int .i64 0],.slice Y m1 Z]) (by clear e H d j m;simp [results,Tryz.results103,go_sem,z]) rfl ?_;exact ⟨_,_,_,rfl,refBelow e.out,memNw m.out.mem (by omega)⟩
end
theorem allRT (ts:List Tk) (aL:Option Addr) (n cap:Nat):∀ F g,g≤F→ReadsRT ts aL n cap g∧ReadsRL ts aL n cap g
  | 0, g, h => by
    obtain rfl:g=0:=by omega
    exact ⟨fun a s deep x s' w _ _ hr=>(by cases a <;> (simp only [typeM] at hr;cases hr)),fun s deep x s' w _ hr=>(by rw [typeM] at hr;cases hr)⟩
  | F + 1, g, h => by
    by_cases e:g=F+1
    · subst e
      have ih:=allRT ts aL n cap F;exact ⟨typR_reads (fun g hg=>(ih g hg).1) (ih F (Nat.le_refl _)).2,typesR_reads (F+1) fun g hg=>(ih g (by omega)).1⟩
    · exact allRT ts aL n cap F g (by omega)
end
section
open Go.RowKit
structure RelS (st s:MS) (d:Int):Prop where
  b:s.b=st.b
  eq:st.ok=true→s=st∧d=0
theorem RelS.ok {a s:MS} {d:Int} (h:RelS a s d):s.ok=a.ok:=by unfold MS.ok;rw [h.b]
theorem RelS.refl (s:MS):RelS s s 0:=⟨rfl,fun _=>⟨rfl,rfl⟩⟩
section
variable {ts:List Tk}
def nameR (ts:List Tk) (s:MS) (k:Int):ByteArray × MS:=if s.ok=true∧(nowT ts s.i).k=k then ((nowT ts s.i).s,s.next) else (⟨#[]⟩,failS ts s)
theorem isS_bad {s:MS} (h:s.ok=false) (k:Int) (x:ByteArray):isS ts s k x=false:=by unfold isS;rw [h];rfl
theorem takeS_bad {s:MS} (h:s.ok=false) (k:Int) (x:ByteArray):takeS ts s k x=s:=by unfold takeS;rw [isS_bad h,fail_no h];rfl
theorem nameR_fst {st s:MS} {d k:Int} (h:RelS st s d):RelS (nameS ts st k).2 (nameR ts s k).2 d∧((nameS ts st k).2.ok=true→(nameR ts s k).1=(nameS ts st k).1):=by
  cases ho:st.ok with
  | true =>
    obtain ⟨rfl,rfl⟩:=h.eq ho;unfold nameS nameR
    by_cases hk:(nowT ts s.i).k=k
    · rw [if_pos hk,if_pos ⟨ho,hk⟩];exact ⟨.refl _,fun _=>rfl⟩
    · rw [if_neg hk,if_neg (fun h=>hk h.2)];exact ⟨.refl _,fun _=>rfl⟩
  | false =>
    have hs:s.ok=false:=h.ok.trans ho
    have e:(nameR ts s k).2=s:=by unfold nameR;rw [if_neg (by rw [hs];simp)];exact fail_no hs
    have e2:(nameS ts st k).2.b=st.b:=(step_name (ts:=ts) (k:=k) st).stay ho
    have e3:(nameS ts st k).2.ok=false:=by unfold MS.ok at *; rw [e2];exact ho
    exact ⟨⟨by rw [e,e2];exact h.b,fun h2=>by rw [e3] at h2;cases h2⟩,fun h2=>by rw [e3] at h2;cases h2⟩
theorem RelS.take {a s:MS} {d:Int} (h:RelS a s d) (k:Int) (x:ByteArray):RelS (takeS ts a k x) (takeS ts s k x) d:=by
  cases ho:a.ok with
  | true=>obtain ⟨rfl,rfl⟩:=h.eq ho;exact .refl _
  | false=>rw [takeS_bad ho,takeS_bad (h.ok.trans ho)];exact h
theorem RelS.is {a s:MS} {d:Int} (h:RelS a s d) (k:Int) (x:ByteArray):isS ts s k x=isS ts a k x:=by
  cases ho:a.ok with
  | true=>obtain ⟨rfl,rfl⟩:=h.eq ho;rfl
  | false=>rw [isS_bad ho,isS_bad (h.ok.trans ho)]
end
section
variable {ts:List Tk} {aL:Option Addr} {n cap:Nat}
theorem nameU (s:MS) (d k:Int) (w:World) (h:MemW w (.s 5 (tkRows ts)) (.slice aL n cap)) (hk1:k≠ -1):Calls Tryz.prog 63 #[rdS aL n cap s d,.int .i64 k] w fun e w'=>e=.returned (.tuple #[rdS aL n cap (nameR ts s k).2 d,.string (nameR ts s k).1])∧Below w.heap.size w w':=by
  obtain ⟨i,b⟩:=s
  cases b with
  | none =>
    by_cases hk:(nowT ts i).k=k
    · have e:nameR ts ⟨i,none⟩ k=((nowT ts i).s,⟨i+1,none⟩):=by unfold nameR;rw [if_pos ⟨rfl,hk⟩];rfl
      rw [e];exact nameR_ok w h hk hk1
    · have e:nameR ts ⟨i,none⟩ k=(⟨#[]⟩,failS ts ⟨i,none⟩):=by unfold nameR;rw [if_neg fun h=>hk h.2]
      rw [e];exact nameR_no w h hk
  | some p =>
    have e:nameR ts ⟨i,some p⟩ k=(⟨#[]⟩,⟨i,some p⟩):=by unfold nameR;rw [if_neg fun h=>by have :=h.1;cases this];rfl
    rw [e];exact nameR_bad w h
section
variable {s:MS} {d:Int} {b:Bool}
def rdB (aL:Option Addr) (n cap:Nat) (s:MS) (d:Int) (b:Bool):Value:=.agg #[.slice aL n cap,.int .i64 (s.i:Int),.int .i64 d,.bool b,.int .i64 (lB s.b),.int .i64 (cB s.b)]
theorem rdB_eq (a:(!s.ok)=b):rdB aL n cap s d b=rdS aL n cap s d:=by subst a;rfl
theorem nowB (s:MS) (d:Int) (a:(!s.ok)=b) (w:World) (h:MemW w (.s 5 (tkRows ts)) (.slice aL n cap)):Calls Tryz.prog 25 #[rdB aL n cap s d b] w fun e f=>e=.returned (tkV (nowT ts s.i))∧Below w.heap.size w f:=by rw [rdB_eq a];exact nowU s d w h
theorem isB (s:MS) (d k:Int) (x:ByteArray) (a:(!s.ok)=b) (w:World) (h:MemW w (.s 5 (tkRows ts)) (.slice aL n cap)):Calls Tryz.prog 27 #[rdB aL n cap s d b,.int .i64 k,.string x] w fun e f=>e=.returned (.bool (isS ts s k x))∧Below w.heap.size w f:=by rw [rdB_eq a];exact isU s d k x w h
theorem takeB (s:MS) (d k:Int) (x:ByteArray) (a:(!s.ok)=b) (w:World) (h:MemW w (.s 5 (tkRows ts)) (.slice aL n cap)) (f:k≠ -1):Calls Tryz.prog 26 #[rdB aL n cap s d b,.int .i64 k,.string x] w fun e g=>e=.returned (rdS aL n cap (takeS ts s k x) d)∧Below w.heap.size w g:=by rw [rdB_eq a];exact takeU s d k x w h f
end
theorem typesG {f:Nat} {st s s':MS} {x:Tm} (hR:RelS st s 0) (hr:typeM ts f (.atoms []) 0 st=some (x,s')) (w:World) (hm:MemW w (.s 5 (tkRows ts)) (.slice aL n cap)) (hn:n≤1048576):
    Calls Tryz.prog 103 #[rdS aL n cap s 0] w fun e w'=>∃ (s2:MS) (l:List Tm) (a:Option Addr) (m c:Nat),e=.returned (.tuple #[rdS aL n cap s2 0,.slice a m c])∧Below w.heap.size w w'∧RelS s' s2 0∧Mem (Nw 0 w.heap.size w'.heap.size) w' (.s 4 (Tm.rows l)) (.slice a m c)∧(s'.ok=true→l=x.args):=by
  have hrun:∃ y s2,typeM ts f (.atoms []) 0 s=some (y,s2)∧RelS s' s2 0∧(s'.ok=true→y.args=x.args):=by
    cases ho:st.ok with
    | true =>
      obtain ⟨rfl,_⟩:=hR.eq ho;exact ⟨x,s',hr,.refl _,fun _=>rfl⟩
    | false =>
      have hs:s.ok=false:=hR.ok.trans ho
      cases f with
      | zero=>rw [typeM] at hr;cases hr
      | succ f =>
        rw [typeM,if_neg (by unfold startsS;rw [ho];simp)] at hr;cases hr;refine ⟨.mk 0 ⟨#[]⟩ 0 [],s,?_,hR,fun _=>rfl⟩;rw [typeM,if_neg (by unfold startsS;rw [hs];simp)]
  obtain ⟨y,s2,h1,h2,h3⟩:=hrun;refine ((allRT ts aL n cap f f (Nat.le_refl _)).2 s 0 y s2 w (by decide) h1 hm hn).mono ?_;rintro e w' ⟨a,m,c,g1,g2,g3⟩;exact ⟨s2,y.args,a,m,c,g1,g2,h2,g3,h3⟩
def row6 (k:Int) (s:ByteArray) (nn:Int) (z:At) (u v:Int):List At:=[.v (.int .i64 k),.v (.string s),.v (.int .i64 nn),z,.v (.int .i64 u),.v (.int .i64 v)]
theorem raw6 {S:Nat→Prop} {w:World} {k a u v:Int} {s:ByteArray} {z:At} {y:Value} (h:Mem S w z y):All2 (Mem S w) (row6 k s a z u v) [.int .i64 k,.string s,.int .i64 a,y,.int .i64 u,.int .i64 v]:=
  .cons (.v _ rfl) (.cons (.v _ rfl) (.cons (.v _ rfl) (.cons h (.cons (.v _ rfl) (.cons (.v _ rfl) .nil)))))
def PAnsR (aL:Option Addr) (n cap:Nat) (x:Ex) (s':MS) (W:World) (e:Ending) (w':World):Prop:=
  ∃ (s2:MS) (d2:Int) (z:At) (k:Int) (t:ByteArray) (nn:Int) (a:Option Addr) (m c:Nat) (u v:Int),e=.returned (.tuple #[rdS aL n cap s2 d2,.agg #[.int .i64 k,.string t,.int .i64 nn,.slice a m c,.int .i64 u,.int .i64 v]])∧Below W.heap.size W w'∧RelS s' s2 d2∧Mem (Nw 0 W.heap.size w'.heap.size) w' z (.slice a m c)∧(s'.ok=true→row6 k t nn z u v=x.row)
theorem partG {F:Nat} {nt:Nt} {fn:FuncId} {st s s':MS} {d:Int} {x:Ex} (hR:RelS st s d) (hr:partM ts F nt st=some (x,s')) (hA:ReadsR ts aL n cap fn nt F)
    (hB:∀ (i:Nat) (d l c:Int) (w:World),MemW w (.s 5 (tkRows ts)) (.slice aL n cap)→Calls Tryz.prog fn #[rdV aL n cap (i:Int) d true l c] w (AnsR aL n cap (.bad l c) 0 0 0 w)) (w:World) (hm:MemW w (.s 5 (tkRows ts)) (.slice aL n cap)) (hn:n≤1048576):
    Calls Tryz.prog fn #[rdS aL n cap s d] w (PAnsR aL n cap x s' w):=by
  have bad:∀ (l c:Int) e w',s'.b=some (l,c)→AnsR aL n cap (.bad l c) 0 0 0 w e w'→PAnsR aL n cap x s' w e w':=by
    rintro l c e w' hb ⟨i',d',k,t,nn,a,m,c',u,v,g1,g2⟩;exact ⟨⟨i',some (l,c)⟩,d',.v (.slice a m c'),k,t,nn,a,m,c',u,v,g1,g2,⟨hb.symm,fun h=>by unfold MS.ok at h;rw [hb] at h;cases h⟩,.v _ rfl,fun h=>by unfold MS.ok at h;rw [hb] at h;cases h⟩
  unfold partM at hr
  cases ho:st.ok with
  | false =>
    rw [if_pos ho] at hr;cases hr;obtain ⟨i,b⟩:=s;have hs:(⟨i,b⟩:MS).ok=false:=hR.ok.trans ho
    cases b with
    | none=>cases hs
    | some p =>
      obtain ⟨l,c⟩:=p
      exact (hB i d l c w hm).mono fun e w' h=>bad l c e w' hR.b.symm h
  | true =>
    rw [if_neg (by rw [ho];decide)] at hr;obtain ⟨rfl,rfl⟩:=hR.eq ho;obtain ⟨i,b⟩:=s
    cases b with
    | some p=>cases ho
    | none =>
      split at hr
      · cases hr
      · rename_i y j hy
        cases hr;refine (hA i 0 _ 0 0 w (by decide) hm hn hy).mono ?_;rintro e w' ⟨a,m,c,g1,g2,g3⟩;exact ⟨⟨j,none⟩,0,.s 6 (Ex.rows x.args),x.kind,x.name,x.n,a,m,c,x.line,x.col,g1,g2,.refl _,g3,fun _=>by cases x;rfl⟩
      · rename_i l c hy
        cases hr
        exact (hA i 0 _ 0 0 w (by decide) hm hn hy).mono fun e w' h=>bad l c e w' rfl h
theorem partKB {F:Nat} {e:Nt} {a:FuncId} {g s f:MS} {d:Int} {x:Ex} {b:Bool} (o:(!s.ok)=b) (m:RelS g s d) (r:partM ts F e g=some (x,f)) (h:ReadsR ts aL n cap a e F)
    (j:∀ (i:Nat) (d l c:Int) (w:World),MemW w (.s 5 (tkRows ts)) (.slice aL n cap)→Calls Tryz.prog a #[rdV aL n cap (i:Int) d true l c] w (AnsR aL n cap (.bad l c) 0 0 0 w)) (w:World) (p:MemW w (.s 5 (tkRows ts)) (.slice aL n cap)) (q:n≤1048576):
    Calls Tryz.prog a #[rdB aL n cap s d b] w (PAnsR aL n cap x f w):=by rw [rdB_eq o];exact partG m r h j w p q
end
end
section
open Go.RowKit
def CAnsR (aL:Option Addr) (n cap:Nat) (x:Cn) (s':MS) (W:World) (e:Ending) (w':World):Prop:=
  ∃ (s2:MS) (y:Cn) (a:Option Addr) (m c:Nat),e=.returned (.tuple #[rdS aL n cap s2 0,cnV y a m c])∧Below W.heap.size W w'∧RelS s' s2 0∧Mem (Nw 0 W.heap.size w'.heap.size) w' (.s 4 (Tm.rows y.types)) (.slice a m c)∧(s'.ok=true→y=x)
section
variable {ts:List Tk} {aL:Option Addr} {n cap:Nat}
attribute [local go_sem] tk_pos tk_text tk_kind0
theorem rcon_any {f:Nat} {y s V:MS} {x:Cn} (F:RelS y s 0) (G:conM ts f y=some (x,V)) (w:World) (h:MemW w (.s 5 (tkRows ts)) (.slice aL n cap)) (hn:n≤1048576):
  Calls Tryz.prog 64 #[rdS aL n cap s 0] w (CAnsR aL n cap x V w):=by
 have d:Hid (FarB w.heap.size w.heap.size w w):=zz (FarB.refl _ _ _);unfold conM at G;obtain ⟨p,U,a5⟩:=Option.map_eq_some_iff.1 G;obtain ⟨z,sz⟩:=p;cases a5;have N:=zz (nameR_fst (ts:=ts) (k:=3) F);have O:=zz U;have Z:=zz F;have H:=zz h
 have Q:∀ l:List Tm,(sz.ok=true→l=z.args)→sz.ok=true→(⟨(nameR ts s 3).1,l,(nowT ts s.i).l,(nowT ts s.i).c⟩:Cn)=⟨(nameS ts y 3).1,z.args,(nowT ts y.i).l,(nowT ts y.i).c⟩:=fun l C T=>by
  have P:=(typeM_step _ _ _ _ _ _ O.out).fwd T;have h2:=(step_name (ts:=ts) (k:=3) y).fwd P.1;have h3:=(Z.out.eq h2.1).1;rw [N.out.2 P.1,C T,h3]
 have X:=zz Q;clear G U F h Q;simp only [rdS,rdV];go_enter Tryz.func64,Tryz.ntmps64
 go_wp2_with (fail)
 generalize a:World.alloc w _=a6;have a2:=sizeA a;replace d:=fA d a;have u:=nB a (w.heap.size);clear a;generalize a:World.alloc a6 _=a7;have a3:=sizeA a;replace d:=fA d a;replace u:=bA u a;have e:=nB a (w.heap.size+1);clear a;generalize a:World.alloc a7 _=w1;have a4:=sizeA a;replace d:=fA d a;replace u:=bA u a;replace e:=bA e a;have g:=nB a (w.heap.size+2);clear a
 have ae:w1.heap.size=w.heap.size+3:=by omega
 clear a2 a3 a4;refine (nowU s 0 _ (refTok d.out H.out)).mono ?_;rintro _ D ⟨rfl,j⟩;replace u:=kB u j;replace e:=kB e j;replace g:=kB g j;replace d:=kF d j;have ab:=j.size;clear j;simp only [tkV];have rc:=kc6 u;have E:=i012_0 w D
 go_wp2_with (fail)
 clear rc;generalize a:World.alloc D _=w3;have af:=sizeA a;replace d:=fA d a;replace e:=bA e a;replace g:=bA g a;have r:=nB a (D.heap.size);clear a;clear E;refine (nameU s 0 3 _ (refTok d.out H.out) (by decide)).mono ?_;rintro _ w4 ⟨rfl,j⟩;replace e:=kB e j;replace g:=kB g j;replace r:=kB r j;replace d:=kF d j;have ac:=j.size;clear j;simp only [rdS,rdV]
 go_wp2_with (fail)
 generalize a:World.alloc w4 _=w5;have ag:=sizeA a;replace d:=fA d a;replace e:=bA e a;replace g:=bA g a;replace r:=bA r a;clear a;refine (typesG N.out.1 O.out _ (refTok d.out H.out) hn).mono ?_;rintro _ I ⟨B,l,az,mz,cz,rfl,j,hrel,R,C⟩;replace e:=kB e j;replace g:=kB g j;replace r:=kB r j;replace d:=kF d j;have ad:=j.size;clear j;have a0:=zz hrel;have t:=zz R;have Y:=zz C;clear hrel R C;simp only [rdS,rdV];go_upto_region 4 with (fail);generalize a:World.alloc I _=W;have ah:=sizeA a;replace d:=fA d a;replace e:=bA e a;replace g:=bA g a;replace r:=bA r a;replace t:=mA t a;have M:=nB a (I.heap.size);clear a;clear u;have L:=kc6 e;have o:=kc2 r;have q:=kc6 M;have E:=chain5 (w.heap.size+1) (w.heap.size+2) D.heap.size I.heap.size W.heap.size;refine wp_region_held_drew (S:=fun w'=>Far (fun b=>b=(w.heap.size+1)∨b=(w.heap.size+2)) (W) w') (by kernel_rfl) (Far.of (below_drew _)) (fun a9=>?_);refine takeA 0 (v:=?_) rfl ?_ ?_;rotate_left
 · (intro w m;replace q:=Far.c6z q m;replace o:=Far.c2z o m;go_simp;try rfl)
 (try simp only [pu]);refine takeA 1 (v:=?_) rfl ?_ ?_;rotate_left
 · (intro w m;replace q:=Far.c6z q m;replace o:=Far.c2z o m;go_simp;try rfl)
 (try simp only [pu]);refine takeA 2 (v:=?_) rfl ?_ ?_;rotate_left
 · (intro w m;replace q:=Far.c6z q m;replace o:=Far.c2z o m;go_simp;try rfl)
 (try simp only [pu]);refine takeA 3 (v:=?_) rfl ?_ ?_;rotate_left
 · (intro w m;replace q:=Far.c6z q m;replace o:=Far.c2z o m;go_simp;try rfl)
 (try simp only [pu]);refine takeA 4 (v:=?_) rfl ?_ ?_;rotate_left
 · (intro w m;replace q:=Far.c6z q m;replace o:=Far.c2z o m;go_simp;try rfl)
 (try simp only [pu]);refine callA 5 rfl fun K A=>?_;go_simp;refine A.out _ _ ?_ (fun a1=>?_);· exact (by refine Far.trans ?_ (Far.of (below_drew _));(iterate 6 (refine Far.setCell (p:=⟨(w.heap.size+1),_,none⟩) ?_ (.inl rfl) _));exact Far.refl _ _)
 clear A K;clear L o q;generalize a:World.setCell _ ⟨(w.heap.size+1),5,none⟩ _=a8 at *;replace d:=fN6 d a;replace e:=bS6 e a;replace g:=bF6 g a;replace t:=mS6 t a;clear a;generalize a:(a8.drew)=w8 at *;replace d:=fD d a;replace e:=bD e a;replace g:=bD g a;replace t:=mD t a;clear a;clear E;have J:=kc4 g;refine callA 6 rfl fun K A=>?_;go_simp;refine A.out _ _ ?_ (fun aa=>?_);· exact (by (iterate 4 (refine Far.setCell (p:=⟨(w.heap.size+2),_,none⟩) ?_ (.inr rfl) _));exact a1)
 clear A K;refine wpAnyH_done (by kernel_rfl) ?_ _;clear J;generalize a:World.setCell _ ⟨(w.heap.size+2),3,none⟩ _=w9;replace d:=fN4 d a;replace e:=bF4 e a;replace g:=bS4 g a;replace t:=mS4 t a;clear a
 go_wp2_with (fail)
 have L:=kc6 e;have J:=kc4 g;refine bodyPost_ret (v:=.tuple #[.agg #[.slice aL n cap,.int .i64 (B.i:Int),.int .i64 0,.bool (!B.ok),.int .i64 (lB B.b),.int .i64 (cB B.b)],.agg #[.string (nameR ts s 3).1,.slice az mz cz,.int .i64 (nowT ts s.i).l,.int .i64 (nowT ts s.i).c]]) (by clear d H e g r M t;simp [results,Tryz.results64,go_sem,L,J]) rfl ?_;exact ⟨B,⟨(nameR ts s 3).1,l,(nowT ts s.i).l,(nowT ts s.i).c⟩,_,_,_,rfl,refBelow d.out,a0.out,memNw t.out (by omega),X.out l Y.out⟩
end
end
section
open Go.RowKit
def posU (L ub:Nat) (w:World):Nat:=
  match w.cell? ⟨ub,3,none⟩,w.cell? ⟨ub,1,none⟩ with
  | some (.bool b),some (.int _ i)=>if b then 0 else (L - i.toNat)+2
  | _,_=>0
theorem posU_eq {aL:Option Addr} {n cap a:Nat} {s:MS} {d:Int} {w:World} (h:Bo w a 67 #[.slice aL n cap,.int .i64 (s.i:Int),.int .i64 d,.bool (!s.ok),.int .i64 (lB s.b),.int .i64 (cB s.b)]) (L:Nat):posU L a w=if s.ok=true then (L - s.i)+2 else 0:=by
  have c:=h.c6z;unfold posU;rw [c.2.1,c.2.2.2.1];simp only
  cases hok:s.ok with
  | true=>rw [if_neg (by decide),if_pos rfl];simp
  | false=>rw [if_pos (by decide),if_neg (by decide)]
theorem posU_lt {aL:Option Addr} {n cap e:Nat} {s a:MS} {d g:Int} {w f:World} (h:Bo w e 67 #[.slice aL n cap,.int .i64 (s.i:Int),.int .i64 d,.bool (!s.ok),.int .i64 (lB s.b),.int .i64 (cB s.b)]) (j:Bo f e 67 #[.slice aL n cap,.int .i64 (a.i:Int),.int .i64 g,.bool (!a.ok),.int .i64 (lB a.b),.int .i64 (cB a.b)]) (L:Nat) (p:s.ok=true) (o:a.ok=true→s.i<a.i∧s.i<L):posU L e f<posU L e w:=by
  rw [posU_eq h,posU_eq j,if_pos p]
  split
  · rename_i m
    have :=o m
    omega
  · omega
def DAnsR (aL:Option Addr) (n cap:Nat) (x:Da) (s':MS) (W:World) (e:Ending) (w':World):Prop:=
  ∃ (s2:MS) (y:Da) (a:Option Addr) (m c:Nat) (a':Option Addr) (m' c':Nat),e=.returned (.tuple #[rdS aL n cap s2 0,daV y a m c a' m' c'])∧Below W.heap.size W w'∧RelS s' s2 0∧Mem (Nw 0 W.heap.size w'.heap.size) w' (.s 1 (y.vars.map strRow)) (.slice a m c)∧Mem (Nw 0 W.heap.size w'.heap.size) w' (.s 4 (y.cons.map Cn.row)) (.slice a' m' c')∧(s'.ok=true→y=x)
section
variable {ts:List Tk} {aL:Option Addr} {n cap:Nat}
attribute [local go_sem] tk_pos tk_text tk_kind0 tk_kindM
theorem rdata_any {f:Nat} {st s s':MS} {x:Da} (hR:RelS st s 0) (hr:dataM ts f st=some (x,s')) (w:World) (h:MemW w (.s 5 (tkRows ts)) (.slice aL n cap)) (hn:n≤1048576):
  Calls Tryz.prog 28 #[rdS aL n cap s 0] w (DAnsR aL n cap x s' w):=by
 have d:Hid (FarB w.heap.size w.heap.size w w):=zz (FarB.refl _ _ _);unfold dataM at hr;obtain ⟨V,I,hr⟩:=Option.bind_eq_some_iff.1 hr;obtain ⟨C,b4,hr⟩:=Option.bind_eq_some_iff.1 hr;obtain ⟨E,b5,bt⟩:=Option.map_eq_some_iff.1 hr;cases bt;obtain ⟨vs,sv⟩:=V;obtain ⟨cn,sc⟩:=C;obtain ⟨cs,se⟩:=E
 have ci:ts.length=n:=by have h2:=h.len.1;rw [tkRows_len] at h2;exact h2
 have bc:=hR.take (ts:=ts) 5 wData;have au:=nameR_fst (ts:=ts) (k:=3) bc;obtain ⟨sa,b7⟩:∃ x,takeS ts s 5 wData=x:=⟨_,rfl⟩;rw [b7] at au;obtain ⟨nb,b3⟩:∃ x,nameR ts sa 3=x:=⟨_,rfl⟩;rw [b3] at au;have HN:=zz au;have bn:=zz b7;have bm:=zz b3;clear au b7 b3;have H3:Hid ((conM ts f (takeS ts sv 6 wEq)).bind (fun p=>consM ts f f ([]++[p.1]) p.2)=some (cs,se)):=zz (by rw [b4];exact b5);have H:=zz h
 have bf:se.ok=true→(nameS ts (takeS ts st 5 wData) 3).2.ok=true∧st=s:=fun O=>by
  have h1:=(consM_step _ _ _ _ _ b5).fwd O;have h2:=(conM_step b4).fwd h1.1;have h3:=(step_take (ts:=ts) (k:=6) (x:=wEq) sv).fwd h2.1;have h4:=(varsM_step _ _ _ _ I).fwd h3.1;have h5:=(step_name (ts:=ts) (k:=3) (takeS ts st 5 wData)).fwd h4.1;have h6:=(step_take (ts:=ts) (k:=5) (x:=wData) st).fwd h5.1;exact ⟨h4.1,(hR.eq h6.1).1.symm⟩
 have bl:=zz bf;clear hr b4 b5 hR bc h bf;simp only [rdS,rdV];go_enter Tryz.func28,Tryz.ntmps28
 go_wp2_with (fail)
 generalize a:World.alloc w _=c0;have aj:=sizeA a;replace d:=fA d a;have a5:=nB a (w.heap.size);clear a;generalize a:World.alloc c0 _=c6;have ak:=sizeA a;replace d:=fA d a;replace a5:=bA a5 a;have o:=nB a (w.heap.size+1);clear a;generalize a:World.alloc c6 _=w1;have bs:=sizeA a;replace d:=fA d a;replace a5:=bA a5 a;replace o:=bA o a;have q:=nB a (w.heap.size+2);clear a
 have cr:w1.heap.size=w.heap.size+3:=by omega
 clear aj ak bs;refine (nowU s 0 _ (refTok d.out H.out)).mono ?_;rintro _ J ⟨rfl,g⟩;replace a5:=kB a5 g;replace o:=kB o g;replace q:=kB q g;replace d:=kF d g;have cm:=g.size;clear g;simp only [tkV];have rc:=kc6 a5;have U:=i012_0 w J
 go_wp2_with (fail)
 clear rc;generalize a:World.alloc J _=w3;have cu:=sizeA a;replace d:=fA d a;replace o:=bA o a;replace q:=bA q a;have m:=nB a (J.heap.size);clear a;clear U;refine (takeU s 0 5 wData _ (refTok d.out H.out) (by decide)).mono ?_;rintro _ w4 ⟨rfl,g⟩;replace o:=kB o g;replace q:=kB q g;replace m:=kB m g;replace d:=kF d g;have co:=g.size;clear g;rw [bn.out];simp only [rdS,rdV]
 go_wp2_with (fail)
 refine (nameU sa 0 3 _ (refTok d.out H.out) (by decide)).mono ?_;rintro _ D ⟨rfl,g⟩;replace o:=kB o g;replace q:=kB q g;replace m:=kB m g;replace d:=kF d g;have cp:=g.size;clear g;rw [bm.out];simp only [rdS,rdV];have F:=kc5 m;have U:=i012_0_0 w J D
 go_wp2_with (fail)
 clear F;generalize a:World.setCell D _ _=c7;have aj:=sizeS1 a;replace d:=fN1 d a;replace o:=bF1 o a;replace q:=bF1 q a;replace m:=s5_0 m a;clear a;generalize a:World.alloc c7 _=w6;have ak:=sizeA a;replace d:=fA d a;replace o:=bA o a;replace q:=bA q a;replace m:=bA m a;have j:=nB a (D.heap.size);clear a
 have cv:w6.heap.size=D.heap.size+1:=by omega
 clear aj ak;clear U;have U:=chain6 w.heap.size (w.heap.size+1) (w.heap.size+2) J.heap.size D.heap.size w6.heap.size;have hZ:=chain6 w.heap.size (w.heap.size+1) (w.heap.size+2) J.heap.size D.heap.size (D.heap.size+1)
 have cf:w.heap.size<w6.heap.size∧(w.heap.size+1)<w6.heap.size∧(w.heap.size+2)<w6.heap.size∧J.heap.size<w6.heap.size∧D.heap.size<w6.heap.size:=by refine ⟨?_,?_,?_,?_,?_⟩ <;> omega
 generalize ca:w6.heap.size=B0 at *
 go_loopw [] (fun wr=>∃ (T:List ByteArray) (am t:MS) (X:Nat) (a1:Option Addr) (m1 c1:Nat),varsM ts X T am=some (vs,sv)∧Hid (RelS am t 0)∧Hid (FarB w.heap.size w.heap.size w wr)∧Hid (Bo wr (w.heap.size+1) 67 #[.slice none 0 0,.int .i64 0,.int .i64 0,.bool false,.int .i64 0,.int .i64 0])∧Hid (Bo wr (w.heap.size+2) 40 #[.string ⟨#[]⟩,.slice none 0 0,.slice none 0 0,.int .i64 0,.int .i64 0])∧Hid (Bo wr J.heap.size 40 #[.string nb.1,.slice a1 m1 c1,.slice none 0 0,.int .i64 (nowT ts s.i).l,.int .i64 (nowT ts s.i).c])∧Hid (Bo wr D.heap.size 67 #[.slice aL n cap,.int .i64 (t.i:Int),.int .i64 0,.bool (!t.ok),.int .i64 (lB t.b),.int .i64 (cB t.b)])∧Hid (OwnD 0 B0 9 1 wr (.slice a1 m1 c1) (T.map strRow))∧T.length+leftM ts t≤ts.length∧B0≤wr.heap.size) (fun wr=>posU ts.length (D.heap.size) wr)
 case atStart=>exact ⟨[],_,_,f,none,0,0,I,zz HN.out.1,d,o,q,m,j,zz (OwnD.nil _ _ _ _ _),(by have :=leftM_le (ts:=ts) nb.2;simp only [List.length_nil];omega),by omega⟩
 case round=>
  clear d a5 o q m j I;obtain ⟨T,am,t,X,a1,m1,c1,I,ad,d,o,q,m,j,M,cg,bv⟩:=hrel;have ab:=j
  cases X with
  | zero=>rw [varsM] at I;cases I
  | succ X=>
   rw [varsM] at I;cases O:t.ok
   case' false=>
    have a4:am.ok=false:=ad.out.ok.symm.trans O;rw [if_neg (by rw [a4];simp)] at I;have ac:Hid ((!t.ok)=true):=zz (by rw [O];rfl);clear a4;have u:=kc6 j
    go_wp2_with (fail)
    clear O;clear u
   case' true=>
    have a4:am.ok=true:=ad.out.ok.symm.trans O;obtain ⟨e1,_⟩:=ad.out.eq a4;subst e1;have a7:=zz a4;have ac:Hid ((!t.ok)=false):=zz (by rw [O];rfl);have u:=kc6 j
    go_wp2_with (fail)
    clear u;refine (nowB t 0 (by first | exact rfl | exact ac.out) _ (refTok d.out H.out)).mono ?_;rintro _ wr ⟨rfl,g⟩;replace o:=kB o g;replace q:=kB q g;replace m:=kB m g;replace j:=kB j g;replace M:=kO M g;replace d:=kF d g;have bh:=g.size;clear g
    replace bv:B0≤wr.heap.size:=by omega
    clear bh;simp only [tkV];have u:=kc6 j
    by_cases ai:(nowT ts t.i).k=2
    case pos=>
     rw [if_pos (by rw [a4,ai];decide)] at I;have ar:t.i<ts.length:=now_lt (by rw [ai];decide)
     have b2:T.length+1≤1048576∧T.length+1+leftM ts t.next≤ts.length:=by
      have h1:=leftM_ok (ts:=ts) a4;have h2:leftM ts t.next≤leftM ts t - 1:=leftM_step (ts:=ts) (step_next t)
      omega
     have br:(t.i:Int)+1≤9223372036854775807:=by omega
     clear a4 O;go_upto_region 5 with (fail)
     have A:∀ k,(Value.slice a1 m1 c1).ownBlock=some k→B0≤k:=fun k hk=>(M.out.lt k hk).1
     clear u;have F:=kc5 m;have u:=kc6 j;refine wp_region_held_drew (S:=fun w'=>Far (fun b=>b=J.heap.size∨(Value.slice a1 m1 c1).ownBlock=some b) (wr) w') (by kernel_rfl) (Far.of (below_drew _)) (fun bd=>?_);refine takeA 0 (v:=?_) rfl ?_ ?_;rotate_left
     · (intro w W;replace u:=Far.c6z u W (by intro e;rcases e with e | e;(· omega);(· have :=A _ e;omega));go_simp;try rfl)
     (try simp only [pu]);refine takeA 2 (v:=?_) rfl ?_ ?_;rotate_left
     · (intro w W;replace u:=Far.c6z u W (by intro e;rcases e with e | e;(· omega);(· have :=A _ e;omega));go_simp;try rfl)
     (try simp only [pu]);refine twoL 1 3 rfl rfl (by kernel_rfl) (by rfl) (by rfl) (fun K r=>?_) (fun K r=>?_)
     ·
      go_simp;refine r.out _ _ bd (fun aq=>?_);clear r K;refine callA 3 rfl fun K r=>?_;have a3:=M;clear F u;go_simp;refine (nowB t 0 (by first | exact rfl | exact ac.out) _ (MemW.keep (w:=wr) (refTok d.out H.out) (below_drew _))).mono ?_;rintro e c8 ⟨rfl,g⟩;have b0:=g;replace g:=Below.one g;replace o:=kB o g;replace q:=kB q g;replace m:=kB m g;replace j:=kB j g;replace M:=kO M g;replace d:=kF d g;have ck:=g.size;clear g;simp only [tkV];go_simp;refine r.out _ _ (Far.trans aq (Far.of b0)) (fun af=>?_);clear r K;refine takeA 4 (v:=?_) rfl ?_ ?_;rotate_left
      · (intro w W;go_simp;try rfl)
      (try simp only [pu]);refine callA 5 rfl fun K r=>?_;go_simp;refine r.out _ _ (Far.trans af (Far.of (below_new _ _))) (fun ag=>?_);clear r K;refine callA 6 rfl fun K r=>?_;refine wp_append_D2 _ _ (by rfl) Tryz.underlying37 info_strM rfl (by decide) (by rfl) (by rfl) (M.out.alloc _) (row_app a3.out (by omega) (by omega) (str_mem) rfl) (by simp only [List.length_map,List.length_cons,List.length_nil];omega) (by simp only [List.length_map,List.length_cons,List.length_nil];omega) (by rw [World.size_alloc];omega) (fun v9 L R B=>?_);obtain ⟨Z,m9,c9,rfl⟩:=mem_slice R.mem;refine r.out _ _ (Far.trans ag ((grownFar B).mono (fun b e=>.inr e))) (fun ah=>?_);clear r K
      have b6:c8.heap.size+1≤L.heap.size:=by have h:=B.size;rw [World.size_alloc] at h;exact h
      replace d:=gFx d B A;replace o:=gOx o B A;replace q:=gOx q B A;replace m:=gOx m B A;replace j:=gOx j B A;have N:Hid (OwnD 0 (B0) 9 1 L (.slice Z m9 c9) ((T++[(nowT ts t.i).s]).map strRow)):=zz (by rw [List.map_append];exact R);clear R B A a3 M;refine takeA 7 (v:=?_) rfl ?_ ?_;rotate_left
      · (intro w W;go_simp;try rfl)
      (try simp only [pu]);refine callA 8 rfl fun K r=>?_;have F:=kc5 m;go_simp;refine r.out _ _ ?_ (fun be=>?_);· exact Far.setCell ah (.inl rfl) _
      clear r K;refine wpAnyH_done (by kernel_rfl) ?_ _;clear F;generalize a:World.setCell L _ _=a0;have bj:=sizeS1 a;replace d:=fN1 d a;replace o:=bF1 o a;replace q:=bF1 q a;replace m:=s5_1 m a;replace j:=bF1 j a;replace N:=oS1 N a;clear a;have u:=kc6 j
      go_wp2_with (fail)
      clear u;generalize a:World.setCell a0 _ _=an;have bu:=sizeS1 a;replace d:=fN1 d a;replace o:=bF1 o a;replace q:=bF1 q a;replace m:=bF1 m a;replace j:=s6_1 j a;replace N:=oS1 N a;clear a;replace j:Hid (Bo an D.heap.size 67 #[.slice aL n cap,.int .i64 (t.next.i:Int),.int .i64 0,.bool (!t.next.ok),.int .i64 (lB t.next.b),.int .i64 (cB t.next.b)]):=j;have U:=chain5 (w.heap.size+1) (w.heap.size+2) J.heap.size D.heap.size an.heap.size
      go_roundw
      case rel=>exact ⟨T++[(nowT ts t.i).s],t.next,t.next,X,Z,m9,c9,I,zz (.refl _),d,o,q,m,j,N,(by rw [List.length_append,List.length_cons,List.length_nil];exact b2.2),by omega⟩
      case measure=>exact posU_lt ab.out j.out _ a7.out fun _=>⟨Nat.lt_succ_self _,ar⟩
     ·
      have a3:=M;clear F u;go_simp;refine (nowB t 0 (by first | exact rfl | exact ac.out) _ (MemW.keep (w:=wr) (refTok d.out H.out) (below_drew _))).mono ?_;rintro e aw ⟨rfl,g⟩;have b0:=g;replace g:=Below.one g;replace o:=kB o g;replace q:=kB q g;replace m:=kB m g;replace j:=kB j g;replace M:=kO M g;replace d:=kF d g;have cj:=g.size;clear g;simp only [tkV];go_simp;refine r.out _ _ (Far.trans bd (Far.of b0)) (fun aq=>?_);clear r K;refine takeA 4 (v:=?_) rfl ?_ ?_;rotate_left
      · (intro w W;go_simp;try rfl)
      (try simp only [pu]);refine twoL 1 5 rfl rfl (by kernel_rfl) (by rfl) (by rfl) (fun K r=>?_) (fun K r=>?_)
      ·
       have F:=kc5 m;have U:=chain5 (w.heap.size+1) (w.heap.size+2) J.heap.size D.heap.size aw.heap.size;go_simp;refine r.out _ _ aq (fun af=>?_);clear r K;clear F;refine callA 5 rfl fun K r=>?_;go_simp;refine r.out _ _ (Far.trans af (Far.of (below_new _ _))) (fun ag=>?_);clear r K;refine callA 6 rfl fun K r=>?_;refine wp_append_D2 _ _ (by rfl) Tryz.underlying37 info_strM rfl (by decide) (by rfl) (by rfl) (M.out.alloc _) (row_app a3.out (by omega) (by omega) (str_mem) rfl) (by simp only [List.length_map,List.length_cons,List.length_nil];omega) (by simp only [List.length_map,List.length_cons,List.length_nil];omega) (by rw [World.size_alloc];omega) (fun v9 L R B=>?_);obtain ⟨Z,m9,c9,rfl⟩:=mem_slice R.mem;refine r.out _ _ (Far.trans ag ((grownFar B).mono (fun b e=>.inr e))) (fun ah=>?_);clear r K
       have b6:aw.heap.size+1≤L.heap.size:=by have h:=B.size;rw [World.size_alloc] at h;exact h
       replace d:=gFx d B A;replace o:=gOx o B A;replace q:=gOx q B A;replace m:=gOx m B A;replace j:=gOx j B A;have N:Hid (OwnD 0 (B0) 9 1 L (.slice Z m9 c9) ((T++[(nowT ts t.i).s]).map strRow)):=zz (by rw [List.map_append];exact R);clear R B A a3 M;refine takeA 7 (v:=?_) rfl ?_ ?_;rotate_left
       · (intro w W;go_simp;try rfl)
       (try simp only [pu]);refine callA 8 rfl fun K r=>?_;have F:=kc5 m;go_simp;refine r.out _ _ ?_ (fun be=>?_);· exact Far.setCell ah (.inl rfl) _
       clear r K;refine wpAnyH_done (by kernel_rfl) ?_ _;clear F;generalize a:World.setCell L _ _=av;have bi:=sizeS1 a;replace d:=fN1 d a;replace o:=bF1 o a;replace q:=bF1 q a;replace m:=s5_1 m a;replace j:=bF1 j a;replace N:=oS1 N a;clear a;have u:=kc6 j
       go_wp2_with (fail)
       clear u;generalize a:World.setCell av _ _=a0;have bj:=sizeS1 a;replace d:=fN1 d a;replace o:=bF1 o a;replace q:=bF1 q a;replace m:=bF1 m a;replace j:=s6_1 j a;replace N:=oS1 N a;clear a;replace j:Hid (Bo a0 D.heap.size 67 #[.slice aL n cap,.int .i64 (t.next.i:Int),.int .i64 0,.bool (!t.next.ok),.int .i64 (lB t.next.b),.int .i64 (cB t.next.b)]):=j;have U:=chain5 (w.heap.size+1) (w.heap.size+2) J.heap.size D.heap.size a0.heap.size
       go_roundw
       case rel=>exact ⟨T++[(nowT ts t.i).s],t.next,t.next,X,Z,m9,c9,I,zz (.refl _),d,o,q,m,j,N,(by rw [List.length_append,List.length_cons,List.length_nil];exact b2.2),by omega⟩
       case measure=>exact posU_lt ab.out j.out _ a7.out fun _=>⟨Nat.lt_succ_self _,ar⟩
      ·
       go_simp;refine r.out _ _ (Far.trans aq (Far.of (below_new _ _))) (fun af=>?_);clear r K;have F:=kc5 m;have U:=chain5 (w.heap.size+1) (w.heap.size+2) J.heap.size D.heap.size aw.heap.size;refine callA 1 rfl fun K r=>?_;go_simp;refine r.out _ _ af (fun ag=>?_);clear r K;clear F;refine callA 6 rfl fun K r=>?_;refine wp_append_D2 _ _ (by rfl) Tryz.underlying37 info_strM rfl (by decide) (by rfl) (by rfl) (M.out.alloc _) (row_app a3.out (by omega) (by omega) (str_mem) rfl) (by simp only [List.length_map,List.length_cons,List.length_nil];omega) (by simp only [List.length_map,List.length_cons,List.length_nil];omega) (by rw [World.size_alloc];omega) (fun v9 L R B=>?_);obtain ⟨Z,m9,c9,rfl⟩:=mem_slice R.mem;refine r.out _ _ (Far.trans ag ((grownFar B).mono (fun b e=>.inr e))) (fun ah=>?_);clear r K
       have b6:aw.heap.size+1≤L.heap.size:=by have h:=B.size;rw [World.size_alloc] at h;exact h
       replace d:=gFx d B A;replace o:=gOx o B A;replace q:=gOx q B A;replace m:=gOx m B A;replace j:=gOx j B A;have N:Hid (OwnD 0 (B0) 9 1 L (.slice Z m9 c9) ((T++[(nowT ts t.i).s]).map strRow)):=zz (by rw [List.map_append];exact R);clear R B A a3 M;refine takeA 7 (v:=?_) rfl ?_ ?_;rotate_left
       · (intro w W;go_simp;try rfl)
       (try simp only [pu]);refine callA 8 rfl fun K r=>?_;have F:=kc5 m;go_simp;refine r.out _ _ ?_ (fun be=>?_);· exact Far.setCell ah (.inl rfl) _
       clear r K;refine wpAnyH_done (by kernel_rfl) ?_ _;clear F;generalize a:World.setCell L _ _=av;have bi:=sizeS1 a;replace d:=fN1 d a;replace o:=bF1 o a;replace q:=bF1 q a;replace m:=s5_1 m a;replace j:=bF1 j a;replace N:=oS1 N a;clear a;have u:=kc6 j
       go_wp2_with (fail)
       clear u;generalize a:World.setCell av _ _=a0;have bj:=sizeS1 a;replace d:=fN1 d a;replace o:=bF1 o a;replace q:=bF1 q a;replace m:=bF1 m a;replace j:=s6_1 j a;replace N:=oS1 N a;clear a;replace j:Hid (Bo a0 D.heap.size 67 #[.slice aL n cap,.int .i64 (t.next.i:Int),.int .i64 0,.bool (!t.next.ok),.int .i64 (lB t.next.b),.int .i64 (cB t.next.b)]):=j;have U:=chain5 (w.heap.size+1) (w.heap.size+2) J.heap.size D.heap.size a0.heap.size
       go_roundw
       case rel=>exact ⟨T++[(nowT ts t.i).s],t.next,t.next,X,Z,m9,c9,I,zz (.refl _),d,o,q,m,j,N,(by rw [List.length_append,List.length_cons,List.length_nil];exact b2.2),by omega⟩
       case measure=>exact posU_lt ab.out j.out _ a7.out fun _=>⟨Nat.lt_succ_self _,ar⟩
    case' neg=>
     have e2:((nowT ts t.i).k==2)=false:=by simp [ai]
     rw [if_neg (by rw [Bool.and_eq_true,decide_eq_true_eq];exact fun h=>ai h.2)] at I;clear a4 O
     go_wp2_with (fail)
     clear u;clear ai e2 a7
   all_goals (
    have e9:=Prod.mk.inj (Option.some.inj I);obtain ⟨ev,es⟩:=e9;clear I;subst ev;subst es;obtain ⟨T0,bq⟩:∃ k,k=wr.heap.size:=⟨_,rfl⟩;have z:Hid (Mem (NwS (Bt B0 T0) wr.heap.size) wr (.s 1 (T.map strRow)) (.slice a1 m1 c1)):=zz (by rw [bq];exact memS_bt M.out.mem (by omega));clear M;have ae:=zz (ad.out.take (ts:=ts) 6 wEq);clear ad
    go_wp2_with (fail)
    refine (takeB t 0 6 wEq (by first | exact rfl | exact ac.out) _ (refTok d.out H.out) (by decide)).mono ?_;rintro _ w7 ⟨rfl,g⟩;replace o:=kB o g;replace q:=kB q g;replace m:=kB m g;replace j:=kB j g;replace z:=kY z g;replace d:=kF d g;have bh:=g.size;clear g;simp only [rdS,rdV];have u:=kc6 j
    go_wp2_with (fail)
    clear u;generalize a:World.setCell _ ⟨D.heap.size,5,none⟩ _=w8;have cx:=sizeS6 a;replace d:=fN6 d a;replace o:=bF6 o a;replace q:=bF6 q a;replace m:=bF6 m a;replace j:=bS6 j a;replace z:=yS6 z a;clear a;have U:=chain5 (w.heap.size+1) (w.heap.size+2) J.heap.size D.heap.size w8.heap.size;obtain ⟨B1,cb⟩:∃ k,k=w8.heap.size:=⟨_,rfl⟩
    go_loopw [] (fun wr=>∃ (ws ys:List Cn) (b8 s2:MS) (X:Nat) (a2:Option Addr) (m2 c2:Nat),(conM ts f b8).bind (fun p=>consM ts f X (ws++[p.1]) p.2)=some (cs,se)∧Hid (RelS b8 s2 0)∧Hid (se.ok=true→ys=ws)∧Hid (FarB w.heap.size w.heap.size w wr)∧Hid (Bo wr (w.heap.size+1) 67 #[.slice none 0 0,.int .i64 0,.int .i64 0,.bool false,.int .i64 0,.int .i64 0])∧Hid (Bo wr (w.heap.size+2) 40 #[.string ⟨#[]⟩,.slice none 0 0,.slice none 0 0,.int .i64 0,.int .i64 0])∧Hid (Bo wr J.heap.size 40 #[.string nb.1,.slice a1 m1 c1,.slice a2 m2 c2,.int .i64 (nowT ts s.i).l,.int .i64 (nowT ts s.i).c])∧Hid (Bo wr D.heap.size 67 #[.slice aL n cap,.int .i64 (s2.i:Int),.int .i64 0,.bool (!s2.ok),.int .i64 (lB s2.b),.int .i64 (cB s2.b)])∧Hid (OwnD 0 B1 75 4 wr (.slice a2 m2 c2) (ys.map Cn.row))∧Hid (Mem (NwS (Bt B0 T0) wr.heap.size) wr (.s 1 (T.map strRow)) (.slice a1 m1 c1))∧ys.length+leftM ts s2≤ts.length∧B1≤wr.heap.size) (fun wr=>posU ts.length (D.heap.size) wr)
    case atStart=>exact ⟨[],[],_,_,f,none,0,0,H3.out,ae,zz (fun _=>rfl),d,o,q,m,j,zz (OwnD.nil _ _ _ _ _),z,(by have :=leftM_le (ts:=ts) (takeS ts t 6 wEq);simp only [List.length_nil];omega),by omega⟩
    case round=>
     clear d o q m j ab z ae;obtain ⟨ws,ys,b8,s2,X,a2,m2,c2,I,ae,bb,d,o,q,m,j,Y,z,ch,cz⟩:=hrel;have ab:=j;obtain ⟨P,bg,aa⟩:=Option.bind_eq_some_iff.1 I;obtain ⟨y0,sy⟩:=P;clear I;have u:=kc6 j
     go_wp2_with (fail)
     clear u;have a3:=Y;have ax:=zz bg;clear bg;refine (rcon_any ae.out ax.out _ (refTok d.out H.out) hn).mono ?_;rintro _ L ⟨G,y,ay,my,cy,rfl,g,hrel,hm,hy⟩;replace o:=kB o g;replace q:=kB q g;replace m:=kB m g;replace j:=kB j g;replace Y:=kO Y g;replace z:=kY z g;replace d:=kF d g;have b6:=g.size;clear g;have az:=zz hrel;have a6:=zz hm;have ba:=zz hy;clear hrel hm hy;simp only [rdS,rdV,cnV];go_upto_region 9 with (fail);generalize a:World.alloc L _=bw;have aj:=sizeA a;replace d:=fA d a;replace o:=bA o a;replace q:=bA q a;replace m:=bA m a;replace j:=bA j a;replace a6:=mA a6 a;replace Y:=oA Y a;replace z:=yA z a;have ap:=nB a (L.heap.size);clear a;generalize a:World.alloc bw _=bk;have ak:=sizeA a;replace d:=fA d a;replace o:=bA o a;replace q:=bA q a;replace m:=bA m a;replace j:=bA j a;replace ap:=bA ap a;replace a6:=mA a6 a;replace Y:=oA Y a;replace z:=yA z a;have ao:=nB a (L.heap.size+1);clear a
     have ct:bk.heap.size=L.heap.size+2:=by omega
     clear aj ak;have u:=kc6 j;have qc:=kc6 ap;have U:=chain7 (w.heap.size+1) (w.heap.size+2) J.heap.size D.heap.size L.heap.size (L.heap.size+1) bk.heap.size;go_upto_region 10 with (fail);clear u qc;generalize a:World.setCell _ ⟨D.heap.size,5,none⟩ _=bx;have cw:=sizeS6 a;replace d:=fN6 d a;replace o:=bF6 o a;replace q:=bF6 q a;replace m:=bF6 m a;replace j:=bS6 j a;replace ao:=bF6 ao a;replace a6:=mS6 a6 a;replace Y:=oS6 Y a;replace z:=yS6 z a;clear a;clear U;have F:=kc5 m;have cc:=kc4 ao
     have A:∀ k,(Value.slice a2 m2 c2).ownBlock=some k→B1≤k:=fun k hk=>(Y.out.lt k hk).1
     have b1:ys.length≤1048576:=by omega
     go_wp2_with (first | (at_builtin;refine Hid.out ?_))
     refine zz ?_;refine wpList_append_D rfl _ _ rfl Tryz.underlying38 info_conM rfl (by decide) rfl rfl (Y.out.alloc _) (row_appG a3.out (by omega) (by omega) (cn_mem a6.out) rfl (by omega)) (by simp only [List.length_map,List.length_cons,List.length_nil];omega) (by simp only [List.length_map,List.length_cons,List.length_nil];omega) (by rw [World.size_alloc];omega) ?_;intro d0 b9 R a8;obtain ⟨Z,m9,c9,rfl⟩:=mem_slice R.mem
     have cq:bx.heap.size+1≤b9.heap.size:=by have h:=a8.size;rw [World.size_alloc] at h;exact h
     replace d:=gFx d a8 A;replace o:=gOx o a8 A;replace q:=gOx q a8 A;replace m:=gOx m a8 A;replace j:=gOx j a8 A
     replace z:=zz (memS_grown (memS_alloc z.out _) a8 (fun k hk=>by have :=A k hk;unfold Bt;omega))
     have Q:Hid (OwnD 0 B1 75 4 b9 (.slice Z m9 c9) ((ys++[y]).map Cn.row)):=zz (by rw [List.map_append];exact R);clear R a8 Y a3 a6 F cc ap ao;have F:=kc5 m;have u:=kc6 j
     go_wp2_with (fail)
     clear A b1;clear F u;generalize a:World.setCell b9 _ _=av;have bi:=sizeS1 a;replace d:=fN1 d a;replace o:=bF1 o a;replace q:=bF1 q a;replace m:=s5_2 m a;replace j:=bF1 j a;replace Q:=oS1 Q a;replace z:=yS1 z a;clear a;refine (isU G 0 6 wBar _ (refTok d.out H.out)).mono ?_;rintro _ a0 ⟨rfl,g⟩;replace o:=kB o g;replace q:=kB q g;replace m:=kB m g;replace j:=kB j g;replace Q:=kO Q g;replace z:=kY z g;replace d:=kF d g;have cl:=g.size;clear g;rw [az.out.is];have u:=kc6 j
     cases X with
     | zero=>rw [consM] at aa;cases aa
     | succ X=>
      rw [consM] at aa
      cases hc:isS ts sy 6 wBar with
      | false=>
       rw [if_neg (by rw [hc];decide)] at aa;cases aa;go_upto_region 12 with (fail);clear u;have zc:=kc6 o;have F:=kc5 m;have u:=kc6 j;have U:=chain5 (w.heap.size+1) (w.heap.size+2) J.heap.size D.heap.size a0.heap.size;refine wp_region_held_drew (S:=fun w'=>Far (fun b=>b=(w.heap.size+1)∨b=(w.heap.size+2)) (a0) w') (by kernel_rfl) (Far.of (below_drew _)) (fun cd=>?_);refine takeA 0 (v:=?_) rfl ?_ ?_;rotate_left
       · (intro w W;replace u:=Far.c6z u W;replace F:=Far.c5z F W;go_simp;try rfl)
       (try simp only [pu]);refine takeA 1 (v:=?_) rfl ?_ ?_;rotate_left
       · (intro w W;replace u:=Far.c6z u W;replace F:=Far.c5z F W;go_simp;try rfl)
       (try simp only [pu]);refine callA 2 rfl fun K r=>?_;go_simp;refine r.out _ _ ?_ (fun bp=>?_);· exact (by refine Far.trans ?_ (Far.of (below_drew _));(iterate 6 (refine Far.setCell (p:=⟨(w.heap.size+1),_,none⟩) ?_ (.inl rfl) _));exact Far.refl _ _)
       clear r K;clear zc F u;generalize a:World.setCell _ ⟨(w.heap.size+1),5,none⟩ _=bz at *;replace d:=fN6 d a;replace o:=bS6 o a;replace q:=bF6 q a;replace m:=bF6 m a;replace Q:=oS6 Q a;replace z:=yS6 z a;clear a;generalize a:(bz.drew)=an at *;replace d:=fD d a;replace o:=bD o a;replace q:=bD q a;replace m:=bD m a;replace Q:=oD Q a;replace z:=yD z a;clear a;clear U;have yc:=kc5 q;refine callA 3 rfl fun K r=>?_;go_simp;refine r.out _ _ ?_ (fun ce=>?_);· exact (by (iterate 5 (refine Far.setCell (p:=⟨(w.heap.size+2),_,none⟩) ?_ (.inr rfl) _));exact bp)
       clear r K;refine wpAnyH_done (by kernel_rfl) ?_ _;clear yc;generalize a:World.setCell _ ⟨(w.heap.size+2),4,none⟩ _=d1;replace d:=fN5 d a;replace o:=bF5 o a;replace q:=bS5 q a;replace m:=bF5 m a;replace Q:=oS5 Q a;replace z:=yS5 z a;clear a
       go_wp2_with (fail)
       have zc:=kc6 o;have yc:=kc5 q;refine bodyPost_ret (v:=.tuple #[.agg #[.slice aL n cap,.int .i64 (G.i:Int),.int .i64 0,.bool (!G.ok),.int .i64 (lB G.b),.int .i64 (cB G.b)],.agg #[.string nb.1,.slice a1 m1 c1,.slice Z m9 c9,.int .i64 (nowT ts s.i).l,.int .i64 (nowT ts s.i).c]]) (by clear d H o q m j Q z;simp [results,Tryz.results28,go_sem,zc,yc]) rfl ?_
       exact ⟨G,⟨nb.1,T,ys++[y],(nowT ts s.i).l,(nowT ts s.i).c⟩,_,_,_,_,_,_,rfl,refBelow d.out,az.out,memS_nw z.out (fun b g=>Nat.le_trans (by omega) g.1),memNw Q.out.mem (by omega),fun O=>by
        obtain ⟨h1,h2⟩:=bl.out O;subst h2
        rw [HN.out.2 h1,bb.out O,ba.out O]⟩
      | true=>
       rw [if_pos hc] at aa;have O:sy.ok=true:=(isS_parts hc).1;have ar:sy.i<ts.length:=isT_lt (isS_parts hc).2 (by decide);have al:=(conM_step ax.out).fwd O;obtain ⟨e2,_⟩:=ae.out.eq al.1;obtain ⟨e3,_⟩:=az.out.eq O;subst e2;subst e3
       have b1:ys.length+1+leftM ts G.next≤ts.length:=by
        have h1:leftM ts G.next≤leftM ts s2 - 2:=leftM_step (ts:=ts) ((conM_step ax.out).trans (step_next G));have h2:=leftM_ok (ts:=ts) al.1;have h4:s2.i+1≤G.i:=al.2
        omega
       have br:(G.i:Int)+1≤9223372036854775807:=by omega
       have a7:=zz al;clear O al
       go_wp2_with (fail)
       clear u;generalize a:World.setCell a0 _ _=an;have bu:=sizeS1 a;replace d:=fN1 d a;replace o:=bF1 o a;replace q:=bF1 q a;replace m:=bF1 m a;replace j:=s6_1 j a;replace Q:=oS1 Q a;replace z:=yS1 z a;clear a;replace j:Hid (Bo an D.heap.size 67 #[.slice aL n cap,.int .i64 (G.next.i:Int),.int .i64 0,.bool (!G.next.ok),.int .i64 (lB G.next.b),.int .i64 (cB G.next.b)]):=j
       go_roundw
       case rel=>exact ⟨ws++[y0],ys++[y],G.next,G.next,X,Z,m9,c9,aa,zz (.refl _),zz (fun h=>by rw [bb.out h,ba.out (isS_parts hc).1]),d,o,q,m,j,Q,z,(by rw [List.length_append,List.length_cons,List.length_nil];exact b1),by omega⟩
       case measure=>exact posU_lt ab.out j.out _ a7.out.1 fun _=>⟨by have h4:s2.i+1≤G.i:=a7.out.2;show s2.i<G.i+1;omega,by have h4:s2.i+1≤G.i:=a7.out.2;omega⟩)
end
end
end Go.Proofs.YtcoiagfeoonpbaaGreat
