/-
 The module reader's atom, typ and atoms: types. Under what they do with less fuel. No condition but how the reader and the tokens lie.
-/
import Derived.Test.YtcoiagfeoonpbaaGreatMp9
import Derived.Deep.Cut
import Derived.Test.YtcoiagfeoonpbaaGreatMp10
set_option maxHeartbeats 20000000
set_option maxRecDepth 100000
namespace Go.Proofs.YtcoiagfeoonpbaaGreat
section
open Go.RowKit
theorem info_tyM:(Tryz.prog.info? 83).map (fun i=>(i.zero,i.size,i.bytes))=some (some (.agg #[.int .i64 0,.string ⟨#[]⟩,.int .i64 0,.slice none 0 0]),4,56):=by kernel_rfl
theorem rows_len4 (l:List Tm):(Tm.rows l).length=l.length:=by rw [Tm.rows_eq,List.length_map]
theorem rows_app4 (a b:List Tm):Tm.rows (a++b)=Tm.rows a++Tm.rows b:=by rw [Tm.rows_eq,Tm.rows_eq,Tm.rows_eq,List.map_append]
theorem form2T {base:Nat} {e:TypeId} {w:World} {y:Value} {l:List Tm} (h:OwnD 0 base e 4 w y (Tm.rows l)):∃ a m c,y=.slice a m c∧m=l.length∧m≤c∧c≤9223372036854775807:=by
 obtain ⟨a,m,c,rfl⟩:=mem_slice h.mem;have :=h.mem.len;rw [rows_len4] at this;exact ⟨a,m,c,rfl,this.1.symm,this.2.1,this.2.2⟩
theorem starts_ltM {ts:List Tk} {s:MS} (h:startsS ts s=true):s.i<ts.length:=by
 unfold startsS at h;simp only [Bool.and_eq_true,Bool.or_eq_true,decide_eq_true_eq] at h
 rcases h.2 with a | a | a
 · exact now_lt (by rw [a];decide)
 · exact now_lt (by rw [a];decide)
 · exact isT_lt (isS_parts a).2 (by decide)
def TAns (ts:List Tk) (aL:Option Addr) (n cap q:Nat) (x:Tm) (s':MS) (deep:Nat) (W:World) (e:Ending) (w':World):Prop:=
 ∃ a m c,e=.returned (tmV x a m c)∧FarQ q W w'∧RS ts aL n cap q s' (deep:Int) w'∧Mem (Nw 0 W.heap.size w'.heap.size) w' (.s 4 (Tm.rows x.args)) (.slice a m c)
def LAns (ts:List Tk) (aL:Option Addr) (n cap q:Nat) (l:List Tm) (s':MS) (deep:Nat) (W:World) (e:Ending) (w':World):Prop:=
 ∃ a m c,e=.returned (.slice a m c)∧FarQ q W w'∧RS ts aL n cap q s' (deep:Int) w'∧Mem (Nw 0 W.heap.size w'.heap.size) w' (.s 4 (Tm.rows l)) (.slice a m c)
section
variable (ts:List Tk) (aL:Option Addr) (n cap q:Nat)
def ReadsAt (f:Nat):Prop:=∀ (s:MS) (deep:Nat) (x:Tm) (s':MS) (w:World),deep≤40→typeM ts f .atom deep s=some (x,s')→RS ts aL n cap q s (deep:Int) w→Calls Tryz.prog 126 #[.pointer (some ⟨q,0,none⟩)] w (TAns ts aL n cap q x s' deep w)
def ReadsTy (f:Nat):Prop:=∀ (s:MS) (deep:Nat) (x:Tm) (s':MS) (w:World),deep≤40∨deep=41∧s.ok=false→typeM ts f .typ deep s=some (x,s')→RS ts aL n cap q s (deep:Int) w→Calls Tryz.prog 145 #[.pointer (some ⟨q,0,none⟩)] w (TAns ts aL n cap q x s' deep w)
def ReadsAs (f:Nat):Prop:=∀ (s:MS) (deep:Nat) (x:Tm) (s':MS) (w:World),deep≤40→typeM ts f (.atoms []) deep s=some (x,s')→RS ts aL n cap q s (deep:Int) w→Calls Tryz.prog 92 #[.pointer (some ⟨q,0,none⟩)] w (LAns ts aL n cap q x.args s' deep w)
end
section
variable {ts:List Tk} {aL:Option Addr} {n cap q:Nat}
theorem atomM_reads {f:Nat} (Y:ReadsTy ts aL n cap q f):ReadsAt ts aL n cap q (f+1):=by
 intro s y x s' w hd E j;have b:=zz j;have a9:=j.lt;have g:=zz (FarB.refl q w.heap.size w);have ah:=j.sm;have a8:=j.len;clear j;rw [typeM] at E;go_enter Tryz.func126,Tryz.ntmps126;go_upto_region 1 with (fail);generalize a:World.alloc w _=w1;have ae:=sizeA a;replace b:=rpA b a;replace g:=fA g a;have d:=nB a (w.heap.size);clear a
 go_wp2_with (fail)
 refine (mnow_any _ b.out.bo b.out.mem).mono ?_;rintro _ r ⟨rfl,P⟩;have h:=FarQ.of (q:=q) P;replace d:=qB d h;replace g:=qF g h;have aa:=h.size;replace b:=krP b P;clear h P;simp only [tkV];have t:=kcR b;have o:=iq_0_0 q w r
 by_cases A:(nowT ts s.i).k=2
 ·
  rw [if_pos A] at E;cases E
  have Z:((nowT ts s.i).k==2)=true:=by simp [A]
  have a1:s.i<ts.length:=now_lt (by rw [A];decide)
  have a2:(s.i:Int)+1≤9223372036854775807:=by omega
  clear A;go_upto_region 5 with (fail);clear t;generalize a:World.setCell r _ _=U;have D:=sizeS1 a;replace b:=zz (b.out.setIE (k:=(s.i+1)) a (by omega));replace g:=zz (g.out.setQE a);replace d:=bF1 d a;clear a;generalize a:World.alloc U _=T;replace b:=rpA b a;replace g:=fA g a;replace d:=bA d a;have I:=nB a (r.heap.size);clear a;clear D;clear o;have F:=kc4 d;have S:=kc5 I
  go_wp2_with (fail)
  clear F S;generalize a:World.setCell _ ⟨w.heap.size,3,none⟩ _=K;replace b:=rpO4 b a;replace g:=fN4 g a;replace d:=bS4 d a;clear a;have C:=kc4 d;refine bodyPost_ret (v:=.agg #[.int .i64 1,.string (nowT ts s.i).s,.int .i64 0,.slice none 0 0]) (by clear b g d I;simp [results,Tryz.results126,go_sem,C]) rfl ?_;exact ⟨_,_,_,rfl,g.out.out,b.out,(.e none 0 4 (by decide))⟩
 by_cases G:(nowT ts s.i).k=3
 ·
  rw [if_neg A,if_pos G] at E;cases E
  have Z:((nowT ts s.i).k==2)=false:=by simp [A]
  have e3:((nowT ts s.i).k==3)=true:=by simp [G]
  have a1:s.i<ts.length:=now_lt (by rw [G];decide)
  have a2:(s.i:Int)+1≤9223372036854775807:=by omega
  clear G A;go_upto_region 8 with (fail);clear t;generalize a:World.setCell r _ _=U;have D:=sizeS1 a;replace b:=zz (b.out.setIE (k:=(s.i+1)) a (by omega));replace g:=zz (g.out.setQE a);replace d:=bF1 d a;clear a;generalize a:World.alloc U _=T;replace b:=rpA b a;replace g:=fA g a;replace d:=bA d a;have I:=nB a (r.heap.size);clear a;clear D;clear o;have F:=kc4 d;have S:=kc5 I
  go_wp2_with (fail)
  clear F S;generalize a:World.setCell _ ⟨w.heap.size,3,none⟩ _=K;replace b:=rpO4 b a;replace g:=fN4 g a;replace d:=bS4 d a;clear a;have C:=kc4 d;refine bodyPost_ret (v:=.agg #[.int .i64 2,.string (nowT ts s.i).s,.int .i64 0,.slice none 0 0]) (by clear b g d I;simp [results,Tryz.results126,go_sem,C]) rfl ?_;exact ⟨_,_,_,rfl,g.out.out,b.out,(.e none 0 4 (by decide))⟩
 rw [if_neg A,if_neg G] at E
 have Z:((nowT ts s.i).k==2)=false:=by simp [A]
 have e3:((nowT ts s.i).k==3)=false:=by simp [G]
 obtain ⟨p,M,a3⟩:=Option.map_eq_some_iff.1 E;cases a3;obtain ⟨z,sz⟩:=p
 by_cases L:y=40
 rotate_left
 ·
  rw [if_neg L] at M
  have e4:((y:Int)==40)=false:=by simp;omega
  go_upto_region 11 with (fail);clear t;generalize a:World.alloc r _=T;have a5:=sizeA a;replace b:=rpA b a;replace g:=fA g a;replace d:=bA d a;clear a;clear o
  go_wp2_with (fail)
  refine (mtake_any 6 wOpen _ b.out (by decide)).mono ?_;rintro _ K ⟨rfl,h,j⟩;replace d:=qB d h;replace g:=qF g h;have a4:=h.size;replace b:=zz j;clear h j;have t:=kcR b;go_upto_region 13 with (fail);clear t;generalize a:World.setCell K _ _=V;have ai:=sizeS1 a;replace b:=zz (b.out.setDE (k:=(((y+1:Nat):Int))) a (by omega));replace g:=zz (g.out.setQE a);replace d:=bF1 d a;clear a;have o:=iq_0_0_0 q w r V;have hZ:=iq_0_0_0 q w r K
  go_wp2_with (fail)
  refine (Y _ (y+1) z sz _ (by omega) M b.out).mono ?_;rintro _ H ⟨N,R,O,rfl,h,j,J⟩;replace d:=qB d h;replace g:=qF g h;have ac:=h.size;replace b:=zz j;have m:=zz J;clear h j J;simp only [tmV];clear o hZ;have t:=kcR b;have o:=iq_0_0_0 q w r H;go_upto_region 15 with (fail);clear t;generalize a:World.setCell H _ _=a6;have D:=sizeS1 a;replace b:=zz (b.out.setDE (k:=((y:Int))) a (by omega));replace g:=zz (g.out.setQE a);replace d:=bF1 d a;replace m:=mS1 m a;clear a;generalize a:World.alloc a6 _=B;have Q:=sizeA a;replace b:=rpA b a;replace g:=fA g a;replace d:=bA d a;replace m:=mA m a;have u:=nB a (H.heap.size);clear a
  have af:B.heap.size=H.heap.size+1:=by omega
  clear D Q;clear o;have o:=iq_0_0_0_0 q w r H B
  go_wp2_with (fail)
  refine (mtake_any 6 wClose _ b.out (by decide)).mono ?_;rintro _ W ⟨rfl,h,j⟩;replace d:=qB d h;replace u:=qB u h;replace m:=qM m h;replace g:=qF g h;replace b:=zz j;clear h j;clear o;have F:=kc4 d;have X:=kc4 u
  go_wp2_with (fail)
  clear F X;generalize a:World.setCell _ ⟨w.heap.size,3,none⟩ _=w9;replace b:=rpO4 b a;replace g:=fN4 g a;replace d:=bS4 d a;replace m:=mS4 m a;clear a;have C:=kc4 d;refine bodyPost_ret (v:=.agg #[.int .i64 z.kind,.string z.name,.int .i64 z.n,.slice N R O]) (by clear b g d u m;simp [results,Tryz.results126,go_sem,C]) rfl ?_;exact ⟨_,_,_,rfl,g.out.out,b.out,memNw m.out (by omega)⟩
 rw [if_pos L] at M
 have e4:((y:Int)==40)=true:=by simp;omega
 have a0:=zz L;clear L;go_upto_region 10 with (fail);clear t;generalize a:World.alloc r _=T;have a5:=sizeA a;replace b:=rpA b a;replace g:=fA g a;replace d:=bA d a;clear a;clear o
 go_wp2_with (fail)
 refine (mfail_any _ b.out).mono ?_;rintro _ K ⟨rfl,h,j⟩;replace d:=qB d h;replace g:=qF g h;have a4:=h.size;replace b:=zz j;clear h j
 go_wp2_with (fail)
 refine (mtake_any 6 wOpen _ b.out (by decide)).mono ?_;rintro _ V ⟨rfl,h,j⟩;replace d:=qB d h;replace g:=qF g h;have ab:=h.size;replace b:=zz j;clear h j;have t:=kcR b;go_upto_region 13 with (fail);clear t;generalize a:World.setCell V _ _=H;have aj:=sizeS1 a;replace b:=zz (b.out.setDE (k:=(((y+1:Nat):Int))) a (by omega));replace g:=zz (g.out.setQE a);replace d:=bF1 d a;clear a
 go_wp2_with (fail)
 refine (Y _ (y+1) z sz _ (.inr ⟨by have :=a0.out;omega,(step_take (ts:=ts) _).bad (fail_notok s)⟩) M b.out).mono ?_
 rintro _ B ⟨N,R,O,rfl,h,j,J⟩;replace d:=qB d h;replace g:=qF g h;have ad:=h.size;replace b:=zz j;have m:=zz J;clear h j J;simp only [tmV];have t:=kcR b;have o:=iq_0_0_0 q w r B;go_upto_region 15 with (fail);clear t;generalize a:World.setCell B _ _=a7;have D:=sizeS1 a;replace b:=zz (b.out.setDE (k:=((y:Int))) a (by omega));replace g:=zz (g.out.setQE a);replace d:=bF1 d a;replace m:=mS1 m a;clear a;generalize a:World.alloc a7 _=W;have Q:=sizeA a;replace b:=rpA b a;replace g:=fA g a;replace d:=bA d a;replace m:=mA m a;have u:=nB a (B.heap.size);clear a
 have ag:W.heap.size=B.heap.size+1:=by omega
 clear D Q;clear o;have o:=iq_0_0_0_0 q w r B W
 go_wp2_with (fail)
 refine (mtake_any 6 wClose _ b.out (by decide)).mono ?_;rintro _ w9 ⟨rfl,h,j⟩;replace d:=qB d h;replace u:=qB u h;replace m:=qM m h;replace g:=qF g h;replace b:=zz j;clear h j;clear o;have F:=kc4 d;have X:=kc4 u
 go_wp2_with (fail)
 clear F X;generalize a:World.setCell _ ⟨w.heap.size,3,none⟩ _=ak;replace b:=rpO4 b a;replace g:=fN4 g a;replace d:=bS4 d a;replace m:=mS4 m a;clear a;have C:=kc4 d;refine bodyPost_ret (v:=.agg #[.int .i64 z.kind,.string z.name,.int .i64 z.n,.slice N R O]) (by clear b g d u m;simp [results,Tryz.results126,go_sem,C]) rfl ?_;exact ⟨_,_,_,rfl,g.out.out,b.out,memNw m.out (by omega)⟩
theorem typM_reads {f:Nat} (T:ReadsAt ts aL n cap q f) (U:ReadsAs ts aL n cap q f):ReadsTy ts aL n cap q (f+1):=by
 intro s M x s' w X t o;have d:=zz o;have ab:=o.lt;have j:=zz (FarB.refl q w.heap.size w);have ae:=o.sm;have a8:=o.len;clear o;rw [typeM] at t;go_enter Tryz.func145,Tryz.ntmps145;go_upto_region 1 with (fail);generalize a:World.alloc w _=w1;have ad:=sizeA a;replace d:=rpA d a;replace j:=fA j a;have g:=nB a (w.heap.size);clear a;have C:=kc4 g
 go_wp2_with (fail)
 refine (mok_any _ d.out).mono ?_;rintro _ _ ⟨rfl,rfl⟩
 by_cases H:s.ok=false
 ·
  rw [if_pos H] at t;cases t;rw [H]
  go_wp2_with (fail)
  clear C;generalize a:World.setCell _ ⟨w.heap.size,3,none⟩ _=y;replace d:=rpO4 d a;replace j:=fN4 j a;replace g:=bS4 g a;clear a;have E:=kc4 g;refine bodyPost_ret (v:=.agg #[.int .i64 0,.string ⟨#[]⟩,.int .i64 0,.slice none 0 0]) (by clear d j g;simp [results,Tryz.results145,go_sem,E]) rfl ?_;exact ⟨_,_,_,rfl,j.out.out,d.out,(.e none 0 4 (by decide))⟩
 rw [if_neg H] at t
 have Y:s.ok=true:=by simpa using H
 have Q:M≤40:=by rcases X with h | h;exact h;exact absurd h.2 H
 rw [Y]
 go_wp2_with (fail)
 clear C;refine (mnow_any _ d.out.bo d.out.mem).mono ?_;rintro _ y ⟨rfl,N⟩;have m:=FarQ.of (q:=q) N;replace g:=qB g m;replace j:=qF j m;have ac:=m.size;replace d:=krP d N;clear m N;simp only [tkV];have R:=kcR d;have I:=iq_0_0 q w y
 by_cases A:(nowT ts s.i).k=3
 rotate_left
 ·
  rw [if_neg A] at t
  have V:((nowT ts s.i).k==3)=false:=by simp [A]
  go_upto_region 7 with (fail);clear R;generalize a:World.alloc y _=D;have a3:=sizeA a;replace d:=rpA d a;replace j:=fA j a;replace g:=bA g a;clear a;clear I
  go_wp2_with (fail)
  refine (T s M x s' _ Q t d.out).mono ?_;rintro _ w4 ⟨J,O,L,rfl,m,o,G⟩;replace g:=qB g m;replace j:=qF j m;replace d:=zz o;have r:=zz G;clear m o G;simp only [tmV];have C:=kc4 g
  go_wp2_with (fail)
  clear C;generalize a:World.setCell _ ⟨w.heap.size,3,none⟩ _=w5;replace d:=rpO4 d a;replace j:=fN4 j a;replace g:=bS4 g a;replace r:=mS4 r a;clear a;have E:=kc4 g;refine bodyPost_ret (v:=.agg #[.int .i64 x.kind,.string x.name,.int .i64 x.n,.slice J O L]) (by clear d j g r;simp [results,Tryz.results145,go_sem,E]) rfl ?_;exact ⟨_,_,_,rfl,j.out.out,d.out,memNw r.out (by omega)⟩
 rw [if_pos A] at t
 have V:((nowT ts s.i).k==3)=true:=by simp [A]
 have a9:s.i<ts.length:=now_lt (by rw [A];decide)
 have aa:(s.i:Int)+1≤9223372036854775807:=by omega
 clear A;obtain ⟨p,a1,a2⟩:=Option.map_eq_some_iff.1 t;cases a2;obtain ⟨z,sz⟩:=p;go_upto_region 6 with (fail);clear R;generalize a:World.setCell y _ _=a4;have Z:=sizeS1 a;replace d:=zz (d.out.setIE (k:=(s.i+1)) a (by omega));replace j:=zz (j.out.setQE a);replace g:=bF1 g a;clear a;generalize a:World.alloc a4 _=D;have a0:=sizeA a;replace d:=rpA d a;replace j:=fA j a;replace g:=bA g a;have P:=nB a (y.heap.size);clear a
 have a3:D.heap.size=y.heap.size+1:=by omega
 clear Z a0;clear I;have u:=kc5 P;have I:=iq_0_0_0 q w y D
 go_wp2_with (fail)
 refine wp_region_held_drew (S:=fun w'=>Far (fun b=>b=q∨b=w.heap.size) (D) w') (by kernel_rfl) (Far.of (below_drew _)) (fun a6=>?_);refine takeA 0 (v:=?_) rfl ?_ ?_;rotate_left
 · (intro w B;replace u:=Far.c5z u B;go_simp;try rfl)
 (try simp only [pu]);refine takeA 1 (v:=?_) rfl ?_ ?_;rotate_left
 · (intro w B;replace u:=Far.c5z u B;go_simp;try rfl)
 (try simp only [pu]);refine takeA 2 (v:=?_) rfl ?_ ?_;rotate_left
 · (intro w B;replace u:=Far.c5z u B;go_simp;try rfl)
 (try simp only [pu]);clear u;refine callA 3 rfl fun K F=>?_;go_simp;refine (U s.next M z sz _ Q a1 d.out.drew).mono ?_;rintro e a5 ⟨J,O,L,rfl,m,o,G⟩;replace m:FarQ q D a5:=(FarQ.of (below_drew _)).trans m;replace g:=qB g m;replace j:=qF j m;replace d:=zz o;have r:Hid (Mem (Nw 0 D.heap.size _) _ _ _):=zz G;clear o G;go_simp;refine F.out _ _ ?_ (fun W=>?_);· exact (Far.mono m (fun b e=>.inl e))
 clear F K;refine takeA 4 (v:=?_) rfl ?_ ?_;rotate_left
 · (intro w B;go_simp;try rfl)
 (try simp only [pu]);clear I;have C:=kc4 g;refine callA 5 rfl fun K F=>?_;go_simp;refine F.out _ _ ?_ (fun a7=>?_);· exact (by (iterate 4 (refine Far.setCell (p:=⟨w.heap.size,_,none⟩) ?_ (.inr rfl) _));exact W)
 clear F K;refine wpAnyH_done (by kernel_rfl) ?_ _;clear C;generalize a:World.setCell _ ⟨w.heap.size,3,none⟩ _=w4;replace d:=rpO4 d a;replace j:=fN4 j a;replace g:=bS4 g a;replace r:=mS4 r a;clear a
 go_wp2_with (fail)
 have E:=kc4 g;refine bodyPost_ret (v:=.agg #[.int .i64 2,.string (nowT ts s.i).s,.int .i64 0,.slice J O L]) (by clear d j g P r;simp [results,Tryz.results145,go_sem,E]) rfl ?_;exact ⟨_,_,_,rfl,j.out.out,d.out,memNw r.out (by omega)⟩
theorem atomsM_reads (f:Nat) (O:∀ g,g<f→ReadsAt ts aL n cap q g):ReadsAs ts aL n cap q f:=by
 intro L A x s' w U a m;have b:=zz m;have a5:=m.lt;have d:=zz (FarB.refl q w.heap.size w);have a9:=m.sm;have a0:=m.len;clear m;go_enter Tryz.func92,Tryz.ntmps92
 go_wp2_with (fail)
 go_loopw [3] (fun v wr=>∃ (l:List Tm) (s:MS) (g:Nat),typeM ts g (.atoms l) A s=some (x,s')∧g≤f∧Hid (RS ts aL n cap q s (A:Int) wr)∧Hid (FarB q w.heap.size w wr)∧Hid (OwnD 0 w.heap.size 83 4 wr v (Tm.rows l))∧(l.length:Int)+leftM ts s≤ts.length∧w.heap.size≤wr.heap.size) (fun v _=>ts.length+1 - lenV v)
 case atStart=>exact ⟨[],L,f,a,Nat.le_refl _,b,d,zz (OwnD.nil _ _ _ _ _),(by have :=leftM_le (ts:=ts) L;simp only [List.length_nil];omega),Nat.le_refl _⟩
 case round=>
  clear b d a;obtain ⟨l,s,g,a,hg,b,d,e,G,aa⟩:=hrel;obtain ⟨S,m1,T,rfl,I,a4,X⟩:=form2T e.out;have y:=zz I;clear I X
  go_wp2_with (fail)
  refine (mstarts_any _ b.out).mono ?_;rintro _ w1 ⟨rfl,B⟩;have j:=FarQ.of (q:=q) B;replace e:=qO e j;replace d:=qF d j;have a6:=j.size;replace b:=krP b B;clear j B
  cases g with
  | zero=>rw [typeM] at a;cases a
  | succ g=>
   rw [typeM] at a
   cases hst:startsS ts s with
   | false=>
    simp only [hst,Bool.false_eq_true,if_false] at a;cases a
    go_wp2_with (fail)
    go_ret;exact ⟨_,_,_,rfl,d.out.out,b.out,memNw e.out.mem (by omega)⟩
   | true=>
    simp only [hst,if_true] at a;obtain ⟨p,D,Z⟩:=Option.bind_eq_some_iff.1 a;obtain ⟨z,sz⟩:=p;have t:=zz hst;clear hst a
    go_wp2_with (fail)
    have R:=e;refine (O g (by omega) s A z sz _ U D b.out).mono ?_;rintro _ M ⟨az,mz,cz,rfl,j,m,H⟩;replace e:=qO e j;replace d:=qF d j;have a7:=j.size;replace b:=zz m;have P:=zz H;clear j m H;simp only [tmV];have hI:=chain2 q M.heap.size
    have a3:l.length+1≤1048576:=by
     have o:=leftM_step (ts:=ts) (typeM_step _ _ _ _ _ _ D)
     have C:s.ok=true:=by have h:=t.out;unfold startsS at h;rw [Bool.and_eq_true] at h;exact h.1
     have W:s.i<ts.length:=starts_ltM t.out;rw [leftM_ok C] at G o;simp only [wMt] at o
     omega
    go_wp2_with (first | (at_builtin;refine wpList_append_D rfl _ _ rfl Tryz.underlying73 info_tyM rfl (by decide) rfl rfl (e.out.alloc _) (row_app R.out (by omega) (by omega) (tm_mem P.out) rfl) (by have :=y.out;simp only [rows_len4,List.length_cons,List.length_nil];omega) (by have :=y.out;simp only [rows_len4,List.length_cons,List.length_nil];omega) (by rw [World.size_alloc];omega) ?_;intro v9 N J F;have Q:=zz J;clear J;have u:=zz F;clear F))
    have K:∀ k,(Value.slice S m1 T).ownBlock=some k→w.heap.size≤k:=fun k r=>(e.out.lt k r).1
    have E:Hid (OwnD 0 w.heap.size 83 4 N v9 (Tm.rows (l++[z]))):=zz (by rw [rows_app4];exact Q.out);obtain ⟨a2,m2,c2,rfl,Y,_,_⟩:=form2T E.out;rw [List.length_append,List.length_cons,List.length_nil] at Y
    have a8:M.heap.size+1≤N.heap.size:=by have h:=u.out.size;rw [World.size_alloc] at h;exact h
    have V:((l++[z]).length:Int)+leftM ts sz≤ts.length:=by
     have o:=leftM_step (ts:=ts) (typeM_step _ _ _ _ _ _ D)
     have C:s.ok=true:=by have h:=t.out;unfold startsS at h;rw [Bool.and_eq_true] at h;exact h.1
     have W:s.i<ts.length:=starts_ltM t.out;rw [leftM_ok C] at G o;simp only [wMt] at o;rw [List.length_append,List.length_cons,List.length_nil]
     omega
    go_roundw
    case rel=>exact ⟨l++[z],sz,g,Z,by omega,zz ((b.out.alloc _).grown u.out fun k r=>by have :=K k r;omega),zz ((d.out.alloc _).grown u.out fun k r=>by have :=K k r;omega),E,V,by omega⟩
    case measure=>have :=y.out;simp only [lenV];omega
end
theorem allT (ts:List Tk) (aL:Option Addr) (n cap q:Nat):∀ F g,g≤F→ReadsAt ts aL n cap q g∧ReadsTy ts aL n cap q g∧ReadsAs ts aL n cap q g
  | 0, g, h => by
    obtain rfl:g=0:=by omega
    exact ⟨fun s deep x s' w _ hr=>(by rw [typeM] at hr;cases hr),fun s deep x s' w _ hr=>(by rw [typeM] at hr;cases hr),fun s deep x s' w _ hr=>(by rw [typeM] at hr;cases hr)⟩
  | F + 1, g, h => by
    by_cases e:g=F+1
    · subst e
      have ih:=allT ts aL n cap q F;exact ⟨atomM_reads (ih F (Nat.le_refl _)).2.1,typM_reads (ih F (Nat.le_refl _)).1 (ih F (Nat.le_refl _)).2.2,atomsM_reads (F+1) fun g hg=>(ih g (by omega)).1⟩
    · exact allT ts aL n cap q F g (by omega)
end
section
open Go.RowKit
def CAns (ts:List Tk) (aL:Option Addr) (n cap q:Nat) (x:Cn) (s':MS) (W:World) (e:Ending) (w':World):Prop:=
 ∃ a m c,e=.returned (cnV x a m c)∧FarQ q W w'∧RS ts aL n cap q s' ((0:Nat):Int) w'∧Mem (Nw 0 W.heap.size w'.heap.size) w' (.s 4 (Tm.rows x.types)) (.slice a m c)
section
variable {ts:List Tk} {aL:Option Addr} {n cap q:Nat}
attribute [local go_sem] tk_pos
theorem con_any {f:Nat} {s M:MS} {x:Cn} (w:World) (L:conM ts f s=some (x,M)) (r:RS ts aL n cap q s ((0:Nat):Int) w):Calls Tryz.prog 56 #[.pointer (some ⟨q,0,none⟩)] w (CAns ts aL n cap q x M w):=by
 have N:=(allT ts aL n cap q f f (Nat.le_refl _)).2.2;have a:=zz r;have a2:=r.lt;have j:=zz (FarB.refl q w.heap.size w);clear r;unfold conM at L;obtain ⟨p,U,V⟩:=Option.map_eq_some_iff.1 L;cases V;obtain ⟨z,sz⟩:=p;go_enter Tryz.func56,Tryz.ntmps56;go_upto_region 1 with (fail);generalize d:World.alloc w _=Y;have a4:=sizeA d;replace a:=rpA a d;replace j:=fA j d;have h:=nB d (w.heap.size);clear d;have t:=kcR a;have u:=kc4 h;have B:=iq_0_0 q w Y;have G:=iq_01 q w
 go_wp2_with (fail)
 clear t u;refine (mnow_any _ a.out.bo a.out.mem).mono ?_;rintro _ A ⟨rfl,H⟩;have g:=FarQ.of (q:=q) H;replace h:=qB h g;replace j:=qF j g;have a3:=g.size;replace a:=krP a H;clear g H;simp only [tkV];clear B G;have t:=kcR a;have u:=kc4 h;have B:=iq_0_0 q w A;go_upto_region 2 with (fail);clear t u;generalize d:World.alloc A _=E;have a5:=sizeA d;replace a:=rpA a d;replace j:=fA j d;replace h:=bA h d;have o:=nB d (A.heap.size);clear d;clear B;have t:=kcR a;have u:=kc4 h;have m:=kc2 o;have B:=iq_0_0_0 q w A E;have G:=iq_0_01 q w A;refine wp_region_held_drew (S:=fun X=>Far (fun b=>b=q∨b=w.heap.size) (E) X) (by kernel_rfl) (Far.of (below_drew _)) (fun a0=>?_);refine takeA 0 (v:=?_) rfl ?_ ?_;rotate_left
 · (intro w C;replace m:=Far.c2z m C;go_simp;try rfl)
 (try simp only [pu]);refine takeA 2 (v:=?_) rfl ?_ ?_;rotate_left
 · (intro w C;replace m:=Far.c2z m C;go_simp;try rfl)
 (try simp only [pu]);refine takeA 4 (v:=?_) rfl ?_ ?_;rotate_left
 · (intro w C;replace m:=Far.c2z m C;go_simp;try rfl)
 (try simp only [pu]);clear t u m;refine callA 1 rfl fun K y=>?_;go_simp;refine (mname_any 3 _ a.out.drew (by decide)).mono ?_;rintro e F ⟨rfl,g,r⟩;have a6:E.heap.size≤F.heap.size:=g.size;replace g:FarQ q E F:=(FarQ.of (below_drew _)).trans g;replace h:=qB h g;replace o:=qB o g;replace j:=qF j g;replace a:=zz r;clear r;go_simp;refine y.out _ _ ?_ (fun R=>?_);· exact (Far.mono g (fun b e=>.inl e))
 clear y K;refine callA 3 rfl fun K y=>?_;go_simp;refine (N (nameS ts s 3).2 0 z sz _ (by decide) U a.out).mono ?_;rintro e I ⟨O,W,P,rfl,g,r,J⟩;have a7:F.heap.size≤I.heap.size:=g.size;replace h:=qB h g;replace o:=qB o g;replace j:=qF j g;replace a:=zz r;have D:Hid (Mem (Nw 0 F.heap.size _) _ _ _):=zz J;clear J;clear r;go_simp;refine y.out _ _ ?_ (fun T=>?_);· exact Far.trans R (Far.mono g (fun b e=>.inl e))
 clear y K;refine takeA 5 (v:=?_) rfl ?_ ?_;rotate_left
 · (intro w C;go_simp;try rfl)
 (try simp only [pu]);have t:=kcR a;have u:=kc4 h;have m:=kc2 o;have B:=iq_0_0_0 q w A I;refine callA 6 rfl fun K y=>?_;go_simp;refine y.out _ _ ?_ (fun a1=>?_);· exact (by (iterate 4 (refine Far.setCell (p:=⟨w.heap.size,_,none⟩) ?_ (.inr rfl) _));exact T)
 clear y K;refine wpAnyH_done (by kernel_rfl) ?_ _;clear t u m;generalize d:World.setCell _ ⟨w.heap.size,3,none⟩ _=Z;have a8:=sizeS4 d;replace a:=rpO4 a d;replace j:=fN4 j d;replace h:=bS4 h d;replace o:=bF4 o d;replace D:=mS4 D d;clear d;clear B;have t:=kcR a;have u:=kc4 h;have m:=kc2 o;have B:=iq_0_0_0 q w A Z;have G:=iq_0_0_0 q w A I
 go_wp2_with (fail)
 clear t u m;have Q:=kc4 h;refine bodyPost_ret (v:=.agg #[.string (nameS ts s 3).1,.slice O W P,.int .i64 (nowT ts s.i).l,.int .i64 (nowT ts s.i).c]) (by clear a j h o D;simp [results,Tryz.results56,go_sem,Q]) rfl ?_;exact ⟨_,_,_,rfl,j.out.out,a.out,memNw D.out (by omega)⟩
end
end
section
open Go.RowKit
theorem info_strM:(Tryz.prog.info? 9).map (fun i=>(i.zero,i.size,i.bytes))=some (some (.string ⟨#[]⟩),1,16):=by kernel_rfl
theorem info_conM:(Tryz.prog.info? 75).map (fun i=>(i.zero,i.size,i.bytes))=some (some (.agg #[.string ⟨#[]⟩,.slice none 0 0,.int .i64 0,.int .i64 0]),4,56):=by kernel_rfl
theorem qYB {q a b:Nat} {x:At} {y:Value} {w d:World} (h:Hid (Mem (NwS (Bt a b) w.heap.size) w x y)) (g:FarQ q w d) (i:q<a:=by omega):Hid (Mem (NwS (Bt a b) d.heap.size) d x y):=
  zz (memS_far h.out g fun b f e=>by have :b=q:=e;unfold Bt at f;omega)
theorem ownD_new {w d:World} {base b sz:Nat} {t:TypeId} {r:List At} {a:Array Value} (e:w.alloc (.cells a t)=d) (h:All2 (Mem (Nw 0 base w.heap.size) w) r a.toList) (i:a.toList.length=sz) (f:base≤w.heap.size) (g:w.heap.size=b):Hid (OwnD 0 base t sz d (.slice (some ⟨b,0,none⟩) 1 1) [r]):=zz (e ▸ g ▸ row_new h i f)
def posM (L q:Nat) (w:World):Nat:=
  match w.cell? ⟨q,3,none⟩,w.cell? ⟨q,1,none⟩ with
  | some (.int _ e),some (.int _ i)=>if e=0 then (L - i.toNat)+2 else 0
  | _,_=>0
section
variable {ts:List Tk} {aL:Option Addr} {n cap q:Nat}
theorem posM_eq {s:MS} {d:Int} {w:World} (h:RS ts aL n cap q s d w) (L:Nat):posM L q w=if s.ok=true then (L - s.i)+2 else 0:=by
  have c:=kcR (zz h);unfold posM;rw [c.2.1,c.2.2.2.1];simp only;have e:=ok_eB s
  cases hok:s.ok with
  | true=>rw [hok] at e;rw [if_pos (by simpa using e),if_pos rfl];simp
  | false=>rw [hok] at e;rw [if_neg (by simpa using e)];rfl
theorem posM_step {s a:MS} {d f:Int} {w e:World} (h:RS ts aL n cap q s d w) (g:RS ts aL n cap q a f e) (L:Nat) (o:Step 1 s a) (m:s.ok=true) (j:a.ok=true→s.i<L):posM L q e<posM L q w:=by
  rw [posM_eq h,posM_eq g,if_pos m]
  split
  · rename_i b
    have p:=(o.fwd b).2;have r:=j b
    omega
  · omega
def DAns (ts:List Tk) (aL:Option Addr) (n cap q:Nat) (x:Da) (s':MS) (W:World) (e:Ending) (w':World):Prop:=
  ∃ a m c a' m' c',e=.returned (daV x a m c a' m' c')∧FarQ q W w'∧RS ts aL n cap q s' ((0:Nat):Int) w'∧Mem (Nw 0 W.heap.size w'.heap.size) w' (.s 1 (x.vars.map strRow)) (.slice a m c)∧Mem (Nw 0 W.heap.size w'.heap.size) w' (.s 4 (x.cons.map Cn.row)) (.slice a' m' c')
theorem tk_kindM (k n l c:Int) (s:ByteArray) (w:World):Sem.run Tryz.prog (Instr.field 53 (.agg #[.int .i64 k,.string s,.int .i64 n,.int .i64 l,.int .i64 c]) 0) w=.ok (.int .i64 k) w:=by kernel_rfl
attribute [local go_sem] tk_pos tk_kindM
theorem data_any {f:Nat} {s s':MS} {x:Da} (w:World) (hr:dataM ts f s=some (x,s')) (I:RS ts aL n cap q s ((0:Nat):Int) w):Calls Tryz.prog 22 #[.pointer (some ⟨q,0,none⟩)] w (DAns ts aL n cap q x s' w):=by
 have d:=zz I;have bq:=I.lt;have p:=zz (FarB.refl q w.heap.size w);have c6:=I.sm;have bp:=I.len;clear I;unfold dataM at hr;obtain ⟨V,L,hr⟩:=Option.bind_eq_some_iff.1 hr;obtain ⟨C,b8,hr⟩:=Option.bind_eq_some_iff.1 hr;obtain ⟨E,b9,bg⟩:=Option.map_eq_some_iff.1 hr;cases bg;obtain ⟨vs,sv⟩:=V;obtain ⟨cn,sc⟩:=C;obtain ⟨cs,se⟩:=E;have H3:=zz b9;have H2:=zz b8;clear hr b9 b8;go_enter Tryz.func22,Tryz.ntmps22;go_upto_region 1 with (fail);generalize a:World.alloc w _=w1;have bw:=sizeA a;replace d:=rpA d a;replace p:=fA p a;have o:=nB a (w.heap.size);clear a
 go_wp2_with (fail)
 refine (mnow_any _ d.out.bo d.out.mem).mono ?_;rintro _ A ⟨rfl,Z⟩;have g:=FarQ.of (q:=q) Z;replace o:=qB o g;replace p:=qF p g;have bt:=g.size;replace d:=krP d Z;clear g Z;simp only [tkV];go_upto_region 2 with (fail);generalize a:World.alloc A _=w3;have bz:=sizeA a;replace d:=rpA d a;replace p:=fA p a;replace o:=bA o a;have j:=nB a (A.heap.size);clear a;have B:=iq_0_0_0 q w A w3
 go_wp2_with (fail)
 refine (mtake_any 5 wData _ d.out (by decide)).mono ?_;rintro _ w4 ⟨rfl,g,I⟩;replace o:=qB o g;replace j:=qB j g;replace p:=qF p g;have bu:=g.size;replace d:=zz I;clear g I;clear B;have B:=iq_0_0_0 q w A w4
 go_wp2_with (fail)
 refine (mname_any 3 _ d.out (by decide)).mono ?_;rintro _ w5 ⟨rfl,g,I⟩;replace o:=qB o g;replace j:=qB j g;replace p:=qF p g;have bv:=g.size;replace d:=zz I;clear g I;clear B;have G:=kc5 j;have B:=iq_0_0_0 q w A w5
 go_wp2_with (fail)
 clear G;generalize a:World.setCell w5 _ _=w6;have cb:=sizeS1 a;replace d:=rpO1 d a;replace p:=fN1 p a;replace o:=bF1 o a;replace j:=s5_0 j a;clear a;clear B
 have bn:w.heap.size<w6.heap.size∧A.heap.size<w6.heap.size:=by constructor <;> omega
 generalize bm:w6.heap.size=B0 at *
 go_loopw [] (fun wr=>∃ (J:List ByteArray) (u:MS) (X:Nat) (a1:Option Addr) (m1 c1:Nat),varsM ts X J u=some (vs,sv)∧Hid (RS ts aL n cap q u ((0:Nat):Int) wr)∧Hid (FarB q w.heap.size w wr)∧Hid (Bo wr w.heap.size 40 #[.string ⟨#[]⟩,.slice none 0 0,.slice none 0 0,.int .i64 0,.int .i64 0])∧Hid (Bo wr A.heap.size 40 #[.string (nameS ts (takeS ts s 5 wData) 3).1,.slice a1 m1 c1,.slice none 0 0,.int .i64 (nowT ts s.i).l,.int .i64 (nowT ts s.i).c])∧Hid (OwnD 0 B0 9 1 wr (.slice a1 m1 c1) (J.map strRow))∧J.length+leftM ts u≤ts.length∧B0≤wr.heap.size) (fun wr=>posM ts.length q wr)
 case atStart=>exact ⟨[],_,f,none,0,0,L,d,p,o,j,zz (OwnD.nil _ _ _ _ _),(by have :=leftM_le (ts:=ts) (nameS ts (takeS ts s 5 wData) 3).2;simp only [List.length_nil];omega),by omega⟩
 case round=>
  clear d p o j L;obtain ⟨J,u,X,a1,m1,c1,L,d,p,o,j,W,a7,bd⟩:=hrel;have a5:=d;have B:=iq_0_0_0 q w A wr
  go_wp2_with (fail)
  refine (mok_any _ d.out).mono ?_;rintro _ _ ⟨rfl,rfl⟩
  cases X with
  | zero=>rw [varsM] at L;cases L
  | succ X=>
   rw [varsM] at L
   by_cases hc:(u.ok && decide ((nowT ts u.i).k=2))=true
   ·
    rw [if_pos hc] at L
    have aa:u.ok=true:=by rw [Bool.and_eq_true] at hc;exact hc.1
    have av:(nowT ts u.i).k=2:=by rw [Bool.and_eq_true,decide_eq_true_eq] at hc;exact hc.2
    have ag:u.i<ts.length:=now_lt (by rw [av];decide);rw [aa];have N:=zz aa;clear aa hc
    go_wp2_with (fail)
    refine (mnow_any _ d.out.bo d.out.mem).mono ?_;rintro _ R ⟨rfl,Z⟩;have g:=FarQ.of (q:=q) Z;replace o:=qB o g;replace j:=qB j g;replace W:=qO W g;replace p:=qF p g;have ba:=g.size;replace d:=krP d Z;clear g Z;simp only [tkV]
    have e2:((nowT ts u.i).k==2)=true:=by simp [av]
    have HK:=zz av;clear av;clear B;have B:=iq_0_0_0 q w A R;go_upto_region 5 with (fail)
    have ax:nameS ts u 2=((nowT ts u.i).s,u.next):=by unfold nameS;rw [if_pos HK.out]
    have b7:J.length+1≤1048576:=by rw [leftM_ok N.out] at a7;omega
    clear B;have G:=kc5 j;have B:=iq_0_0_0 q w A R;refine wp_region_held_drew (S:=fun w'=>Far (fun b=>b=q∨b=A.heap.size∨(Value.slice a1 m1 c1).ownBlock=some b) (R) w') (by kernel_rfl) (Far.of (below_drew _)) (fun be=>?_);refine takeA 0 (v:=?_) rfl ?_ ?_;rotate_left
    · (intro w a6;go_simp;try rfl)
    (try simp only [pu]);refine takeA 2 (v:=?_) rfl ?_ ?_;rotate_left
    · (intro w a6;go_simp;try rfl)
    (try simp only [pu]);refine twoL 1 3 rfl rfl (by kernel_rfl) (by rfl) (by rfl) (fun K m=>?_) (fun K m=>?_)
    ·
     go_simp;refine m.out _ _ ?_ (fun az=>?_);· exact be
     clear m K;refine callA 3 rfl fun K m=>?_;clear G;have T:Hid (OwnD 0 (B0) 9 1 R (.slice a1 m1 c1) (J.map strRow)):=W;go_simp;refine (mname_any 2 _ d.out.drew (by decide)).mono ?_;rintro e b5 ⟨rfl,g,I⟩;replace g:FarQ q R b5:=(FarQ.of (below_drew _)).trans g;have c8:R.heap.size≤b5.heap.size:=g.size;replace o:=qB o g;replace j:=qB j g;replace W:=qO W g;replace p:=qF p g;replace d:=zz I;rw [ax];rw [ax] at d;go_simp;refine m.out _ _ ?_ (fun ap=>?_);· exact Far.mono g (fun b e=>.inl e)
     clear m K I g;refine callA 4 rfl fun K m=>?_;go_simp;refine m.out _ _ ?_ (fun aq=>?_);· exact Far.trans ap (Far.of (below_new _ _))
     clear m K;refine callA 5 rfl fun K m=>?_;refine wp_append_D2 _ _ (by rfl) Tryz.underlying37 info_strM rfl (by decide) (by rfl) (by rfl) (W.out.alloc _) (row_app T.out (by omega) (by omega) (str_mem) rfl) (by simp only [List.length_map,List.length_cons,List.length_nil];omega) (by simp only [List.length_map,List.length_cons,List.length_nil];omega) (by rw [World.size_alloc];omega) (fun v9 F M t=>?_);obtain ⟨O,Q,P,rfl⟩:=mem_slice M.mem;refine m.out _ _ ?_ (fun ar=>?_);· exact Far.trans aq ((grownFar t).mono (fun b e=>.inr (.inr e)))
     clear m K
     have aj:b5.heap.size+1≤F.heap.size:=by have h:=t.size;rw [World.size_alloc] at h;exact h
     have z:∀ k,(Value.slice a1 m1 c1).ownBlock=some k→B0≤k:=fun k H=>(W.out.lt k H).1
     replace d:=zz ((d.out.alloc _).grown t fun k H=>by have :=z k H;omega)
     replace p:=gFx p t z;replace o:=gOx o t z;replace j:=gOx j t z;have ab:Hid (OwnD 0 (B0) 9 1 F (.slice O Q P) ((J++[(nowT ts u.i).s]).map strRow)):=zz (by rw [List.map_append];exact M);clear M t z T W;refine takeA 6 (v:=?_) rfl ?_ ?_;rotate_left
     · (intro w a6;go_simp;try rfl)
     (try simp only [pu]);refine callA 7 rfl fun K m=>?_;have G:=kc5 j;go_simp;refine m.out _ _ ?_ (fun b6=>?_);· exact Far.setCell ar (.inr (.inl rfl)) _
     clear m K;refine wpAnyH_done (by kernel_rfl) ?_ _;clear G;generalize a:World.setCell F _ _=w8;have bc:=sizeS1 a;replace d:=rpO1 d a;replace p:=fN1 p a;replace o:=bF1 o a;replace j:=s5_1 j a;replace ab:=oS1 ab a;clear a;have B:=iq_0_0_0 q w A w8;have hZ:=iq_0_0_0 q w A F
     go_wp2_with (fail)
     go_roundw
     case rel=>exact ⟨J++[(nowT ts u.i).s],u.next,X,O,Q,P,L,d,p,o,j,ab,(by rw [leftM_ok N.out] at a7;have h1:=leftM_step (ts:=ts) (step_next u);rw [leftM_ok N.out] at h1;rw [List.length_append,List.length_cons,List.length_nil];omega),by omega⟩
     case measure=>exact posM_step a5.out d.out _ (step_next u) N.out fun _=>ag
    ·
     clear G;have T:Hid (OwnD 0 (B0) 9 1 R (.slice a1 m1 c1) (J.map strRow)):=W;go_simp;refine (mname_any 2 _ d.out.drew (by decide)).mono ?_;rintro e an ⟨rfl,g,I⟩;replace g:FarQ q R an:=(FarQ.of (below_drew _)).trans g;have c7:R.heap.size≤an.heap.size:=g.size;replace o:=qB o g;replace j:=qB j g;replace W:=qO W g;replace p:=qF p g;replace d:=zz I;rw [ax];rw [ax] at d;go_simp;refine m.out _ _ ?_ (fun az=>?_);· exact Far.mono g (fun b e=>.inl e)
     clear m K I g;refine twoL 1 4 rfl rfl (by kernel_rfl) (by rfl) (by rfl) (fun K m=>?_) (fun K m=>?_)
     ·
      have G:=kc5 j;have B:=iq_0_0_0 q w A an;go_simp;refine m.out _ _ ?_ (fun ap=>?_);· exact az
      clear m K;clear G;refine callA 4 rfl fun K m=>?_;go_simp;refine m.out _ _ ?_ (fun aq=>?_);· exact Far.trans ap (Far.of (below_new _ _))
      clear m K;refine callA 5 rfl fun K m=>?_;refine wp_append_D2 _ _ (by rfl) Tryz.underlying37 info_strM rfl (by decide) (by rfl) (by rfl) (W.out.alloc _) (row_app T.out (by omega) (by omega) (str_mem) rfl) (by simp only [List.length_map,List.length_cons,List.length_nil];omega) (by simp only [List.length_map,List.length_cons,List.length_nil];omega) (by rw [World.size_alloc];omega) (fun v9 F M t=>?_);obtain ⟨O,Q,P,rfl⟩:=mem_slice M.mem;refine m.out _ _ ?_ (fun ar=>?_);· exact Far.trans aq ((grownFar t).mono (fun b e=>.inr (.inr e)))
      clear m K
      have aj:an.heap.size+1≤F.heap.size:=by have h:=t.size;rw [World.size_alloc] at h;exact h
      have z:∀ k,(Value.slice a1 m1 c1).ownBlock=some k→B0≤k:=fun k H=>(W.out.lt k H).1
      replace d:=zz ((d.out.alloc _).grown t fun k H=>by have :=z k H;omega)
      replace p:=gFx p t z;replace o:=gOx o t z;replace j:=gOx j t z;have ab:Hid (OwnD 0 (B0) 9 1 F (.slice O Q P) ((J++[(nowT ts u.i).s]).map strRow)):=zz (by rw [List.map_append];exact M);clear M t z T W;refine takeA 6 (v:=?_) rfl ?_ ?_;rotate_left
      · (intro w a6;go_simp;try rfl)
      (try simp only [pu]);refine callA 7 rfl fun K m=>?_;have G:=kc5 j;go_simp;refine m.out _ _ ?_ (fun b6=>?_);· exact Far.setCell ar (.inr (.inl rfl)) _
      clear m K;refine wpAnyH_done (by kernel_rfl) ?_ _;clear G;generalize a:World.setCell F _ _=w8;have bc:=sizeS1 a;replace d:=rpO1 d a;replace p:=fN1 p a;replace o:=bF1 o a;replace j:=s5_1 j a;replace ab:=oS1 ab a;clear a;have B:=iq_0_0_0 q w A w8;have hZ:=iq_0_0_0 q w A F
      go_wp2_with (fail)
      go_roundw
      case rel=>exact ⟨J++[(nowT ts u.i).s],u.next,X,O,Q,P,L,d,p,o,j,ab,(by rw [leftM_ok N.out] at a7;have h1:=leftM_step (ts:=ts) (step_next u);rw [leftM_ok N.out] at h1;rw [List.length_append,List.length_cons,List.length_nil];omega),by omega⟩
      case measure=>exact posM_step a5.out d.out _ (step_next u) N.out fun _=>ag
     ·
      go_simp;refine m.out _ _ ?_ (fun ap=>?_);· exact Far.trans az (Far.of (below_new _ _))
      clear m K;have G:=kc5 j;have B:=iq_0_0_0 q w A an;refine callA 1 rfl fun K m=>?_;go_simp;refine m.out _ _ ?_ (fun aq=>?_);· exact ap
      clear m K;clear G;refine callA 5 rfl fun K m=>?_;refine wp_append_D2 _ _ (by rfl) Tryz.underlying37 info_strM rfl (by decide) (by rfl) (by rfl) (W.out.alloc _) (row_app T.out (by omega) (by omega) (str_mem) rfl) (by simp only [List.length_map,List.length_cons,List.length_nil];omega) (by simp only [List.length_map,List.length_cons,List.length_nil];omega) (by rw [World.size_alloc];omega) (fun v9 F M t=>?_);obtain ⟨O,Q,P,rfl⟩:=mem_slice M.mem;refine m.out _ _ ?_ (fun ar=>?_);· exact Far.trans aq ((grownFar t).mono (fun b e=>.inr (.inr e)))
      clear m K
      have aj:an.heap.size+1≤F.heap.size:=by have h:=t.size;rw [World.size_alloc] at h;exact h
      have z:∀ k,(Value.slice a1 m1 c1).ownBlock=some k→B0≤k:=fun k H=>(W.out.lt k H).1
      replace d:=zz ((d.out.alloc _).grown t fun k H=>by have :=z k H;omega)
      replace p:=gFx p t z;replace o:=gOx o t z;replace j:=gOx j t z;have ab:Hid (OwnD 0 (B0) 9 1 F (.slice O Q P) ((J++[(nowT ts u.i).s]).map strRow)):=zz (by rw [List.map_append];exact M);clear M t z T W;refine takeA 6 (v:=?_) rfl ?_ ?_;rotate_left
      · (intro w a6;go_simp;try rfl)
      (try simp only [pu]);refine callA 7 rfl fun K m=>?_;have G:=kc5 j;go_simp;refine m.out _ _ ?_ (fun b6=>?_);· exact Far.setCell ar (.inr (.inl rfl)) _
      clear m K;refine wpAnyH_done (by kernel_rfl) ?_ _;clear G;generalize a:World.setCell F _ _=w8;have bc:=sizeS1 a;replace d:=rpO1 d a;replace p:=fN1 p a;replace o:=bF1 o a;replace j:=s5_1 j a;replace ab:=oS1 ab a;clear a;have B:=iq_0_0_0 q w A w8;have hZ:=iq_0_0_0 q w A F
      go_wp2_with (fail)
      go_roundw
      case rel=>exact ⟨J++[(nowT ts u.i).s],u.next,X,O,Q,P,L,d,p,o,j,ab,(by rw [leftM_ok N.out] at a7;have h1:=leftM_step (ts:=ts) (step_next u);rw [leftM_ok N.out] at h1;rw [List.length_append,List.length_cons,List.length_nil];omega),by omega⟩
      case measure=>exact posM_step a5.out d.out _ (step_next u) N.out fun _=>ag
   ·
    rw [if_neg hc] at L
    cases aa:u.ok with
    | false=>
     go_wp2_with (fail)
     cases L;obtain ⟨T0,b1⟩:∃ k,k=wr.heap.size:=⟨_,rfl⟩;have r:Hid (Mem (NwS (Bt B0 T0) wr.heap.size) wr (.s 1 (vs.map strRow)) (.slice a1 m1 c1)):=zz (by rw [b1];exact memS_bt W.out.mem (by omega));clear W;clear B;have B:=iq_0_0_0 q w A wr
     go_wp2_with (fail)
     refine (mtake_any 6 wEq _ d.out (by decide)).mono ?_;rintro _ R ⟨rfl,g,I⟩;replace r:=qYB r g;replace o:=qB o g;replace j:=qB j g;replace p:=qF p g;have ba:=g.size;replace d:=zz I;clear g I;clear B;have B:=iq_0_0_0 q w A R
     go_wp2_with (fail)
     refine (con_any _ H2.out d.out).mono ?_;rintro _ w8 ⟨ac,mc,cc,rfl,g,I,hm⟩;replace r:=qYB r g;replace o:=qB o g;replace j:=qB j g;replace p:=qF p g;have bh:=g.size;replace d:=zz I;have ah:=zz hm;clear g I hm;simp only [cnV];clear B;have G:=kc5 j;have B:=iq_0_0_0 q w A w8
     go_wp2_with (fail)
     clear G;generalize a:World.setCell w8 _ _=bl;have b2:=sizeS1 a;replace d:=rpO1 d a;replace p:=fN1 p a;replace o:=bF1 o a;replace j:=s5_2 j a;replace ah:=mS1 ah a;replace r:=yS1 r a;clear a;generalize a:World.alloc bl _=F;have b3:=sizeA a;have ao:=ownD_new a (sz:=4) (b:=w8.heap.size) (cn_mem (x:=cn) ah.out) rfl (by omega) (by omega);replace d:=rpA d a;replace p:=fA p a;replace o:=bA o a;replace j:=bA j a;replace r:=yA r a;have D:=ao;clear ao;clear a
     have c0:F.heap.size=w8.heap.size+1:=by omega
     clear b2 b3;clear B;clear ah
     go_loopw [] (fun wr=>∃ (J:List Cn) (u:MS) (X:Nat) (a2:Option Addr) (m2 c2:Nat),consM ts f X J u=some (cs,se)∧Hid (RS ts aL n cap q u ((0:Nat):Int) wr)∧Hid (FarB q w.heap.size w wr)∧Hid (Bo wr w.heap.size 40 #[.string ⟨#[]⟩,.slice none 0 0,.slice none 0 0,.int .i64 0,.int .i64 0])∧Hid (Bo wr A.heap.size 40 #[.string (nameS ts (takeS ts s 5 wData) 3).1,.slice a1 m1 c1,.slice a2 m2 c2,.int .i64 (nowT ts s.i).l,.int .i64 (nowT ts s.i).c])∧Hid (OwnD 0 R.heap.size 75 4 wr (.slice a2 m2 c2) (J.map Cn.row))∧Hid (Mem (NwS (Bt B0 T0) wr.heap.size) wr (.s 1 (vs.map strRow)) (.slice a1 m1 c1))∧J.length+leftM ts u≤ts.length+1∧R.heap.size≤wr.heap.size) (fun wr=>posM ts.length q wr)
     case atStart=>exact ⟨[cn],sc,f,_,_,_,H3.out,d,p,o,j,D,r,(by have :=leftM_le (ts:=ts) sc;simp only [List.length_cons,List.length_nil];omega),by omega⟩
     case round=>
      clear d p o j D r a5;obtain ⟨J,u,X,a2,m2,c2,L,d,p,o,j,D,r,a7,bd⟩:=hrel;have a5:=d;have B:=iq_0_0_0 q w A wr
      go_wp2_with (fail)
      refine (mis_any 6 wBar _ d.out).mono ?_;rintro _ am ⟨rfl,Z⟩;have g:=FarQ.of (q:=q) Z;replace r:=qYB r g;replace o:=qB o g;replace j:=qB j g;replace D:=qO D g;replace p:=qF p g;have br:=g.size;replace d:=krP d Z;clear g Z
      cases X with
      | zero=>rw [consM] at L;cases L
      | succ X=>
       rw [consM] at L
       cases hc:isS ts u 6 wBar with
       | false=>
        rw [if_neg (by rw [hc];decide)] at L;cases L;clear B;have rc:=kc5 o;have G:=kc5 j
        go_wp2_with (fail)
        clear rc G;generalize a:World.setCell _ ⟨w.heap.size,4,none⟩ _=a4;replace d:=rpO5 d a;replace p:=fN5 p a;replace o:=bS5 o a;replace D:=oS5 D a;replace r:=yS5 r a;clear a;have fc:=kc5 o;refine bodyPost_ret (v:=.agg #[.string (nameS ts (takeS ts s 5 wData) 3).1,.slice a1 m1 c1,.slice a2 m2 c2,.int .i64 (nowT ts s.i).l,.int .i64 (nowT ts s.i).c]) (by clear d p a5 o j D r;simp [results,Tryz.results22,go_sem,fc]) rfl ?_;exact ⟨_,_,_,_,_,_,rfl,p.out.out,d.out,memS_nw r.out (fun b Z=>Nat.le_trans (by omega) Z.1),memNw D.out.mem (by omega)⟩
       | true=>
        rw [if_pos hc] at L;have aa:u.ok=true:=(isS_parts hc).1;have ag:u.i<ts.length:=isT_lt (isS_parts hc).2 (by decide);obtain ⟨Y,a3,L⟩:=Option.bind_eq_some_iff.1 L;obtain ⟨y,sy⟩:=Y
        have bf:(u.i:Int)+1≤9223372036854775807:=by omega
        have N:=zz aa;clear aa hc;clear B;have qc:=kcR d;have B:=iq_0_0_0 q w A am;go_upto_region 11 with (fail);clear qc;generalize a:World.setCell am _ _=a4;have ca:=sizeS1 a;replace d:=zz (d.out.setIE (k:=(u.i+1)) a (by omega));replace p:=zz (p.out.setQE a);replace o:=bF1 o a;replace j:=bF1 j a;replace D:=oS1 D a;replace r:=yS1 r a;clear a;clear B;have B:=iq_0_0_0 q w A a4;have hZ:=iq_0_0_0 q w A am
        have b7:J.length+1≤1048577:=by rw [leftM_ok N.out] at a7;omega
        clear B hZ;have G:=kc5 j;have B:=iq_0_0_0 q w A a4;have hZ:=iq_0_0_0 q w A am;refine wp_region_held_drew (S:=fun w'=>Far (fun b=>b=q∨b=A.heap.size∨(Value.slice a2 m2 c2).ownBlock=some b) (a4) w') (by kernel_rfl) (Far.of (below_drew _)) (fun b0=>?_);refine takeA 0 (v:=?_) rfl ?_ ?_;rotate_left
        · (intro w a6;go_simp;try rfl)
        (try simp only [pu]);refine takeA 2 (v:=?_) rfl ?_ ?_;rotate_left
        · (intro w a6;go_simp;try rfl)
        (try simp only [pu]);refine twoL 1 3 rfl rfl (by kernel_rfl) (by rfl) (by rfl) (fun K m=>?_) (fun K m=>?_)
        ·
         go_simp;refine m.out _ _ ?_ (fun ak=>?_);· exact b0
         clear m K;refine callA 3 rfl fun K m=>?_;clear G;have T:Hid (OwnD 0 (R.heap.size) 75 4 a4 (.slice a2 m2 c2) (J.map Cn.row)):=D;go_simp;refine (con_any _ a3 d.out.drew).mono ?_;rintro e al ⟨ay,my,cy,rfl,g,I,hm⟩;replace g:FarQ q a4 al:=(FarQ.of (below_drew _)).trans g;have bj:a4.heap.size≤al.heap.size:=g.size;replace o:=qB o g;replace j:=qB j g;replace D:=qO D g;replace r:=qYB r g;replace p:=qF p g;replace d:=zz I;have ai:Hid (Mem (Nw 0 a4.heap.size _) _ _ _):=zz hm;clear hm;simp only [cnV];go_simp;refine m.out _ _ ?_ (fun ad=>?_);· exact Far.mono g (fun b e=>.inl e)
         clear m K I g;refine callA 4 rfl fun K m=>?_;go_simp;refine m.out _ _ ?_ (fun ae=>?_);· exact Far.trans ad (Far.of (below_new _ _))
         clear m K;refine callA 5 rfl fun K m=>?_;refine wp_append_D2 _ _ (by rfl) Tryz.underlying38 info_conM rfl (by decide) (by rfl) (by rfl) (D.out.alloc _) (row_app T.out (by omega) (by omega) (cn_mem (x:=y) ai.out) rfl) (by simp only [List.length_map,List.length_cons,List.length_nil];omega) (by simp only [List.length_map,List.length_cons,List.length_nil];omega) (by rw [World.size_alloc];omega) (fun v9 F M t=>?_);obtain ⟨O,Q,P,rfl⟩:=mem_slice M.mem;refine m.out _ _ ?_ (fun af=>?_);· exact Far.trans ae ((grownFar t).mono (fun b e=>.inr (.inr e)))
         clear m K
         have aj:al.heap.size+1≤F.heap.size:=by have h:=t.size;rw [World.size_alloc] at h;exact h
         have z:∀ k,(Value.slice a2 m2 c2).ownBlock=some k→R.heap.size≤k:=fun k H=>(D.out.lt k H).1
         replace d:=zz ((d.out.alloc _).grown t fun k H=>by have :=z k H;omega)
         replace p:=gFx p t z;replace o:=gOx o t z;replace j:=gOx j t z
         replace r:=zz (memS_grown (memS_alloc r.out _) t fun k H=>by have :=z k H;unfold Bt;omega)
         have U:Hid (OwnD 0 (R.heap.size) 75 4 F (.slice O Q P) ((J++[y]).map Cn.row)):=zz (by rw [List.map_append];exact M);clear M t z T D;refine takeA 6 (v:=?_) rfl ?_ ?_;rotate_left
         · (intro w a6;go_simp;try rfl)
         (try simp only [pu]);refine callA 7 rfl fun K m=>?_;have G:=kc5 j;go_simp;refine m.out _ _ ?_ (fun au=>?_);· exact Far.setCell af (.inr (.inl rfl)) _
         clear m K;refine wpAnyH_done (by kernel_rfl) ?_ _;clear G;generalize a:World.setCell F _ _=a0;have b4:=sizeS1 a;replace d:=rpO1 d a;replace p:=fN1 p a;replace o:=bF1 o a;replace j:=s5_2 j a;replace U:=oS1 U a;replace r:=yS1 r a;clear a;have B:=iq_0_0_0 q w A a0;have hZ:=iq_0_0_0 q w A F
         go_wp2_with (fail)
         go_roundw
         case rel=>exact ⟨J++[y],sy,X,O,Q,P,L,d,p,o,j,U,r,(by rw [leftM_ok N.out] at a7;have h1:leftM ts sy≤leftM ts u - 2:=leftM_step (ts:=ts) ((step_next u).trans (conM_step a3));rw [leftM_ok N.out] at h1;rw [List.length_append,List.length_cons,List.length_nil];omega),by omega⟩
         case measure=>exact posM_step a5.out d.out _ (((step_next u).trans (conM_step a3)).le (by decide)) N.out fun _=>ag
        ·
         clear G;have T:Hid (OwnD 0 (R.heap.size) 75 4 a4 (.slice a2 m2 c2) (J.map Cn.row)):=D;go_simp;refine (con_any _ a3 d.out.drew).mono ?_;rintro e a8 ⟨ay,my,cy,rfl,g,I,hm⟩;replace g:FarQ q a4 a8:=(FarQ.of (below_drew _)).trans g;have bi:a4.heap.size≤a8.heap.size:=g.size;replace o:=qB o g;replace j:=qB j g;replace D:=qO D g;replace r:=qYB r g;replace p:=qF p g;replace d:=zz I;have ai:Hid (Mem (Nw 0 a4.heap.size _) _ _ _):=zz hm;clear hm;simp only [cnV];go_simp;refine m.out _ _ ?_ (fun ak=>?_);· exact Far.mono g (fun b e=>.inl e)
         clear m K I g;refine twoL 1 4 rfl rfl (by kernel_rfl) (by rfl) (by rfl) (fun K m=>?_) (fun K m=>?_)
         ·
          have G:=kc5 j;have B:=iq_0_0_0 q w A a8;go_simp;refine m.out _ _ ?_ (fun ad=>?_);· exact ak
          clear m K;clear G;refine callA 4 rfl fun K m=>?_;go_simp;refine m.out _ _ ?_ (fun ae=>?_);· exact Far.trans ad (Far.of (below_new _ _))
          clear m K;refine callA 5 rfl fun K m=>?_;refine wp_append_D2 _ _ (by rfl) Tryz.underlying38 info_conM rfl (by decide) (by rfl) (by rfl) (D.out.alloc _) (row_app T.out (by omega) (by omega) (cn_mem (x:=y) ai.out) rfl) (by simp only [List.length_map,List.length_cons,List.length_nil];omega) (by simp only [List.length_map,List.length_cons,List.length_nil];omega) (by rw [World.size_alloc];omega) (fun v9 F M t=>?_);obtain ⟨O,Q,P,rfl⟩:=mem_slice M.mem;refine m.out _ _ ?_ (fun af=>?_);· exact Far.trans ae ((grownFar t).mono (fun b e=>.inr (.inr e)))
          clear m K
          have aj:a8.heap.size+1≤F.heap.size:=by have h:=t.size;rw [World.size_alloc] at h;exact h
          have z:∀ k,(Value.slice a2 m2 c2).ownBlock=some k→R.heap.size≤k:=fun k H=>(D.out.lt k H).1
          replace d:=zz ((d.out.alloc _).grown t fun k H=>by have :=z k H;omega)
          replace p:=gFx p t z;replace o:=gOx o t z;replace j:=gOx j t z
          replace r:=zz (memS_grown (memS_alloc r.out _) t fun k H=>by have :=z k H;unfold Bt;omega)
          have U:Hid (OwnD 0 (R.heap.size) 75 4 F (.slice O Q P) ((J++[y]).map Cn.row)):=zz (by rw [List.map_append];exact M);clear M t z T D;refine takeA 6 (v:=?_) rfl ?_ ?_;rotate_left
          · (intro w a6;go_simp;try rfl)
          (try simp only [pu]);refine callA 7 rfl fun K m=>?_;have G:=kc5 j;go_simp;refine m.out _ _ ?_ (fun au=>?_);· exact Far.setCell af (.inr (.inl rfl)) _
          clear m K;refine wpAnyH_done (by kernel_rfl) ?_ _;clear G;generalize a:World.setCell F _ _=a0;have b4:=sizeS1 a;replace d:=rpO1 d a;replace p:=fN1 p a;replace o:=bF1 o a;replace j:=s5_2 j a;replace U:=oS1 U a;replace r:=yS1 r a;clear a;have B:=iq_0_0_0 q w A a0;have hZ:=iq_0_0_0 q w A F
          go_wp2_with (fail)
          go_roundw
          case rel=>exact ⟨J++[y],sy,X,O,Q,P,L,d,p,o,j,U,r,(by rw [leftM_ok N.out] at a7;have h1:leftM ts sy≤leftM ts u - 2:=leftM_step (ts:=ts) ((step_next u).trans (conM_step a3));rw [leftM_ok N.out] at h1;rw [List.length_append,List.length_cons,List.length_nil];omega),by omega⟩
          case measure=>exact posM_step a5.out d.out _ (((step_next u).trans (conM_step a3)).le (by decide)) N.out fun _=>ag
         ·
          go_simp;refine m.out _ _ ?_ (fun ad=>?_);· exact Far.trans ak (Far.of (below_new _ _))
          clear m K;have G:=kc5 j;have B:=iq_0_0_0 q w A a8;refine callA 1 rfl fun K m=>?_;go_simp;refine m.out _ _ ?_ (fun ae=>?_);· exact ad
          clear m K;clear G;refine callA 5 rfl fun K m=>?_;refine wp_append_D2 _ _ (by rfl) Tryz.underlying38 info_conM rfl (by decide) (by rfl) (by rfl) (D.out.alloc _) (row_app T.out (by omega) (by omega) (cn_mem (x:=y) ai.out) rfl) (by simp only [List.length_map,List.length_cons,List.length_nil];omega) (by simp only [List.length_map,List.length_cons,List.length_nil];omega) (by rw [World.size_alloc];omega) (fun v9 F M t=>?_);obtain ⟨O,Q,P,rfl⟩:=mem_slice M.mem;refine m.out _ _ ?_ (fun af=>?_);· exact Far.trans ae ((grownFar t).mono (fun b e=>.inr (.inr e)))
          clear m K
          have aj:a8.heap.size+1≤F.heap.size:=by have h:=t.size;rw [World.size_alloc] at h;exact h
          have z:∀ k,(Value.slice a2 m2 c2).ownBlock=some k→R.heap.size≤k:=fun k H=>(D.out.lt k H).1
          replace d:=zz ((d.out.alloc _).grown t fun k H=>by have :=z k H;omega)
          replace p:=gFx p t z;replace o:=gOx o t z;replace j:=gOx j t z
          replace r:=zz (memS_grown (memS_alloc r.out _) t fun k H=>by have :=z k H;unfold Bt;omega)
          have U:Hid (OwnD 0 (R.heap.size) 75 4 F (.slice O Q P) ((J++[y]).map Cn.row)):=zz (by rw [List.map_append];exact M);clear M t z T D;refine takeA 6 (v:=?_) rfl ?_ ?_;rotate_left
          · (intro w a6;go_simp;try rfl)
          (try simp only [pu]);refine callA 7 rfl fun K m=>?_;have G:=kc5 j;go_simp;refine m.out _ _ ?_ (fun au=>?_);· exact Far.setCell af (.inr (.inl rfl)) _
          clear m K;refine wpAnyH_done (by kernel_rfl) ?_ _;clear G;generalize a:World.setCell F _ _=a0;have b4:=sizeS1 a;replace d:=rpO1 d a;replace p:=fN1 p a;replace o:=bF1 o a;replace j:=s5_2 j a;replace U:=oS1 U a;replace r:=yS1 r a;clear a;have B:=iq_0_0_0 q w A a0;have hZ:=iq_0_0_0 q w A F
          go_wp2_with (fail)
          go_roundw
          case rel=>exact ⟨J++[y],sy,X,O,Q,P,L,d,p,o,j,U,r,(by rw [leftM_ok N.out] at a7;have h1:leftM ts sy≤leftM ts u - 2:=leftM_step (ts:=ts) ((step_next u).trans (conM_step a3));rw [leftM_ok N.out] at h1;rw [List.length_append,List.length_cons,List.length_nil];omega),by omega⟩
          case measure=>exact posM_step a5.out d.out _ (((step_next u).trans (conM_step a3)).le (by decide)) N.out fun _=>ag
    | true=>
     have av:((nowT ts u.i).k==2)=false:=by rw [aa,Bool.true_and] at hc;simpa using hc
     clear hc aa
     go_wp2_with (fail)
     refine (mnow_any _ d.out.bo d.out.mem).mono ?_;rintro _ R ⟨rfl,Z⟩;have g:=FarQ.of (q:=q) Z;replace o:=qB o g;replace j:=qB j g;replace W:=qO W g;replace p:=qF p g;have ba:=g.size;replace d:=krP d Z;clear g Z;simp only [tkV];clear B
     go_wp2_with (fail)
     cases L;obtain ⟨T0,b1⟩:∃ k,k=R.heap.size:=⟨_,rfl⟩;have r:Hid (Mem (NwS (Bt B0 T0) R.heap.size) R (.s 1 (vs.map strRow)) (.slice a1 m1 c1)):=zz (by rw [b1];exact memS_bt W.out.mem (by omega));clear W;have B:=iq_0_0_0 q w A R
     go_wp2_with (fail)
     refine (mtake_any 6 wEq _ d.out (by decide)).mono ?_;rintro _ w8 ⟨rfl,g,I⟩;replace r:=qYB r g;replace o:=qB o g;replace j:=qB j g;replace p:=qF p g;have bh:=g.size;replace d:=zz I;clear g I;clear B;have B:=iq_0_0_0 q w A w8
     go_wp2_with (fail)
     refine (con_any _ H2.out d.out).mono ?_;rintro _ F ⟨ac,mc,cc,rfl,g,I,hm⟩;replace r:=qYB r g;replace o:=qB o g;replace j:=qB j g;replace p:=qF p g;have aj:=g.size;replace d:=zz I;have ah:=zz hm;clear g I hm;simp only [cnV];clear B;have G:=kc5 j;have B:=iq_0_0_0 q w A F
     go_wp2_with (fail)
     clear G;generalize a:World.setCell F _ _=bk;have b2:=sizeS1 a;replace d:=rpO1 d a;replace p:=fN1 p a;replace o:=bF1 o a;replace j:=s5_2 j a;replace ah:=mS1 ah a;replace r:=yS1 r a;clear a;generalize a:World.alloc bk _=am;have b3:=sizeA a;have ao:=ownD_new a (sz:=4) (b:=F.heap.size) (cn_mem (x:=cn) ah.out) rfl (by omega) (by omega);replace d:=rpA d a;replace p:=fA p a;replace o:=bA o a;replace j:=bA j a;replace r:=yA r a;have D:=ao;clear ao;clear a
     have bx:am.heap.size=F.heap.size+1:=by omega
     clear b2 b3;clear B;clear ah
     go_loopw [] (fun wr=>∃ (J:List Cn) (u:MS) (X:Nat) (a2:Option Addr) (m2 c2:Nat),consM ts f X J u=some (cs,se)∧Hid (RS ts aL n cap q u ((0:Nat):Int) wr)∧Hid (FarB q w.heap.size w wr)∧Hid (Bo wr w.heap.size 40 #[.string ⟨#[]⟩,.slice none 0 0,.slice none 0 0,.int .i64 0,.int .i64 0])∧Hid (Bo wr A.heap.size 40 #[.string (nameS ts (takeS ts s 5 wData) 3).1,.slice a1 m1 c1,.slice a2 m2 c2,.int .i64 (nowT ts s.i).l,.int .i64 (nowT ts s.i).c])∧Hid (OwnD 0 w8.heap.size 75 4 wr (.slice a2 m2 c2) (J.map Cn.row))∧Hid (Mem (NwS (Bt B0 T0) wr.heap.size) wr (.s 1 (vs.map strRow)) (.slice a1 m1 c1))∧J.length+leftM ts u≤ts.length+1∧w8.heap.size≤wr.heap.size) (fun wr=>posM ts.length q wr)
     case atStart=>exact ⟨[cn],sc,f,_,_,_,H3.out,d,p,o,j,D,r,(by have :=leftM_le (ts:=ts) sc;simp only [List.length_cons,List.length_nil];omega),by omega⟩
     case round=>
      clear d p o j D r a5;obtain ⟨J,u,X,a2,m2,c2,L,d,p,o,j,D,r,a7,bd⟩:=hrel;have a5:=d;have B:=iq_0_0_0 q w A wr
      go_wp2_with (fail)
      refine (mis_any 6 wBar _ d.out).mono ?_;rintro _ a4 ⟨rfl,Z⟩;have g:=FarQ.of (q:=q) Z;replace r:=qYB r g;replace o:=qB o g;replace j:=qB j g;replace D:=qO D g;replace p:=qF p g;have bs:=g.size;replace d:=krP d Z;clear g Z
      cases X with
      | zero=>rw [consM] at L;cases L
      | succ X=>
       rw [consM] at L
       cases hc:isS ts u 6 wBar with
       | false=>
        rw [if_neg (by rw [hc];decide)] at L;cases L;clear B;have rc:=kc5 o;have G:=kc5 j
        go_wp2_with (fail)
        clear rc G;generalize a:World.setCell _ ⟨w.heap.size,4,none⟩ _=a0;replace d:=rpO5 d a;replace p:=fN5 p a;replace o:=bS5 o a;replace D:=oS5 D a;replace r:=yS5 r a;clear a;have fc:=kc5 o;refine bodyPost_ret (v:=.agg #[.string (nameS ts (takeS ts s 5 wData) 3).1,.slice a1 m1 c1,.slice a2 m2 c2,.int .i64 (nowT ts s.i).l,.int .i64 (nowT ts s.i).c]) (by clear d p a5 o j D r;simp [results,Tryz.results22,go_sem,fc]) rfl ?_;exact ⟨_,_,_,_,_,_,rfl,p.out.out,d.out,memS_nw r.out (fun b Z=>Nat.le_trans (by omega) Z.1),memNw D.out.mem (by omega)⟩
       | true=>
        rw [if_pos hc] at L;have aa:u.ok=true:=(isS_parts hc).1;have ag:u.i<ts.length:=isT_lt (isS_parts hc).2 (by decide);obtain ⟨Y,a3,L⟩:=Option.bind_eq_some_iff.1 L;obtain ⟨y,sy⟩:=Y
        have bf:(u.i:Int)+1≤9223372036854775807:=by omega
        have N:=zz aa;clear aa hc;clear B;have qc:=kcR d;have B:=iq_0_0_0 q w A a4;go_upto_region 11 with (fail);clear qc;generalize a:World.setCell a4 _ _=a0;have b4:=sizeS1 a;replace d:=zz (d.out.setIE (k:=(u.i+1)) a (by omega));replace p:=zz (p.out.setQE a);replace o:=bF1 o a;replace j:=bF1 j a;replace D:=oS1 D a;replace r:=yS1 r a;clear a;clear B;have B:=iq_0_0_0 q w A a0;have hZ:=iq_0_0_0 q w A a4
        have b7:J.length+1≤1048577:=by rw [leftM_ok N.out] at a7;omega
        clear B hZ;have G:=kc5 j;have B:=iq_0_0_0 q w A a0;have hZ:=iq_0_0_0 q w A a4;refine wp_region_held_drew (S:=fun w'=>Far (fun b=>b=q∨b=A.heap.size∨(Value.slice a2 m2 c2).ownBlock=some b) (a0) w') (by kernel_rfl) (Far.of (below_drew _)) (fun b0=>?_);refine takeA 0 (v:=?_) rfl ?_ ?_;rotate_left
        · (intro w a6;go_simp;try rfl)
        (try simp only [pu]);refine takeA 2 (v:=?_) rfl ?_ ?_;rotate_left
        · (intro w a6;go_simp;try rfl)
        (try simp only [pu]);refine twoL 1 3 rfl rfl (by kernel_rfl) (by rfl) (by rfl) (fun K m=>?_) (fun K m=>?_)
        ·
         go_simp;refine m.out _ _ ?_ (fun ak=>?_);· exact b0
         clear m K;refine callA 3 rfl fun K m=>?_;clear G;have T:Hid (OwnD 0 (w8.heap.size) 75 4 a0 (.slice a2 m2 c2) (J.map Cn.row)):=D;go_simp;refine (con_any _ a3 d.out.drew).mono ?_;rintro e al ⟨ay,my,cy,rfl,g,I,hm⟩;replace g:FarQ q a0 al:=(FarQ.of (below_drew _)).trans g;have bj:a0.heap.size≤al.heap.size:=g.size;replace o:=qB o g;replace j:=qB j g;replace D:=qO D g;replace r:=qYB r g;replace p:=qF p g;replace d:=zz I;have ai:Hid (Mem (Nw 0 a0.heap.size _) _ _ _):=zz hm;clear hm;simp only [cnV];go_simp;refine m.out _ _ ?_ (fun ad=>?_);· exact Far.mono g (fun b e=>.inl e)
         clear m K I g;refine callA 4 rfl fun K m=>?_;go_simp;refine m.out _ _ ?_ (fun ae=>?_);· exact Far.trans ad (Far.of (below_new _ _))
         clear m K;refine callA 5 rfl fun K m=>?_;refine wp_append_D2 _ _ (by rfl) Tryz.underlying38 info_conM rfl (by decide) (by rfl) (by rfl) (D.out.alloc _) (row_app T.out (by omega) (by omega) (cn_mem (x:=y) ai.out) rfl) (by simp only [List.length_map,List.length_cons,List.length_nil];omega) (by simp only [List.length_map,List.length_cons,List.length_nil];omega) (by rw [World.size_alloc];omega) (fun v9 F M t=>?_);obtain ⟨O,Q,P,rfl⟩:=mem_slice M.mem;refine m.out _ _ ?_ (fun af=>?_);· exact Far.trans ae ((grownFar t).mono (fun b e=>.inr (.inr e)))
         clear m K
         have aj:al.heap.size+1≤F.heap.size:=by have h:=t.size;rw [World.size_alloc] at h;exact h
         have z:∀ k,(Value.slice a2 m2 c2).ownBlock=some k→w8.heap.size≤k:=fun k H=>(D.out.lt k H).1
         replace d:=zz ((d.out.alloc _).grown t fun k H=>by have :=z k H;omega)
         replace p:=gFx p t z;replace o:=gOx o t z;replace j:=gOx j t z
         replace r:=zz (memS_grown (memS_alloc r.out _) t fun k H=>by have :=z k H;unfold Bt;omega)
         have U:Hid (OwnD 0 (w8.heap.size) 75 4 F (.slice O Q P) ((J++[y]).map Cn.row)):=zz (by rw [List.map_append];exact M);clear M t z T D;refine takeA 6 (v:=?_) rfl ?_ ?_;rotate_left
         · (intro w a6;go_simp;try rfl)
         (try simp only [pu]);refine callA 7 rfl fun K m=>?_;have G:=kc5 j;go_simp;refine m.out _ _ ?_ (fun au=>?_);· exact Far.setCell af (.inr (.inl rfl)) _
         clear m K;refine wpAnyH_done (by kernel_rfl) ?_ _;clear G;generalize a:World.setCell F _ _=aw;have bb:=sizeS1 a;replace d:=rpO1 d a;replace p:=fN1 p a;replace o:=bF1 o a;replace j:=s5_2 j a;replace U:=oS1 U a;replace r:=yS1 r a;clear a;have B:=iq_0_0_0 q w A aw;have hZ:=iq_0_0_0 q w A F
         go_wp2_with (fail)
         go_roundw
         case rel=>exact ⟨J++[y],sy,X,O,Q,P,L,d,p,o,j,U,r,(by rw [leftM_ok N.out] at a7;have h1:leftM ts sy≤leftM ts u - 2:=leftM_step (ts:=ts) ((step_next u).trans (conM_step a3));rw [leftM_ok N.out] at h1;rw [List.length_append,List.length_cons,List.length_nil];omega),by omega⟩
         case measure=>exact posM_step a5.out d.out _ (((step_next u).trans (conM_step a3)).le (by decide)) N.out fun _=>ag
        ·
         clear G;have T:Hid (OwnD 0 (w8.heap.size) 75 4 a0 (.slice a2 m2 c2) (J.map Cn.row)):=D;go_simp;refine (con_any _ a3 d.out.drew).mono ?_;rintro e a8 ⟨ay,my,cy,rfl,g,I,hm⟩;replace g:FarQ q a0 a8:=(FarQ.of (below_drew _)).trans g;have bi:a0.heap.size≤a8.heap.size:=g.size;replace o:=qB o g;replace j:=qB j g;replace D:=qO D g;replace r:=qYB r g;replace p:=qF p g;replace d:=zz I;have ai:Hid (Mem (Nw 0 a0.heap.size _) _ _ _):=zz hm;clear hm;simp only [cnV];go_simp;refine m.out _ _ ?_ (fun ak=>?_);· exact Far.mono g (fun b e=>.inl e)
         clear m K I g;refine twoL 1 4 rfl rfl (by kernel_rfl) (by rfl) (by rfl) (fun K m=>?_) (fun K m=>?_)
         ·
          have G:=kc5 j;have B:=iq_0_0_0 q w A a8;go_simp;refine m.out _ _ ?_ (fun ad=>?_);· exact ak
          clear m K;clear G;refine callA 4 rfl fun K m=>?_;go_simp;refine m.out _ _ ?_ (fun ae=>?_);· exact Far.trans ad (Far.of (below_new _ _))
          clear m K;refine callA 5 rfl fun K m=>?_;refine wp_append_D2 _ _ (by rfl) Tryz.underlying38 info_conM rfl (by decide) (by rfl) (by rfl) (D.out.alloc _) (row_app T.out (by omega) (by omega) (cn_mem (x:=y) ai.out) rfl) (by simp only [List.length_map,List.length_cons,List.length_nil];omega) (by simp only [List.length_map,List.length_cons,List.length_nil];omega) (by rw [World.size_alloc];omega) (fun v9 F M t=>?_);obtain ⟨O,Q,P,rfl⟩:=mem_slice M.mem;refine m.out _ _ ?_ (fun af=>?_);· exact Far.trans ae ((grownFar t).mono (fun b e=>.inr (.inr e)))
          clear m K
          have aj:a8.heap.size+1≤F.heap.size:=by have h:=t.size;rw [World.size_alloc] at h;exact h
          have z:∀ k,(Value.slice a2 m2 c2).ownBlock=some k→w8.heap.size≤k:=fun k H=>(D.out.lt k H).1
          replace d:=zz ((d.out.alloc _).grown t fun k H=>by have :=z k H;omega)
          replace p:=gFx p t z;replace o:=gOx o t z;replace j:=gOx j t z
          replace r:=zz (memS_grown (memS_alloc r.out _) t fun k H=>by have :=z k H;unfold Bt;omega)
          have U:Hid (OwnD 0 (w8.heap.size) 75 4 F (.slice O Q P) ((J++[y]).map Cn.row)):=zz (by rw [List.map_append];exact M);clear M t z T D;refine takeA 6 (v:=?_) rfl ?_ ?_;rotate_left
          · (intro w a6;go_simp;try rfl)
          (try simp only [pu]);refine callA 7 rfl fun K m=>?_;have G:=kc5 j;go_simp;refine m.out _ _ ?_ (fun au=>?_);· exact Far.setCell af (.inr (.inl rfl)) _
          clear m K;refine wpAnyH_done (by kernel_rfl) ?_ _;clear G;generalize a:World.setCell F _ _=aw;have bb:=sizeS1 a;replace d:=rpO1 d a;replace p:=fN1 p a;replace o:=bF1 o a;replace j:=s5_2 j a;replace U:=oS1 U a;replace r:=yS1 r a;clear a;have B:=iq_0_0_0 q w A aw;have hZ:=iq_0_0_0 q w A F
          go_wp2_with (fail)
          go_roundw
          case rel=>exact ⟨J++[y],sy,X,O,Q,P,L,d,p,o,j,U,r,(by rw [leftM_ok N.out] at a7;have h1:leftM ts sy≤leftM ts u - 2:=leftM_step (ts:=ts) ((step_next u).trans (conM_step a3));rw [leftM_ok N.out] at h1;rw [List.length_append,List.length_cons,List.length_nil];omega),by omega⟩
          case measure=>exact posM_step a5.out d.out _ (((step_next u).trans (conM_step a3)).le (by decide)) N.out fun _=>ag
         ·
          go_simp;refine m.out _ _ ?_ (fun ad=>?_);· exact Far.trans ak (Far.of (below_new _ _))
          clear m K;have G:=kc5 j;have B:=iq_0_0_0 q w A a8;refine callA 1 rfl fun K m=>?_;go_simp;refine m.out _ _ ?_ (fun ae=>?_);· exact ad
          clear m K;clear G;refine callA 5 rfl fun K m=>?_;refine wp_append_D2 _ _ (by rfl) Tryz.underlying38 info_conM rfl (by decide) (by rfl) (by rfl) (D.out.alloc _) (row_app T.out (by omega) (by omega) (cn_mem (x:=y) ai.out) rfl) (by simp only [List.length_map,List.length_cons,List.length_nil];omega) (by simp only [List.length_map,List.length_cons,List.length_nil];omega) (by rw [World.size_alloc];omega) (fun v9 F M t=>?_);obtain ⟨O,Q,P,rfl⟩:=mem_slice M.mem;refine m.out _ _ ?_ (fun af=>?_);· exact Far.trans ae ((grownFar t).mono (fun b e=>.inr (.inr e)))
          clear m K
          have aj:a8.heap.size+1≤F.heap.size:=by have h:=t.size;rw [World.size_alloc] at h;exact h
          have z:∀ k,(Value.slice a2 m2 c2).ownBlock=some k→w8.heap.size≤k:=fun k H=>(D.out.lt k H).1
          replace d:=zz ((d.out.alloc _).grown t fun k H=>by have :=z k H;omega)
          replace p:=gFx p t z;replace o:=gOx o t z;replace j:=gOx j t z
          replace r:=zz (memS_grown (memS_alloc r.out _) t fun k H=>by have :=z k H;unfold Bt;omega)
          have U:Hid (OwnD 0 (w8.heap.size) 75 4 F (.slice O Q P) ((J++[y]).map Cn.row)):=zz (by rw [List.map_append];exact M);clear M t z T D;refine takeA 6 (v:=?_) rfl ?_ ?_;rotate_left
          · (intro w a6;go_simp;try rfl)
          (try simp only [pu]);refine callA 7 rfl fun K m=>?_;have G:=kc5 j;go_simp;refine m.out _ _ ?_ (fun au=>?_);· exact Far.setCell af (.inr (.inl rfl)) _
          clear m K;refine wpAnyH_done (by kernel_rfl) ?_ _;clear G;generalize a:World.setCell F _ _=aw;have bb:=sizeS1 a;replace d:=rpO1 d a;replace p:=fN1 p a;replace o:=bF1 o a;replace j:=s5_2 j a;replace U:=oS1 U a;replace r:=yS1 r a;clear a;have B:=iq_0_0_0 q w A aw;have hZ:=iq_0_0_0 q w A F
          go_wp2_with (fail)
          go_roundw
          case rel=>exact ⟨J++[y],sy,X,O,Q,P,L,d,p,o,j,U,r,(by rw [leftM_ok N.out] at a7;have h1:leftM ts sy≤leftM ts u - 2:=leftM_step (ts:=ts) ((step_next u).trans (conM_step a3));rw [leftM_ok N.out] at h1;rw [List.length_append,List.length_cons,List.length_nil];omega),by omega⟩
          case measure=>exact posM_step a5.out d.out _ (((step_next u).trans (conM_step a3)).le (by decide)) N.out fun _=>ag
end
end
end Go.Proofs.YtcoiagfeoonpbaaGreat
