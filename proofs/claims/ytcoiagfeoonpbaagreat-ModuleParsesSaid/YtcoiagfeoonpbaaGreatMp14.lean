/-
 The document's reader, its small steps: now, fail, is, take, down, name. No condition but how the tokens lie.
-/
import Derived.Test.YtcoiagfeoonpbaaGreatMp8
import Derived.Test.YtcoiagfeoonpbaaGreatMp9
set_option maxHeartbeats 20000000
set_option maxRecDepth 100000
namespace Go.Proofs.YtcoiagfeoonpbaaGreat
section
open Go.RowKit
section
variable {ts:List Tk} {aL:Option Addr} {n cap:Nat}
def rdV (aL:Option Addr) (n cap:Nat) (i d:Int) (b:Bool) (l c:Int):Value:=.agg #[.slice aL n cap,.int .i64 i,.int .i64 d,.bool b,.int .i64 l,.int .i64 c]
theorem refTok {w f:World} (d:FarB w.heap.size w.heap.size w f) (h:MemW w (.s 5 (tkRows ts)) (.slice aL n cap)):MemW f (.s 5 (tkRows ts)) (.slice aL n cap):=
 Mem.mono h (fun _ a=>Nat.lt_of_lt_of_le a d.size) fun b a=>d.block b a (fun e=>by have :b<w.heap.size:=a;rcases e with e | e <;> omega)
theorem refBelow {w a:World} (d:FarB w.heap.size w.heap.size w a):Below w.heap.size w a:=Far.toB (Far.mono d fun b e=>by rcases e with e | e <;> omega) (Nat.le_refl _)
attribute [local go_sem] tk_pos
theorem tk_text (k n l c:Int) (s:ByteArray) (w:World):Sem.run Tryz.prog (Instr.field 53 (.agg #[.int .i64 k,.string s,.int .i64 n,.int .i64 l,.int .i64 c]) 1) w=.ok (.string s) w:=by kernel_rfl
theorem tk_kind0 (k n l c:Int) (s:ByteArray) (w:World):Sem.run Tryz.prog (Instr.field 53 (.agg #[.int .i64 k,.string s,.int .i64 n,.int .i64 l,.int .i64 c]) 0) w=.ok (.int .i64 k) w:=by kernel_rfl
attribute [local go_sem] tk_text tk_kind0
theorem nowR_any {i:Nat} {d:Int} {b:Bool} {l c:Int} (w:World) (h:MemW w (.s 5 (tkRows ts)) (.slice aL n cap)):
  Calls Tryz.prog 25 #[rdV aL n cap (i:Int) d b l c] w fun e A=>e=.returned (tkV (nowT ts i))∧Below w.heap.size w A:=by
 have H:=zz h;clear h;have g:=H.out.len;rw [tkRows_len] at g;have f:=zz g.1;have I:=g.2.1;simp only [rdV];clear g
 by_cases x:i<n
 ·
  have E:(i:Int)<(n:Int):=by omega
  obtain ⟨r,o,t,rfl,u,Ht,j,p,q,B,C⟩:=tk_at H.out i x;have a:Hid (nowT ts i=t):=zz (now_at Ht.out);rw [a.out];clear Ht a;go_enter Tryz.func25,Tryz.ntmps25
  go_wp2
  refine bodyPost_ret (v:=tkV t) (by clear H f;simp [results,Tryz.results25,go_sem,tkV] <;> rfl) rfl ?_
  exact ⟨rfl,(below_new w _).alloc (by simp) _⟩
 ·
  have D: ¬((i:Int)<(n:Int)):=by omega
  by_cases y:n=0
  ·
   subst y;have z:ts=[]:=List.eq_nil_of_length_eq_zero f.out;subst z;have a:Hid (nowT [] i=noTk 0 0):=zz now_none;rw [a.out];clear a;go_enter Tryz.func25,Tryz.ntmps25
   go_wp2
   refine bodyPost_ret (v:=tkV (noTk 0 0)) (by clear H f;simp [results,Tryz.results25,go_sem,tkV,noTk] <;> rfl) rfl ?_
   exact ⟨rfl,(below_new w _).alloc (by simp) _⟩
  ·
   obtain ⟨m,rfl⟩:∃ m,n=m+1:=⟨n - 1,by omega⟩;obtain ⟨r,o,t,rfl,u,Ht,j,p,q,B,C⟩:=tk_at H.out m (by omega)
   have a:Hid (nowT ts i=noTk t.l t.c):=zz (now_past (by have :=f.out;omega) (by rw [List.getLast?_eq_getElem?,f.out];exact Ht.out))
   rw [a.out];clear Ht a j p q
   have F:(m:Int)+1 - 1=(m:Int):=by omega
   have G:(m:Int)≤9223372036854775807:=by have :=H.out.len;omega
   go_enter Tryz.func25,Tryz.ntmps25
   go_wp2
   refine bodyPost_ret (v:=tkV (noTk t.l t.c)) (by clear H f;simp [results,Tryz.results25,go_sem,tkV,noTk] <;> rfl) rfl ?_
   exact ⟨rfl,(below_new w _).alloc (by simp) _⟩
theorem failR_bad {i:Nat} {d l c:Int} (w:World) (_h:MemW w (.s 5 (tkRows ts)) (.slice aL n cap)):
  Calls Tryz.prog 62 #[rdV aL n cap (i:Int) d true l c] w fun e a=>e=.returned (rdV aL n cap (i:Int) d true l c)∧Below w.heap.size w a:=by
 clear _h;simp only [rdV];go_enter Tryz.func62,Tryz.ntmps62
 go_wp2
 refine bodyPost_ret (v:=rdV aL n cap (i:Int) d true l c) (by skip;simp [results,Tryz.results62,go_sem,rdV]) rfl ?_;exact ⟨rfl,(below_new w _).alloc (by simp) _⟩
theorem failR_ok {i:Nat} {d l c:Int} (w:World) (h:MemW w (.s 5 (tkRows ts)) (.slice aL n cap)):
  Calls Tryz.prog 62 #[rdV aL n cap (i:Int) d false l c] w fun e q=>e=.returned (rdV aL n cap (i:Int) d true (nowT ts i).l (nowT ts i).c)∧Below w.heap.size w q:=by
 have H:=zz h;clear h;have b:Hid (FarB w.heap.size w.heap.size w w):=zz (FarB.refl _ _ _);simp only [rdV];go_enter Tryz.func62,Tryz.ntmps62
 go_wp2_with (fail)
 generalize a:World.alloc w _=r;have m:=sizeA a;replace b:=fA b a;have g:=nB a (w.heap.size);clear a;generalize a:World.alloc r _=y;replace b:=fA b a;replace g:=bA g a;have f:=nB a (w.heap.size+1);clear a;clear m;refine (nowR_any _ (refTok b.out H.out)).mono ?_;rintro _ t ⟨rfl,j⟩;replace g:=kB g j;replace f:=kB f j;replace b:=kF b j;clear j;simp only [tkV];have o:=kc6 g;have p:=kc6 f
 go_wp2_with (fail)
 clear o p;generalize a:World.setCell t _ _=u;replace b:=fN1 b a;replace f:=bF1 f a;clear a;generalize a:World.setCell u _ _=x;replace b:=fN1 b a;replace f:=bF1 f a;clear a;generalize a:World.setCell x _ _=B;replace b:=fN1 b a;replace f:=bF1 f a;clear a;generalize a:World.setCell _ ⟨(w.heap.size+1),5,none⟩ _=A;replace b:=fN6 b a;replace f:=bS6 f a;clear a;have z:=kc6 f;refine bodyPost_ret (v:=rdV aL n cap (i:Int) d true (nowT ts i).l (nowT ts i).c) (by clear b H g f;simp [results,Tryz.results62,go_sem,rdV,z]) rfl ?_;exact ⟨rfl,refBelow b.out⟩
theorem isR_bad {i:Nat} {d l c:Int} {k:Int} {s:ByteArray} (w:World) (_h:MemW w (.s 5 (tkRows ts)) (.slice aL n cap)):
  Calls Tryz.prog 27 #[rdV aL n cap (i:Int) d true l c,.int .i64 k,.string s] w fun e a=>e=.returned (.bool false)∧Below w.heap.size w a:=by
 clear _h;simp only [rdV];go_enter Tryz.func27,Tryz.ntmps27
 go_wp2_with (fail)
 refine bodyPost_ret (results_tmp rfl _ _ _) rfl ?_;exact ⟨rfl,below_new w _⟩
theorem isR_ok {i:Nat} {d l c:Int} {k:Int} {s:ByteArray} (w:World) (h:MemW w (.s 5 (tkRows ts)) (.slice aL n cap)):
  Calls Tryz.prog 27 #[rdV aL n cap (i:Int) d false l c,.int .i64 k,.string s] w fun e p=>e=.returned (.bool (isT ts i k s))∧Below w.heap.size w p:=by
 have H:=zz h;clear h;have a:Hid (FarB w.heap.size w.heap.size w w):=zz (FarB.refl _ _ _);simp only [rdV];go_enter Tryz.func27,Tryz.ntmps27
 go_wp2_with (fail)
 generalize j:World.alloc w _=r;replace a:=fA a j;have g:=nB j (w.heap.size);clear j;refine (nowR_any _ (refTok a.out H.out)).mono ?_;rintro _ t ⟨rfl,f⟩;replace g:=kB g f;replace a:=kF a f;clear f;simp only [tkV]
 by_cases m:(nowT ts i).k=k
 rotate_left
 ·
  have q:((nowT ts i).k==k)=false:=by simp [m]
  go_wp2_with (fail)
  refine bodyPost_ret (results_tmp rfl _ _ _) rfl ?_;exact ⟨congrArg (fun b=>Ending.returned (.bool b)) (by unfold isT;rw [decide_eq_false m,Bool.false_and]),refBelow a.out⟩
 have o:=kc6 g
 go_wp2_with (fail)
 clear o;refine (nowR_any _ (refTok a.out H.out)).mono ?_;rintro _ u ⟨rfl,f⟩;replace a:=kF a f;clear f;simp only [tkV]
 go_wp2_with (fail)
 refine bodyPost_ret (results_tmp rfl _ _ _) rfl ?_;exact ⟨congrArg (fun b=>Ending.returned (.bool b)) (by unfold isT;rw [decide_eq_true m,Bool.true_and, ←ba_eq, ←toList_beq]),refBelow a.out⟩
theorem takeR_bad {i:Nat} {d l c:Int} {k:Int} {s:ByteArray} (w:World) (h:MemW w (.s 5 (tkRows ts)) (.slice aL n cap)):
  Calls Tryz.prog 26 #[rdV aL n cap (i:Int) d true l c,.int .i64 k,.string s] w fun e q=>e=.returned (rdV aL n cap (i:Int) d true l c)∧Below w.heap.size w q:=by
 have H:=zz h;clear h;have a:Hid (FarB w.heap.size w.heap.size w w):=zz (FarB.refl _ _ _);simp only [rdV];go_enter Tryz.func26,Tryz.ntmps26
 go_wp2_with (fail)
 generalize b:World.alloc w _=r;have m:=sizeA b;replace a:=fA a b;have j:=nB b (w.heap.size);clear b;generalize b:World.alloc r _=t;replace a:=fA a b;replace j:=bA j b;have f:=nB b (w.heap.size+1);clear b;clear m;refine (isR_bad _ (refTok a.out H.out)).mono ?_;rintro _ u ⟨rfl,g⟩;replace j:=kB j g;replace f:=kB f g;replace a:=kF a g;clear g;have o:=kc6 j
 go_wp2_with (fail)
 clear o;refine (failR_bad _ (refTok a.out H.out)).mono ?_;rintro _ x ⟨rfl,g⟩;replace f:=kB f g;replace a:=kF a g;clear g;simp only [rdV];have p:=kc6 f
 go_wp2_with (fail)
 clear p;generalize b:World.setCell _ ⟨(w.heap.size+1),5,none⟩ _=y;replace a:=fN6 a b;replace f:=bS6 f b;clear b;have z:=kc6 f;refine bodyPost_ret (v:=rdV aL n cap (i:Int) d true l c) (by clear a H j f;simp [results,Tryz.results26,go_sem,rdV,z]) rfl ?_;exact ⟨rfl,refBelow a.out⟩
theorem takeR_no {i:Nat} {d l c:Int} {k:Int} {s:ByteArray} (w:World) (h:MemW w (.s 5 (tkRows ts)) (.slice aL n cap)) (m:isT ts i k s=false):
  Calls Tryz.prog 26 #[rdV aL n cap (i:Int) d false l c,.int .i64 k,.string s] w fun e r=>e=.returned (rdV aL n cap (i:Int) d true (nowT ts i).l (nowT ts i).c)∧Below w.heap.size w r:=by
 have H:=zz h;clear h;have a:Hid (FarB w.heap.size w.heap.size w w):=zz (FarB.refl _ _ _);simp only [rdV];go_enter Tryz.func26,Tryz.ntmps26
 go_wp2_with (fail)
 generalize b:World.alloc w _=t;have o:=sizeA b;replace a:=fA a b;have j:=nB b (w.heap.size);clear b;generalize b:World.alloc t _=u;replace a:=fA a b;replace j:=bA j b;have f:=nB b (w.heap.size+1);clear b;clear o;refine (isR_ok _ (refTok a.out H.out)).mono ?_;rintro _ x ⟨rfl,g⟩;replace j:=kB j g;replace f:=kB f g;replace a:=kF a g;clear g;rw [m];have p:=kc6 j
 go_wp2_with (fail)
 clear p;refine (failR_ok _ (refTok a.out H.out)).mono ?_;rintro _ y ⟨rfl,g⟩;replace f:=kB f g;replace a:=kF a g;clear g;simp only [rdV];have q:=kc6 f
 go_wp2_with (fail)
 clear q;generalize b:World.setCell _ ⟨(w.heap.size+1),5,none⟩ _=A;replace a:=fN6 a b;replace f:=bS6 f b;clear b;have z:=kc6 f;refine bodyPost_ret (v:=rdV aL n cap (i:Int) d true (nowT ts i).l (nowT ts i).c) (by clear a H j f;simp [results,Tryz.results26,go_sem,rdV,z]) rfl ?_;exact ⟨rfl,refBelow a.out⟩
theorem takeR_ok {i:Nat} {d l c:Int} {k:Int} {s:ByteArray} (w:World) (h:MemW w (.s 5 (tkRows ts)) (.slice aL n cap)) (m:isT ts i k s=true) (A:k≠ -1):
  Calls Tryz.prog 26 #[rdV aL n cap (i:Int) d false l c,.int .i64 k,.string s] w fun e u=>e=.returned (rdV aL n cap ((i+1:Nat):Int) d false l c)∧Below w.heap.size w u:=by
 have H:=zz h;clear h;have b:Hid (FarB w.heap.size w.heap.size w w):=zz (FarB.refl _ _ _);simp only [rdV];go_enter Tryz.func26,Tryz.ntmps26;have p:i<ts.length:=isT_lt m (by assumption)
 have B:(i:Int)+1≤9223372036854775807:=by have o:=H.out.len;rw [tkRows_len] at o;omega
 clear p
 go_wp2_with (fail)
 generalize a:World.alloc w _=x;have q:=sizeA a;replace b:=fA b a;have g:=nB a (w.heap.size);clear a;generalize a:World.alloc x _=C;replace b:=fA b a;replace g:=bA g a;have f:=nB a (w.heap.size+1);clear a;clear q;refine (isR_ok _ (refTok b.out H.out)).mono ?_;rintro _ y ⟨rfl,j⟩;replace g:=kB g j;replace f:=kB f j;replace b:=kF b j;clear j;rw [m];have r:=kc6 g;have t:=kc6 f
 go_wp2_with (fail)
 clear r t;generalize a:World.setCell y _ _=E;replace b:=fN1 b a;replace f:=bF1 f a;clear a;generalize a:World.setCell _ ⟨(w.heap.size+1),5,none⟩ _=D;replace b:=fN6 b a;replace f:=bS6 f a;clear a;have z:=kc6 f;refine bodyPost_ret (v:=rdV aL n cap ((i+1:Nat):Int) d false l c) (by clear b H g f;simp [results,Tryz.results26,go_sem,rdV,z]) rfl ?_;exact ⟨rfl,refBelow b.out⟩
theorem downR_ok {i a:Nat} {l c:Int} (w:World) (h:MemW w (.s 5 (tkRows ts)) (.slice aL n cap)) (g:a<40) (j:i<ts.length):
  Calls Tryz.prog 105 #[rdV aL n cap (i:Int) (a:Int) false l c] w fun e d=>e=.returned (rdV aL n cap ((i+1:Nat):Int) ((a+1:Nat):Int) false l c)∧Below w.heap.size w d:=by
 have H:=zz h;clear h;simp only [rdV];go_enter Tryz.func105,Tryz.ntmps105
 have m:(i:Int)+1≤9223372036854775807:=by have b:=H.out.len;rw [tkRows_len] at b;omega
 have f: ¬((40:Int)≤(a:Int)):=by omega
 go_wp2_with (fail)
 refine bodyPost_ret (v:=rdV aL n cap ((i+1:Nat):Int) ((a+1:Nat):Int) false l c) (by clear H;simp [results,Tryz.results105,go_sem,rdV]) rfl ?_;exact ⟨rfl,(below_new w _).alloc (by simp) _⟩
theorem downR_bad {i:Nat} {l c:Int} (w:World) (h:MemW w (.s 5 (tkRows ts)) (.slice aL n cap)):
  Calls Tryz.prog 105 #[rdV aL n cap (i:Int) 40 false l c] w fun e m=>e=.returned (rdV aL n cap (i:Int) 40 true (nowT ts i).l (nowT ts i).c)∧Below w.heap.size w m:=by
 have H:=zz h;clear h;have a:Hid (FarB w.heap.size w.heap.size w w):=zz (FarB.refl _ _ _);simp only [rdV];go_enter Tryz.func105,Tryz.ntmps105
 go_wp2_with (fail)
 generalize b:World.alloc w _=o;have g:=sizeA b;replace a:=fA a b;clear b;generalize b:World.alloc o _=p;replace a:=fA a b;have d:=nB b (w.heap.size+1);clear b;clear g;refine (failR_ok _ (refTok a.out H.out)).mono ?_;rintro _ q ⟨rfl,f⟩;replace d:=kB d f;replace a:=kF a f;clear f;simp only [rdV];have j:=kc6 d
 go_wp2_with (fail)
 clear j;generalize b:World.setCell _ ⟨(w.heap.size+1),5,none⟩ _=r;replace a:=fN6 a b;replace d:=bS6 d b;clear b;have z:=kc6 d;refine bodyPost_ret (v:=rdV aL n cap (i:Int) 40 true (nowT ts i).l (nowT ts i).c) (by clear a H d;simp [results,Tryz.results105,go_sem,rdV,z]) rfl ?_;exact ⟨rfl,refBelow a.out⟩
end
end
section
open Go.RowKit
def rdS (aL:Option Addr) (n cap:Nat) (s:MS) (d:Int):Value:=rdV aL n cap (s.i:Int) d (!s.ok) (lB s.b) (cB s.b)
section
variable {ts:List Tk} {aL:Option Addr} {n cap:Nat}
theorem nowU (s:MS) (d:Int) (w:World) (h:MemW w (.s 5 (tkRows ts)) (.slice aL n cap)):Calls Tryz.prog 25 #[rdS aL n cap s d] w fun e a=>e=.returned (tkV (nowT ts s.i))∧Below w.heap.size w a:=nowR_any w h
theorem isU (s:MS) (d k:Int) (x:ByteArray) (w:World) (h:MemW w (.s 5 (tkRows ts)) (.slice aL n cap)):Calls Tryz.prog 27 #[rdS aL n cap s d,.int .i64 k,.string x] w fun e a=>e=.returned (.bool (isS ts s k x))∧Below w.heap.size w a:=by
  obtain ⟨i,b⟩:=s
  cases b with
  | none=>exact isR_ok w h
  | some p=>exact isR_bad w h
theorem takeU (s:MS) (d k:Int) (x:ByteArray) (w:World) (h:MemW w (.s 5 (tkRows ts)) (.slice aL n cap)) (hk:k≠ -1):Calls Tryz.prog 26 #[rdS aL n cap s d,.int .i64 k,.string x] w fun e w'=>e=.returned (rdS aL n cap (takeS ts s k x) d)∧Below w.heap.size w w':=by
  obtain ⟨i,b⟩:=s
  cases b with
  | none =>
    cases ht:isT ts i k x with
    | false =>
      have e:takeS ts ⟨i,none⟩ k x=failS ts ⟨i,none⟩:=by unfold takeS isS;rw [if_neg (by simp [ht])]
      rw [e];exact takeR_no w h ht
    | true =>
      have e:takeS ts ⟨i,none⟩ k x=⟨i+1,none⟩:=by unfold takeS isS;rw [if_pos (by simp [ht,MS.ok])];rfl
      rw [e];exact takeR_ok w h ht hk
  | some p =>
    have e:takeS ts ⟨i,some p⟩ k x=⟨i,some p⟩:=by unfold takeS isS;rw [if_neg (by simp [MS.ok])];rfl
    rw [e];exact takeR_bad w h
theorem downU40 {i a:Nat} {l c:Int} (w:World) (h:MemW w (.s 5 (tkRows ts)) (.slice aL n cap)) (b:a=40):
    Calls Tryz.prog 105 #[rdV aL n cap (i:Int) (a:Int) false l c] w fun e d=>e=.returned (rdV aL n cap (i:Int) (a:Int) true (nowT ts i).l (nowT ts i).c)∧Below w.heap.size w d:=by
  subst b;exact downR_bad w h
theorem typ_parts {f:Nat} {at':Bool} {deep i:Nat} {x:Tm} {s':MS} (h:typeM ts (f+1) (if at' then .atom else .typ) deep ⟨i,none⟩=some (x,s')):
    ((nowT ts i).k=2∧x=.mk 1 (nowT ts i).s 0 []∧s'=⟨i+1,none⟩)∨
    ((nowT ts i).k=3∧at'=true∧x=.mk 2 (nowT ts i).s 0 []∧s'=⟨i+1,none⟩)∨
    ((nowT ts i).k=3∧at'=false∧∃ z,typeM ts f (.atoms []) deep ⟨i+1,none⟩=some (z,s')∧x=.mk 2 (nowT ts i).s 0 z.args)∨
    ((nowT ts i).k≠2∧(nowT ts i).k≠3∧isT ts i 6 wOpen=false∧x=noTm∧s'=failS ts ⟨i,none⟩)∨
    ((nowT ts i).k≠2∧(nowT ts i).k≠3∧isT ts i 6 wOpen=true∧deep=40∧x=noTm∧s'=failS ts ⟨i,none⟩)∨
    ((nowT ts i).k≠2∧(nowT ts i).k≠3∧isT ts i 6 wOpen=true∧deep≠40∧∃ g sz,g≤f∧typeM ts g .typ (deep+1) ⟨i+1,none⟩=some (x,sz)∧s'=takeS ts sz 6 wClose):=by
  have atom:∀ g,g≤f+1→typeM ts g .atom deep ⟨i,none⟩=some (x,s')→(nowT ts i).k≠2→(nowT ts i).k≠3→
      (isT ts i 6 wOpen=false∧x=noTm∧s'=failS ts ⟨i,none⟩)∨(isT ts i 6 wOpen=true∧deep=40∧x=noTm∧s'=failS ts ⟨i,none⟩)∨
      (isT ts i 6 wOpen=true∧deep≠40∧∃ g sz,g≤f∧typeM ts g .typ (deep+1) ⟨i+1,none⟩=some (x,sz)∧s'=takeS ts sz 6 wClose):=by
    intro g hg h k2 k3
    cases g with
    | zero=>rw [typeM] at h;cases h
    | succ g =>
      rw [typeM,if_neg k2,if_neg k3] at h;obtain ⟨p,h1,h2⟩:=Option.map_eq_some_iff.1 h;obtain ⟨z,sz⟩:=p;cases h2
      have bad:∀ s:MS,s.ok=false→typeM ts g .typ (deep+1) s=some (z,sz)→z=noTm∧sz=s:=by
        intro s hs h
        cases g with
        | zero=>rw [typeM] at h;cases h
        | succ g =>
          rw [typeM,if_pos hs] at h;cases h;exact ⟨rfl,rfl⟩
      have badT:∀ s:MS,s.ok=false→∀ k v,takeS ts s k v=s:=by
        intro s hs k v;unfold takeS isS;rw [if_neg (by rw [hs];simp),fail_no hs]
      have hF:=fail_notok (ts:=ts) ⟨i,none⟩
      by_cases h40:deep=40
      · rw [if_pos h40,badT _ hF] at h1
        obtain ⟨e1,e2⟩:=bad _ hF h1;subst e2;rw [badT _ hF]
        cases ho:isT ts i 6 wOpen with
        | false=>exact .inl ⟨rfl,e1,rfl⟩
        | true=>exact .inr (.inl ⟨rfl,h40,e1,rfl⟩)
      · rw [if_neg h40] at h1
        cases ho:isT ts i 6 wOpen with
        | false =>
          have e:takeS ts ⟨i,none⟩ 6 wOpen=failS ts ⟨i,none⟩:=by unfold takeS isS;rw [if_neg (by simp [ho])]
          rw [e] at h1;obtain ⟨e1,e2⟩:=bad _ hF h1;subst e2;rw [badT _ hF];exact .inl ⟨rfl,e1,rfl⟩
        | true =>
          have e:takeS ts ⟨i,none⟩ 6 wOpen=⟨i+1,none⟩:=by unfold takeS isS;rw [if_pos (by simp [ho,MS.ok])];rfl
          rw [e] at h1;exact .inr (.inr ⟨rfl,h40,g,sz,by omega,h1,rfl⟩)
  cases at' with
  | true =>
    by_cases k2:(nowT ts i).k=2
    · rw [if_pos rfl,typeM,if_pos k2] at h
      cases h;exact .inl ⟨k2,rfl,rfl⟩
    · by_cases k3:(nowT ts i).k=3
      · rw [if_pos rfl,typeM,if_neg k2,if_pos k3] at h
        cases h;exact .inr (.inl ⟨k3,rfl,rfl,rfl⟩)
      · rcases atom _ (Nat.le_refl _) h k2 k3 with h | h | h
        · exact .inr (.inr (.inr (.inl ⟨k2,k3,h⟩)))
        · exact .inr (.inr (.inr (.inr (.inl ⟨k2,k3,h⟩))))
        · exact .inr (.inr (.inr (.inr (.inr ⟨k2,k3,h⟩))))
  | false =>
    rw [if_neg (by decide),typeM,if_neg (by simp [MS.ok])] at h
    by_cases k3:(nowT ts i).k=3
    · rw [if_pos k3] at h
      obtain ⟨p,h1,h2⟩:=Option.map_eq_some_iff.1 h;obtain ⟨z,sz⟩:=p;cases h2;exact .inr (.inr (.inl ⟨k3,rfl,z,h1,rfl⟩))
    · rw [if_neg k3] at h
      by_cases k2:(nowT ts i).k=2
      · cases f with
        | zero=>rw [typeM] at h;cases h
        | succ f =>
          rw [typeM,if_pos k2] at h;cases h;exact .inl ⟨k2,rfl,rfl⟩
      · rcases atom _ (Nat.le_succ _) h k2 k3 with h | h | h
        · exact .inr (.inr (.inr (.inl ⟨k2,k3,h⟩)))
        · exact .inr (.inr (.inr (.inr (.inl ⟨k2,k3,h⟩))))
        · exact .inr (.inr (.inr (.inr (.inr ⟨k2,k3,h⟩))))
end
end
section
open Go.RowKit
theorem farS1 {g:Nat} {a w:World} (h:Far (fun b=>b=g) a w) (j:Nat) (v:Value):Far (fun b=>b=g) a (w.setCell ⟨g,j,none⟩ v):=h.setCell (p:=⟨g,j,none⟩) rfl v
section
variable {ts:List Tk} {aL:Option Addr} {n cap:Nat}
theorem nameR_bad {i:Nat} {d l c:Int} {k:Int} (w:World) (h:MemW w (.s 5 (tkRows ts)) (.slice aL n cap)):
  Calls Tryz.prog 63 #[rdV aL n cap (i:Int) d true l c,.int .i64 k] w fun e u=>e=.returned (.tuple #[rdV aL n cap (i:Int) d true l c,.string ⟨#[]⟩])∧Below w.heap.size w u:=by
 have H:=zz h;clear h;have b:Hid (FarB w.heap.size w.heap.size w w):=zz (FarB.refl _ _ _);simp only [rdV];go_enter Tryz.func63,Tryz.ntmps63
 go_wp2_with (fail)
 generalize a:World.alloc w _=y;have p:=sizeA a;replace b:=fA b a;have j:=nB a (w.heap.size);clear a;generalize a:World.alloc y _=x;have q:=sizeA a;replace b:=fA b a;replace j:=bA j a;have f:=nB a (w.heap.size+1);clear a
 have B:x.heap.size=w.heap.size+2:=by omega
 clear p q;refine (nowR_any _ (refTok b.out H.out)).mono ?_;rintro _ m ⟨rfl,g⟩;replace j:=kB j g;replace f:=kB f g;replace b:=kF b g;have A:=g.size;clear g;simp only [tkV];have r:=kc6 j;have o:=i01_0 w m
 go_wp2_with (fail)
 clear r;generalize a:World.alloc m _=C;replace b:=fA b a;replace f:=bA f a;clear a;clear o;refine (failR_bad _ (refTok b.out H.out)).mono ?_;rintro _ D ⟨rfl,g⟩;replace f:=kB f g;replace b:=kF b g;clear g;simp only [rdV];have t:=kc6 f
 go_wp2_with (fail)
 clear t;generalize a:World.setCell _ ⟨(w.heap.size+1),5,none⟩ _=E;replace b:=fN6 b a;replace f:=bS6 f a;clear a;have z:=kc6 f;refine bodyPost_ret (v:=.tuple #[rdV aL n cap (i:Int) d true l c,.string ⟨#[]⟩]) (by clear b H j f;simp [results,Tryz.results63,go_sem,rdV,z]) rfl ?_;exact ⟨rfl,refBelow b.out⟩
theorem nameR_no {i:Nat} {d l c:Int} {k:Int} (w:World) (h:MemW w (.s 5 (tkRows ts)) (.slice aL n cap)) (p: ¬(nowT ts i).k=k):
  Calls Tryz.prog 63 #[rdV aL n cap (i:Int) d false l c,.int .i64 k] w fun e x=>e=.returned (.tuple #[rdV aL n cap (i:Int) d true (nowT ts i).l (nowT ts i).c,.string ⟨#[]⟩])∧Below w.heap.size w x:=by
 have H:=zz h;clear h;have b:Hid (FarB w.heap.size w.heap.size w w):=zz (FarB.refl _ _ _);simp only [rdV];go_enter Tryz.func63,Tryz.ntmps63
 go_wp2_with (fail)
 generalize a:World.alloc w _=A;have q:=sizeA a;replace b:=fA b a;have j:=nB a (w.heap.size);clear a;generalize a:World.alloc A _=y;have r:=sizeA a;replace b:=fA b a;replace j:=bA j a;have f:=nB a (w.heap.size+1);clear a
 have D:y.heap.size=w.heap.size+2:=by omega
 clear q r;refine (nowR_any _ (refTok b.out H.out)).mono ?_;rintro _ m ⟨rfl,g⟩;replace j:=kB j g;replace f:=kB f g;replace b:=kF b g;have C:=g.size;clear g;simp only [tkV]
 have B:((nowT ts i).k != k)=true:=by simp [p]
 have t:=kc6 j;have o:=i01_0 w m
 go_wp2_with (fail)
 clear t;generalize a:World.alloc m _=E;replace b:=fA b a;replace f:=bA f a;clear a;clear o;refine (failR_ok _ (refTok b.out H.out)).mono ?_;rintro _ F ⟨rfl,g⟩;replace f:=kB f g;replace b:=kF b g;clear g;simp only [rdV];have u:=kc6 f
 go_wp2_with (fail)
 clear u;generalize a:World.setCell _ ⟨(w.heap.size+1),5,none⟩ _=G;replace b:=fN6 b a;replace f:=bS6 f a;clear a;have z:=kc6 f;refine bodyPost_ret (v:=.tuple #[rdV aL n cap (i:Int) d true (nowT ts i).l (nowT ts i).c,.string ⟨#[]⟩]) (by clear b H j f;simp [results,Tryz.results63,go_sem,rdV,z]) rfl ?_;exact ⟨rfl,refBelow b.out⟩
theorem nameR_ok {i:Nat} {d l c:Int} {k:Int} (w:World) (h:MemW w (.s 5 (tkRows ts)) (.slice aL n cap)) (F:(nowT ts i).k=k) (G:k≠ -1):
  Calls Tryz.prog 63 #[rdV aL n cap (i:Int) d false l c,.int .i64 k] w fun e x=>e=.returned (.tuple #[rdV aL n cap ((i+1:Nat):Int) d false l c,.string (nowT ts i).s])∧Below w.heap.size w x:=by
 have H:=zz h;clear h;have f:Hid (FarB w.heap.size w.heap.size w w):=zz (FarB.refl _ _ _);simp only [rdV];go_enter Tryz.func63,Tryz.ntmps63;have E:i<ts.length:=now_lt (by rw [F];exact G)
 have Q:(i:Int)+1≤9223372036854775807:=by have C:=H.out.len;rw [tkRows_len] at C;omega
 clear E
 go_wp2_with (fail)
 generalize a:World.alloc w _=L;have t:=sizeA a;replace f:=fA f a;have j:=nB a (w.heap.size);clear a;generalize a:World.alloc L _=J;have u:=sizeA a;replace f:=fA f a;replace j:=bA j a;have g:=nB a (w.heap.size+1);clear a
 have T:J.heap.size=w.heap.size+2:=by omega
 clear t u;refine (nowR_any _ (refTok f.out H.out)).mono ?_;rintro _ r ⟨rfl,q⟩;replace j:=kB j q;replace g:=kB g q;replace f:=kF f q;have R:=q.size;clear q;simp only [tkV];have o:=kc6 j;have D:=i01_0 w r
 go_wp2_with (fail)
 clear o;generalize a:World.setCell r _ _=M;have t:=sizeS1 a;replace f:=fN1 f a;replace j:=s6_1 j a;replace g:=bF1 g a;clear a;generalize a:World.alloc M _=B;have u:=sizeA a;replace f:=fA f a;replace j:=bA j a;replace g:=bA g a;have y:=nB a (r.heap.size);clear a
 have U:B.heap.size=r.heap.size+1:=by omega
 clear t u;clear D;have o:=kc6 j;have I:=kc6 g;have p:=kc5 y;refine wp_region_held_drew (S:=fun x=>Far (fun b=>b=(w.heap.size+1)) (B) x) (by kernel_rfl) (Far.of (below_drew _)) (fun O=>?_);refine takeA 0 (v:=?_) rfl ?_ ?_;rotate_left
 · (intro w m;replace o:=Far.c6z o m (by intro e;have e:_=_:=e;omega);replace p:=Far.c5z p m (by intro e;have e:_=_:=e;omega);go_simp;try rfl)
 (try simp only [pu]);refine takeA 1 (v:=?_) rfl ?_ ?_;rotate_left
 · (intro w m;replace o:=Far.c6z o m (by intro e;have e:_=_:=e;omega);replace p:=Far.c5z p m (by intro e;have e:_=_:=e;omega);go_simp;try rfl)
 (try simp only [pu]);refine takeA 2 (v:=?_) rfl ?_ ?_;rotate_left
 · (intro w m;replace o:=Far.c6z o m (by intro e;have e:_=_:=e;omega);replace p:=Far.c5z p m (by intro e;have e:_=_:=e;omega);go_simp;try rfl)
 (try simp only [pu]);refine callA 3 rfl fun K A=>?_;go_simp;refine A.out _ _ ?_ (fun P=>?_);· exact (by refine Far.trans ?_ (Far.of (below_drew _));(iterate 6 (refine farS1 ?_ _ _));exact Far.refl _ _)
 clear A K;refine takeA 4 (v:=?_) rfl ?_ ?_;rotate_left
 · (intro w m;go_simp;try rfl)
 (try simp only [pu]);refine wpAnyH_done (by kernel_rfl) ?_ _;clear o I p;generalize a:World.setCell _ ⟨(w.heap.size+1),5,none⟩ _=N at *;replace f:=fN6 f a;replace g:=bS6 g a;clear a;generalize a:(N.drew)=V at *;replace f:=fD f a;replace g:=bD g a;clear a
 go_wp2_with (fail)
 have z:=kc6 g;refine bodyPost_ret (v:=.tuple #[rdV aL n cap ((i+1:Nat):Int) d false l c,.string (nowT ts i).s]) (by clear f H j g y;simp [results,Tryz.results63,go_sem,rdV,z]) rfl ?_;exact ⟨rfl,refBelow f.out⟩
theorem plainR_bad {i:Nat} {d l c:Int} (w:World) (h:MemW w (.s 5 (tkRows ts)) (.slice aL n cap)):
  Calls Tryz.prog 104 #[rdV aL n cap (i:Int) d true l c] w fun e x=>e=.returned (.tuple #[rdV aL n cap (i:Int) d true l c,.agg #[.int .i64 0,.string ⟨#[]⟩,.int .i64 0,.slice none 0 0,.int .i64 0,.int .i64 0]])∧Below w.heap.size w x:=by
 have H:=zz h;clear h;have b:Hid (FarB w.heap.size w.heap.size w w):=zz (FarB.refl _ _ _);simp only [rdV];go_enter Tryz.func104,Tryz.ntmps104
 go_wp2_with (fail)
 generalize a:World.alloc w _=B;have p:=sizeA a;replace b:=fA b a;have j:=nB a (w.heap.size);clear a;generalize a:World.alloc B _=C;have q:=sizeA a;replace b:=fA b a;replace j:=bA j a;have f:=nB a (w.heap.size+1);clear a;generalize a:World.alloc C _=A;have r:=sizeA a;replace b:=fA b a;replace j:=bA j a;replace f:=bA f a;have g:=nB a (w.heap.size+2);clear a
 have I:A.heap.size=w.heap.size+3:=by omega
 clear p q r;refine (nowR_any _ (refTok b.out H.out)).mono ?_;rintro _ D ⟨rfl,m⟩;replace j:=kB j m;replace f:=kB f m;replace g:=kB g m;replace b:=kF b m;have G:=m.size;clear m;simp only [tkV];have t:=kc6 j;have u:=kc6 f;have F:=kc6 g;have o:=i012_0 w D
 go_wp2_with (fail)
 clear t u F;generalize a:World.setCell _ ⟨(w.heap.size+1),5,none⟩ _=K;replace b:=fN6 b a;replace f:=bS6 f a;replace g:=bF6 g a;clear a;generalize a:World.setCell _ ⟨(w.heap.size+2),5,none⟩ _=E;replace b:=fN6 b a;replace f:=bF6 f a;replace g:=bS6 g a;clear a;generalize a:World.alloc E _=J;replace b:=fA b a;replace f:=bA f a;replace g:=bA g a;clear a;clear o;have z:=kc6 f;have y:=kc6 g;refine bodyPost_ret (v:=.tuple #[rdV aL n cap (i:Int) d true l c,.agg #[.int .i64 0,.string ⟨#[]⟩,.int .i64 0,.slice none 0 0,.int .i64 0,.int .i64 0]]) (by clear b H j f g;simp [results,Tryz.results104,go_sem,rdV,z,y]) rfl ?_;exact ⟨rfl,refBelow b.out⟩
theorem plainR_none {i:Nat} {d l c:Int} (w:World) (h:MemW w (.s 5 (tkRows ts)) (.slice aL n cap)) (p: ¬(nowT ts i).k=2) (q: ¬(nowT ts i).k=3) (r: ¬(nowT ts i).k=4):
  Calls Tryz.prog 104 #[rdV aL n cap (i:Int) d false l c] w fun e C=>e=.returned (.tuple #[rdV aL n cap (i:Int) d false l c,.agg #[.int .i64 0,.string ⟨#[]⟩,.int .i64 0,.slice none 0 0,.int .i64 0,.int .i64 0]])∧Below w.heap.size w C:=by
 have H:=zz h;clear h;have b:Hid (FarB w.heap.size w.heap.size w w):=zz (FarB.refl _ _ _);simp only [rdV];go_enter Tryz.func104,Tryz.ntmps104
 go_wp2_with (fail)
 generalize a:World.alloc w _=E;have t:=sizeA a;replace b:=fA b a;have j:=nB a (w.heap.size);clear a;generalize a:World.alloc E _=F;have u:=sizeA a;replace b:=fA b a;replace j:=bA j a;have f:=nB a (w.heap.size+1);clear a;generalize a:World.alloc F _=D;have x:=sizeA a;replace b:=fA b a;replace j:=bA j a;replace f:=bA f a;have g:=nB a (w.heap.size+2);clear a
 have O:D.heap.size=w.heap.size+3:=by omega
 clear t u x;refine (nowR_any _ (refTok b.out H.out)).mono ?_;rintro _ G ⟨rfl,m⟩;replace j:=kB j m;replace f:=kB f m;replace g:=kB g m;replace b:=kF b m;have N:=m.size;clear m;simp only [tkV]
 have K:((nowT ts i).k==2)=false:=by simp [p]
 have L:((nowT ts i).k==3)=false:=by simp [q]
 have M:((nowT ts i).k==4)=false:=by simp [r]
 have A:=kc6 j;have B:=kc6 f;have J:=kc6 g;have o:=i012_0 w G
 go_wp2_with (fail)
 clear A B J;generalize a:World.setCell _ ⟨(w.heap.size+1),5,none⟩ _=Q;replace b:=fN6 b a;replace f:=bS6 f a;replace g:=bF6 g a;clear a;generalize a:World.setCell _ ⟨(w.heap.size+2),5,none⟩ _=I;replace b:=fN6 b a;replace f:=bF6 f a;replace g:=bS6 g a;clear a;generalize a:World.alloc I _=P;replace b:=fA b a;replace f:=bA f a;replace g:=bA g a;clear a;clear o;have z:=kc6 f;have y:=kc6 g;refine bodyPost_ret (v:=.tuple #[rdV aL n cap (i:Int) d false l c,.agg #[.int .i64 0,.string ⟨#[]⟩,.int .i64 0,.slice none 0 0,.int .i64 0,.int .i64 0]]) (by clear b H j f g;simp [results,Tryz.results104,go_sem,rdV,z,y]) rfl ?_;exact ⟨rfl,refBelow b.out⟩
theorem plainR_2 {i:Nat} {d l c:Int} (w:World) (h:MemW w (.s 5 (tkRows ts)) (.slice aL n cap)) (L:(nowT ts i).k=2):
  Calls Tryz.prog 104 #[rdV aL n cap (i:Int) d false l c] w fun e C=>e=.returned (.tuple #[rdV aL n cap ((i+1:Nat):Int) d false l c,.agg #[.int .i64 1,.string (nowT ts i).s,.int .i64 0,.slice none 0 0,.int .i64 (nowT ts i).l,.int .i64 (nowT ts i).c]])∧Below w.heap.size w C:=by
 have H:=zz h;clear h;have f:Hid (FarB w.heap.size w.heap.size w w):=zz (FarB.refl _ _ _);simp only [rdV];go_enter Tryz.func104,Tryz.ntmps104;have J:i<ts.length:=now_lt (by rw [L];decide)
 have X:(i:Int)+1≤9223372036854775807:=by have F:=H.out.len;rw [tkRows_len] at F;omega
 clear J
 go_wp2_with (fail)
 generalize a:World.alloc w _=P;have A:=sizeA a;replace f:=fA f a;have q:=nB a (w.heap.size);clear a;generalize a:World.alloc P _=Q;have B:=sizeA a;replace f:=fA f a;replace q:=bA q a;have g:=nB a (w.heap.size+1);clear a;generalize a:World.alloc Q _=O;have M:=sizeA a;replace f:=fA f a;replace q:=bA q a;replace g:=bA g a;have m:=nB a (w.heap.size+2);clear a
 have Z:O.heap.size=w.heap.size+3:=by omega
 clear A B M;refine (nowR_any _ (refTok f.out H.out)).mono ?_;rintro _ x ⟨rfl,t⟩;replace q:=kB q t;replace g:=kB g t;replace m:=kB m t;replace f:=kF f t;have Y:=t.size;clear t;simp only [tkV];have o:=kc6 q;have G:=i012_0 w x
 go_wp2_with (fail)
 clear o;generalize a:World.setCell x _ _=R;have A:=sizeS1 a;replace f:=fN1 f a;replace q:=s6_1 q a;replace g:=bF1 g a;replace m:=bF1 m a;clear a;generalize a:World.alloc R _=E;have B:=sizeA a;replace f:=fA f a;replace q:=bA q a;replace g:=bA g a;replace m:=bA m a;have D:=nB a (x.heap.size);clear a
 have a0:E.heap.size=x.heap.size+1:=by omega
 clear A B;clear G;have o:=kc6 q;have N:=kc6 g;have r:=kc5 D;refine wp_region_held_drew (S:=fun C=>Far (fun b=>b=(w.heap.size+1)∨b=(w.heap.size+2)) (E) C) (by kernel_rfl) (Far.of (below_drew _)) (fun V=>?_);refine takeA 0 (v:=?_) rfl ?_ ?_;rotate_left
 · (intro w j;replace o:=Far.c6z o j;replace r:=Far.c5z r j;go_simp;try rfl)
 (try simp only [pu]);refine takeA 1 (v:=?_) rfl ?_ ?_;rotate_left
 · (intro w j;replace o:=Far.c6z o j;replace r:=Far.c5z r j;go_simp;try rfl)
 (try simp only [pu]);refine takeA 2 (v:=?_) rfl ?_ ?_;rotate_left
 · (intro w j;replace o:=Far.c6z o j;replace r:=Far.c5z r j;go_simp;try rfl)
 (try simp only [pu]);refine takeA 3 (v:=?_) rfl ?_ ?_;rotate_left
 · (intro w j;replace o:=Far.c6z o j;replace r:=Far.c5z r j;go_simp;try rfl)
 (try simp only [pu]);refine takeA 4 (v:=?_) rfl ?_ ?_;rotate_left
 · (intro w j;replace o:=Far.c6z o j;replace r:=Far.c5z r j;go_simp;try rfl)
 (try simp only [pu]);refine takeA 5 (v:=?_) rfl ?_ ?_;rotate_left
 · (intro w j;replace o:=Far.c6z o j;replace r:=Far.c5z r j;go_simp;try rfl)
 (try simp only [pu]);refine callA 6 rfl fun K u=>?_;go_simp;refine u.out _ _ ?_ (fun I=>?_);· exact (by refine Far.trans ?_ (Far.of (below_drew _));(iterate 6 (refine Far.setCell (p:=⟨(w.heap.size+1),_,none⟩) ?_ (.inl rfl) _));exact Far.refl _ _)
 clear u K;clear o N r;generalize a:World.setCell _ ⟨(w.heap.size+1),5,none⟩ _=T at *;replace f:=fN6 f a;replace g:=bS6 g a;replace m:=bF6 m a;clear a;generalize a:(T.drew)=w4 at *;replace f:=fD f a;replace g:=bD g a;replace m:=bD m a;clear a;have U:=kc6 m;refine callA 7 rfl fun K u=>?_;go_simp;refine u.out _ _ ?_ (fun W=>?_);· exact (by (iterate 6 (refine Far.setCell (p:=⟨(w.heap.size+2),_,none⟩) ?_ (.inr rfl) _));exact I)
 clear u K;refine wpAnyH_done (by kernel_rfl) ?_ _;clear U;generalize a:World.setCell _ ⟨(w.heap.size+2),5,none⟩ _=w5;replace f:=fN6 f a;replace g:=bF6 g a;replace m:=bS6 m a;clear a
 go_wp2_with (fail)
 have z:=kc6 g;have y:=kc6 m;refine bodyPost_ret (v:=.tuple #[rdV aL n cap ((i+1:Nat):Int) d false l c,.agg #[.int .i64 1,.string (nowT ts i).s,.int .i64 0,.slice none 0 0,.int .i64 (nowT ts i).l,.int .i64 (nowT ts i).c]]) (by clear f H q g m D;simp [results,Tryz.results104,go_sem,rdV,z,y]) rfl ?_;exact ⟨rfl,refBelow f.out⟩
theorem plainR_3 {i:Nat} {d l c:Int} (w:World) (h:MemW w (.s 5 (tkRows ts)) (.slice aL n cap)) (L:(nowT ts i).k=3):
  Calls Tryz.prog 104 #[rdV aL n cap (i:Int) d false l c] w fun e C=>e=.returned (.tuple #[rdV aL n cap ((i+1:Nat):Int) d false l c,.agg #[.int .i64 2,.string (nowT ts i).s,.int .i64 0,.slice none 0 0,.int .i64 (nowT ts i).l,.int .i64 (nowT ts i).c]])∧Below w.heap.size w C:=by
 have H:=zz h;clear h;have f:Hid (FarB w.heap.size w.heap.size w w):=zz (FarB.refl _ _ _);simp only [rdV];go_enter Tryz.func104,Tryz.ntmps104;have J:i<ts.length:=now_lt (by rw [L];decide)
 have X:(i:Int)+1≤9223372036854775807:=by have F:=H.out.len;rw [tkRows_len] at F;omega
 clear J
 go_wp2_with (fail)
 generalize a:World.alloc w _=P;have A:=sizeA a;replace f:=fA f a;have q:=nB a (w.heap.size);clear a;generalize a:World.alloc P _=Q;have B:=sizeA a;replace f:=fA f a;replace q:=bA q a;have g:=nB a (w.heap.size+1);clear a;generalize a:World.alloc Q _=O;have M:=sizeA a;replace f:=fA f a;replace q:=bA q a;replace g:=bA g a;have m:=nB a (w.heap.size+2);clear a
 have Z:O.heap.size=w.heap.size+3:=by omega
 clear A B M;refine (nowR_any _ (refTok f.out H.out)).mono ?_;rintro _ x ⟨rfl,t⟩;replace q:=kB q t;replace g:=kB g t;replace m:=kB m t;replace f:=kF f t;have Y:=t.size;clear t;simp only [tkV];have o:=kc6 q;have G:=i012_0 w x
 go_wp2_with (fail)
 clear o;generalize a:World.setCell x _ _=R;have A:=sizeS1 a;replace f:=fN1 f a;replace q:=s6_1 q a;replace g:=bF1 g a;replace m:=bF1 m a;clear a;generalize a:World.alloc R _=E;have B:=sizeA a;replace f:=fA f a;replace q:=bA q a;replace g:=bA g a;replace m:=bA m a;have D:=nB a (x.heap.size);clear a
 have a0:E.heap.size=x.heap.size+1:=by omega
 clear A B;clear G;have o:=kc6 q;have N:=kc6 g;have r:=kc5 D;refine wp_region_held_drew (S:=fun C=>Far (fun b=>b=(w.heap.size+1)∨b=(w.heap.size+2)) (E) C) (by kernel_rfl) (Far.of (below_drew _)) (fun V=>?_);refine takeA 0 (v:=?_) rfl ?_ ?_;rotate_left
 · (intro w j;replace o:=Far.c6z o j;replace r:=Far.c5z r j;go_simp;try rfl)
 (try simp only [pu]);refine takeA 1 (v:=?_) rfl ?_ ?_;rotate_left
 · (intro w j;replace o:=Far.c6z o j;replace r:=Far.c5z r j;go_simp;try rfl)
 (try simp only [pu]);refine takeA 2 (v:=?_) rfl ?_ ?_;rotate_left
 · (intro w j;replace o:=Far.c6z o j;replace r:=Far.c5z r j;go_simp;try rfl)
 (try simp only [pu]);refine takeA 3 (v:=?_) rfl ?_ ?_;rotate_left
 · (intro w j;replace o:=Far.c6z o j;replace r:=Far.c5z r j;go_simp;try rfl)
 (try simp only [pu]);refine takeA 4 (v:=?_) rfl ?_ ?_;rotate_left
 · (intro w j;replace o:=Far.c6z o j;replace r:=Far.c5z r j;go_simp;try rfl)
 (try simp only [pu]);refine takeA 5 (v:=?_) rfl ?_ ?_;rotate_left
 · (intro w j;replace o:=Far.c6z o j;replace r:=Far.c5z r j;go_simp;try rfl)
 (try simp only [pu]);refine callA 6 rfl fun K u=>?_;go_simp;refine u.out _ _ ?_ (fun I=>?_);· exact (by refine Far.trans ?_ (Far.of (below_drew _));(iterate 6 (refine Far.setCell (p:=⟨(w.heap.size+1),_,none⟩) ?_ (.inl rfl) _));exact Far.refl _ _)
 clear u K;clear o N r;generalize a:World.setCell _ ⟨(w.heap.size+1),5,none⟩ _=T at *;replace f:=fN6 f a;replace g:=bS6 g a;replace m:=bF6 m a;clear a;generalize a:(T.drew)=w4 at *;replace f:=fD f a;replace g:=bD g a;replace m:=bD m a;clear a;have U:=kc6 m;refine callA 7 rfl fun K u=>?_;go_simp;refine u.out _ _ ?_ (fun W=>?_);· exact (by (iterate 6 (refine Far.setCell (p:=⟨(w.heap.size+2),_,none⟩) ?_ (.inr rfl) _));exact I)
 clear u K;refine wpAnyH_done (by kernel_rfl) ?_ _;clear U;generalize a:World.setCell _ ⟨(w.heap.size+2),5,none⟩ _=w5;replace f:=fN6 f a;replace g:=bF6 g a;replace m:=bS6 m a;clear a
 go_wp2_with (fail)
 have z:=kc6 g;have y:=kc6 m;refine bodyPost_ret (v:=.tuple #[rdV aL n cap ((i+1:Nat):Int) d false l c,.agg #[.int .i64 2,.string (nowT ts i).s,.int .i64 0,.slice none 0 0,.int .i64 (nowT ts i).l,.int .i64 (nowT ts i).c]]) (by clear f H q g m D;simp [results,Tryz.results104,go_sem,rdV,z,y]) rfl ?_;exact ⟨rfl,refBelow f.out⟩
theorem plainR_4 {i:Nat} {d l c:Int} (w:World) (h:MemW w (.s 5 (tkRows ts)) (.slice aL n cap)) (L:(nowT ts i).k=4):
  Calls Tryz.prog 104 #[rdV aL n cap (i:Int) d false l c] w fun e C=>e=.returned (.tuple #[rdV aL n cap ((i+1:Nat):Int) d false l c,.agg #[.int .i64 3,.string ⟨#[]⟩,.int .i64 (nowT ts i).n,.slice none 0 0,.int .i64 (nowT ts i).l,.int .i64 (nowT ts i).c]])∧Below w.heap.size w C:=by
 have H:=zz h;clear h;have f:Hid (FarB w.heap.size w.heap.size w w):=zz (FarB.refl _ _ _);simp only [rdV];go_enter Tryz.func104,Tryz.ntmps104;have J:i<ts.length:=now_lt (by rw [L];decide)
 have X:(i:Int)+1≤9223372036854775807:=by have F:=H.out.len;rw [tkRows_len] at F;omega
 clear J
 go_wp2_with (fail)
 generalize a:World.alloc w _=P;have A:=sizeA a;replace f:=fA f a;have q:=nB a (w.heap.size);clear a;generalize a:World.alloc P _=Q;have B:=sizeA a;replace f:=fA f a;replace q:=bA q a;have g:=nB a (w.heap.size+1);clear a;generalize a:World.alloc Q _=O;have M:=sizeA a;replace f:=fA f a;replace q:=bA q a;replace g:=bA g a;have m:=nB a (w.heap.size+2);clear a
 have Z:O.heap.size=w.heap.size+3:=by omega
 clear A B M;refine (nowR_any _ (refTok f.out H.out)).mono ?_;rintro _ x ⟨rfl,t⟩;replace q:=kB q t;replace g:=kB g t;replace m:=kB m t;replace f:=kF f t;have Y:=t.size;clear t;simp only [tkV];have o:=kc6 q;have G:=i012_0 w x
 go_wp2_with (fail)
 clear o;generalize a:World.setCell x _ _=R;have A:=sizeS1 a;replace f:=fN1 f a;replace q:=s6_1 q a;replace g:=bF1 g a;replace m:=bF1 m a;clear a;generalize a:World.alloc R _=E;have B:=sizeA a;replace f:=fA f a;replace q:=bA q a;replace g:=bA g a;replace m:=bA m a;have D:=nB a (x.heap.size);clear a
 have a0:E.heap.size=x.heap.size+1:=by omega
 clear A B;clear G;have o:=kc6 q;have N:=kc6 g;have r:=kc5 D;refine wp_region_held_drew (S:=fun C=>Far (fun b=>b=(w.heap.size+1)∨b=(w.heap.size+2)) (E) C) (by kernel_rfl) (Far.of (below_drew _)) (fun V=>?_);refine takeA 0 (v:=?_) rfl ?_ ?_;rotate_left
 · (intro w j;replace o:=Far.c6z o j;replace r:=Far.c5z r j;go_simp;try rfl)
 (try simp only [pu]);refine takeA 1 (v:=?_) rfl ?_ ?_;rotate_left
 · (intro w j;replace o:=Far.c6z o j;replace r:=Far.c5z r j;go_simp;try rfl)
 (try simp only [pu]);refine takeA 2 (v:=?_) rfl ?_ ?_;rotate_left
 · (intro w j;replace o:=Far.c6z o j;replace r:=Far.c5z r j;go_simp;try rfl)
 (try simp only [pu]);refine takeA 3 (v:=?_) rfl ?_ ?_;rotate_left
 · (intro w j;replace o:=Far.c6z o j;replace r:=Far.c5z r j;go_simp;try rfl)
 (try simp only [pu]);refine takeA 4 (v:=?_) rfl ?_ ?_;rotate_left
 · (intro w j;replace o:=Far.c6z o j;replace r:=Far.c5z r j;go_simp;try rfl)
 (try simp only [pu]);refine takeA 5 (v:=?_) rfl ?_ ?_;rotate_left
 · (intro w j;replace o:=Far.c6z o j;replace r:=Far.c5z r j;go_simp;try rfl)
 (try simp only [pu]);refine callA 6 rfl fun K u=>?_;go_simp;refine u.out _ _ ?_ (fun I=>?_);· exact (by refine Far.trans ?_ (Far.of (below_drew _));(iterate 6 (refine Far.setCell (p:=⟨(w.heap.size+1),_,none⟩) ?_ (.inl rfl) _));exact Far.refl _ _)
 clear u K;clear o N r;generalize a:World.setCell _ ⟨(w.heap.size+1),5,none⟩ _=T at *;replace f:=fN6 f a;replace g:=bS6 g a;replace m:=bF6 m a;clear a;generalize a:(T.drew)=w4 at *;replace f:=fD f a;replace g:=bD g a;replace m:=bD m a;clear a;have U:=kc6 m;refine callA 7 rfl fun K u=>?_;go_simp;refine u.out _ _ ?_ (fun W=>?_);· exact (by (iterate 6 (refine Far.setCell (p:=⟨(w.heap.size+2),_,none⟩) ?_ (.inr rfl) _));exact I)
 clear u K;refine wpAnyH_done (by kernel_rfl) ?_ _;clear U;generalize a:World.setCell _ ⟨(w.heap.size+2),5,none⟩ _=w5;replace f:=fN6 f a;replace g:=bF6 g a;replace m:=bS6 m a;clear a
 go_wp2_with (fail)
 have z:=kc6 g;have y:=kc6 m;refine bodyPost_ret (v:=.tuple #[rdV aL n cap ((i+1:Nat):Int) d false l c,.agg #[.int .i64 3,.string ⟨#[]⟩,.int .i64 (nowT ts i).n,.slice none 0 0,.int .i64 (nowT ts i).l,.int .i64 (nowT ts i).c]]) (by clear f H q g m D;simp [results,Tryz.results104,go_sem,rdV,z,y]) rfl ?_;exact ⟨rfl,refBelow f.out⟩
theorem plainR_ok {i:Nat} {d l c:Int} {x:Ex} (w:World) (h:MemW w (.s 5 (tkRows ts)) (.slice aL n cap)) (a:plainE (nowT ts i)=some x):
  Calls Tryz.prog 104 #[rdV aL n cap (i:Int) d false l c] w fun e b=>e=.returned (.tuple #[rdV aL n cap ((i+1:Nat):Int) d false l c,exV x none 0 0])∧Below w.heap.size w b:=by
 unfold plainE at a
 split at a
 · (cases a;exact plainR_2 w h (by assumption))
 ·
  split at a
  · (cases a;exact plainR_3 w h (by assumption))
  ·
   split at a
   · (cases a;exact plainR_4 w h (by assumption))
   · cases a
theorem plainR_no {i:Nat} {d l c:Int} (w:World) (h:MemW w (.s 5 (tkRows ts)) (.slice aL n cap)) (a:plainE (nowT ts i)=none):
  Calls Tryz.prog 104 #[rdV aL n cap (i:Int) d false l c] w fun e b=>e=.returned (.tuple #[rdV aL n cap (i:Int) d false l c,.agg #[.int .i64 0,.string ⟨#[]⟩,.int .i64 0,.slice none 0 0,.int .i64 0,.int .i64 0]])∧Below w.heap.size w b:=by
 unfold plainE at a
 split at a
 · cases a
 ·
  split at a
  · cases a
  ·
   split at a
   · cases a
   · exact plainR_none w h (by assumption) (by assumption) (by assumption)
end
end
section
open Go.RowKit
section
variable (ts:List Tk) (aL:Option Addr) (n cap:Nat)
def AnsR (r:Rd1) (deep:Nat) (a0 b0:Int) (W:World) (e:Ending) (w':World):Prop:=
 match r with
 | .ok x j=>∃ a m c,e=.returned (.tuple #[rdV aL n cap (j:Int) (deep:Int) false a0 b0,exV x a m c])∧Below W.heap.size W w'∧Mem (Nw 0 W.heap.size w'.heap.size) w' (.s 6 (Ex.rows x.args)) (.slice a m c)
 | .bad l c=>∃ (i':Nat) (d' k:Int) (s:ByteArray) (nn:Int) (sa:Option Addr) (sm sc:Nat) (u v:Int),e=.returned (.tuple #[rdV aL n cap (i':Int) d' true l c,.agg #[.int .i64 k,.string s,.int .i64 nn,.slice sa sm sc,.int .i64 u,.int .i64 v]])∧Below W.heap.size W w'
def ReadsR (fn:FuncId) (nt:Nt) (f:Nat):Prop:=∀ (i deep:Nat) (r:Rd1) (a0 b0:Int) (w:World),deep≤40→MemW w (.s 5 (tkRows ts)) (.slice aL n cap)→n≤1048576→readE ts f nt i deep=some r→
 Calls Tryz.prog fn #[rdV aL n cap (i:Int) (deep:Int) false a0 b0] w (AnsR aL n cap r deep a0 b0 w)
end
section
variable {ts:List Tk} {aL:Option Addr} {n cap:Nat}
attribute [local go_sem] tk_pos
theorem exprR_bad {i:Nat} {d l c:Int} (w:World) (h:MemW w (.s 5 (tkRows ts)) (.slice aL n cap)):
  Calls Tryz.prog 66 #[rdV aL n cap (i:Int) d true l c] w (AnsR aL n cap (.bad l c) 0 0 0 w):=by
 have H:=zz h;clear h;have e:Hid (FarB w.heap.size w.heap.size w w):=zz (FarB.refl _ _ _);simp only [rdV];go_enter Tryz.func66,Tryz.ntmps66
 go_wp2_with (fail)
 generalize a:World.alloc w _=L;have x:=sizeA a;replace e:=fA e a;have j:=nB a (w.heap.size);clear a;generalize a:World.alloc L _=M;have A:=sizeA a;replace e:=fA e a;replace j:=bA j a;have f:=nB a (w.heap.size+1);clear a;generalize a:World.alloc M _=J;have F:=sizeA a;replace e:=fA e a;replace j:=bA j a;replace f:=bA f a;have g:=nB a (w.heap.size+2);clear a
 have U:J.heap.size=w.heap.size+3:=by omega
 clear x A F;refine (nowR_any _ (refTok e.out H.out)).mono ?_;rintro _ r ⟨rfl,m⟩;replace j:=kB j m;replace f:=kB f m;replace g:=kB g m;replace e:=kF e m;have T:=m.size;clear m;simp only [tkV];have q:=kc6 j;have D:=i012_0 w r
 go_wp2_with (fail)
 clear q;generalize a:World.alloc r _=N;have x:=sizeA a;replace e:=fA e a;replace j:=bA j a;replace f:=bA f a;replace g:=bA g a;clear a;generalize a:World.alloc N _=C;have A:=sizeA a;replace e:=fA e a;replace j:=bA j a;replace f:=bA f a;replace g:=bA g a;have B:=nB a (r.heap.size+1);clear a
 have V:C.heap.size=r.heap.size+2:=by omega
 clear x A;clear D;have q:=kc6 j;have G:=kc6 f;have t:=kc6 B;refine wp_region_held_drew (S:=fun I=>Far (fun b=>b=(w.heap.size+1)∨b=(w.heap.size+2)) (C) I) (by kernel_rfl) (Far.of (below_drew _)) (fun Q=>?_);refine takeA 0 (v:=?_) rfl ?_ ?_;rotate_left
 · (intro w u;replace q:=Far.c6z q u;go_simp;try rfl)
 (try simp only [pu]);refine takeA 1 (v:=?_) rfl ?_ ?_;rotate_left
 · (intro w u;replace t:=Far.c6z t u;go_simp;try rfl)
 (try simp only [pu]);refine callA 2 rfl fun K o=>?_;go_simp;refine o.out _ _ ?_ (fun E=>?_);· exact (by refine Far.trans ?_ (Far.of (below_drew _));(iterate 6 (refine Far.setCell (p:=⟨(w.heap.size+1),_,none⟩) ?_ (.inl rfl) _));exact Far.refl _ _)
 clear o K;clear q G t;generalize a:World.setCell _ ⟨(w.heap.size+1),5,none⟩ _=O at *;replace e:=fN6 e a;replace f:=bS6 f a;replace g:=bF6 g a;clear a;generalize a:(O.drew)=W at *;replace e:=fD e a;replace f:=bD f a;replace g:=bD g a;clear a;have P:=kc6 g;refine callA 3 rfl fun K o=>?_;go_simp;refine o.out _ _ ?_ (fun R=>?_);· exact (by (iterate 6 (refine Far.setCell (p:=⟨(w.heap.size+2),_,none⟩) ?_ (.inr rfl) _));exact E)
 clear o K;refine wpAnyH_done (by kernel_rfl) ?_ _;clear P;generalize a:World.setCell _ ⟨(w.heap.size+2),5,none⟩ _=X;replace e:=fN6 e a;replace f:=bF6 f a;replace g:=bS6 g a;clear a
 go_wp2_with (fail)
 have z:=kc6 f;have y:=kc6 g;refine bodyPost_ret (v:=.tuple #[.agg #[.slice aL n cap,.int .i64 (i:Int),.int .i64 d,.bool true,.int .i64 l,.int .i64 c],.agg #[.int .i64 0,.string ⟨#[]⟩,.int .i64 0,.slice none 0 0,.int .i64 0,.int .i64 0]]) (by clear e H j f g B;simp [results,Tryz.results66,go_sem,z,y]) rfl ?_;exact ⟨_,_,_,_,_,_,_,_,_,_,rfl,refBelow e.out⟩
theorem patR_bad {i:Nat} {d l c:Int} (w:World) (h:MemW w (.s 5 (tkRows ts)) (.slice aL n cap)):
  Calls Tryz.prog 65 #[rdV aL n cap (i:Int) d true l c] w (AnsR aL n cap (.bad l c) 0 0 0 w):=by
 have H:=zz h;clear h;have e:Hid (FarB w.heap.size w.heap.size w w):=zz (FarB.refl _ _ _);simp only [rdV];go_enter Tryz.func65,Tryz.ntmps65
 go_wp2_with (fail)
 generalize a:World.alloc w _=O;have B:=sizeA a;replace e:=fA e a;have m:=nB a (w.heap.size);clear a;generalize a:World.alloc O _=P;have C:=sizeA a;replace e:=fA e a;replace m:=bA m a;have f:=nB a (w.heap.size+1);clear a;generalize a:World.alloc P _=N;have J:=sizeA a;replace e:=fA e a;replace m:=bA m a;replace f:=bA f a;have g:=nB a (w.heap.size+2);clear a
 have Z:N.heap.size=w.heap.size+3:=by omega
 clear B C J;refine (nowR_any _ (refTok e.out H.out)).mono ?_;rintro _ E ⟨rfl,j⟩;replace m:=kB m j;replace f:=kB f j;replace g:=kB g j;replace e:=kF e j;have W:=j.size;clear j;simp only [tkV];have t:=kc6 m;have q:=i012_0 w E
 go_wp2_with (fail)
 clear t;generalize a:World.alloc E _=w3;have a0:=sizeA a;replace e:=fA e a;replace m:=bA m a;replace f:=bA f a;replace g:=bA g a;clear a;clear q;refine (isR_bad _ (refTok e.out H.out)).mono ?_;rintro _ w4 ⟨rfl,j⟩;replace m:=kB m j;replace f:=kB f j;replace g:=kB g j;replace e:=kF e j;have X:=j.size;clear j;have t:=kc6 m
 go_wp2_with (fail)
 clear t;refine (plainR_bad _ (refTok e.out H.out)).mono ?_;rintro _ o ⟨rfl,j⟩;replace m:=kB m j;replace f:=kB f j;replace g:=kB g j;replace e:=kF e j;have Y:=j.size;clear j;simp only [rdV];have t:=kc6 m;have q:=i012_0_0 w E o
 go_wp2_with (fail)
 clear t;generalize a:World.alloc o _=Q;have B:=sizeA a;replace e:=fA e a;replace f:=bA f a;replace g:=bA g a;have u:=nB a (o.heap.size);clear a;generalize a:World.alloc Q _=F;have C:=sizeA a;replace e:=fA e a;replace f:=bA f a;replace g:=bA g a;replace u:=bA u a;have G:=nB a (o.heap.size+1);clear a
 have a1:F.heap.size=o.heap.size+2:=by omega
 clear B C;clear q;clear m;have L:=kc6 f;have D:=kc6 u;have x:=kc6 G;have q:=i12_01_0 w o F;refine wp_region_held_drew (S:=fun M=>Far (fun b=>b=(w.heap.size+1)∨b=(w.heap.size+2)) (F) M) (by kernel_rfl) (Far.of (below_drew _)) (fun U=>?_);refine takeA 0 (v:=?_) rfl ?_ ?_;rotate_left
 · (intro w A;replace D:=Far.c6z D A;go_simp;try rfl)
 (try simp only [pu]);refine takeA 1 (v:=?_) rfl ?_ ?_;rotate_left
 · (intro w A;replace x:=Far.c6z x A;go_simp;try rfl)
 (try simp only [pu]);refine callA 2 rfl fun K r=>?_;go_simp;refine r.out _ _ ?_ (fun I=>?_);· exact (by refine Far.trans ?_ (Far.of (below_drew _));(iterate 6 (refine Far.setCell (p:=⟨(w.heap.size+1),_,none⟩) ?_ (.inl rfl) _));exact Far.refl _ _)
 clear r K;clear L D x;generalize a:World.setCell _ ⟨(w.heap.size+1),5,none⟩ _=R at *;replace e:=fN6 e a;replace f:=bS6 f a;replace g:=bF6 g a;clear a;generalize a:(R.drew)=w7 at *;replace e:=fD e a;replace f:=bD f a;replace g:=bD g a;clear a;clear q;have T:=kc6 g;refine callA 3 rfl fun K r=>?_;go_simp;refine r.out _ _ ?_ (fun V=>?_);· exact (by (iterate 6 (refine Far.setCell (p:=⟨(w.heap.size+2),_,none⟩) ?_ (.inr rfl) _));exact I)
 clear r K;refine wpAnyH_done (by kernel_rfl) ?_ _;clear T;generalize a:World.setCell _ ⟨(w.heap.size+2),5,none⟩ _=w8;replace e:=fN6 e a;replace f:=bF6 f a;replace g:=bS6 g a;clear a
 go_wp2_with (fail)
 have z:=kc6 f;have y:=kc6 g;refine bodyPost_ret (v:=.tuple #[.agg #[.slice aL n cap,.int .i64 (i:Int),.int .i64 d,.bool true,.int .i64 l,.int .i64 c],.agg #[.int .i64 0,.string ⟨#[]⟩,.int .i64 0,.slice none 0 0,.int .i64 0,.int .i64 0]]) (by clear e H f g u G;simp [results,Tryz.results65,go_sem,z,y]) rfl ?_;exact ⟨_,_,_,_,_,_,_,_,_,_,rfl,refBelow e.out⟩
end
end
end Go.Proofs.YtcoiagfeoonpbaaGreat
