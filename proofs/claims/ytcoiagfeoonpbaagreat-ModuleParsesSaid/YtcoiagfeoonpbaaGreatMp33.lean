/-
  ast.SameRule: true on rules that are alike. No condition but how they lie.
-/
import Derived.Test.YtcoiagfeoonpbaaGreatMp32
import Derived.Test.YtcoiagfeoonpbaaGreatMp1
import Derived.Test.YtcoiagfeoonpbaaGreatMp15
import Derived.Test.YtcoiagfeoonpbaaGreatMp14
import Derived.Test.YtcoiagfeoonpbaaGreatMp16
import Derived.Test.YtcoiagfeoonpbaaGreatMp17
import Derived.Deep.Cut
set_option maxHeartbeats 20000000
set_option maxRecDepth 100000
namespace Go.Proofs.YtcoiagfeoonpbaaGreat
section
open Go.RowKit
attribute [local go_sem] toList_beq neq_toListE
theorem same_rul (x y:Ru) (h:RuS x y) (a:Option Addr) (n c:Nat) (b:Option Addr) (m k:Nat) (d:Option Addr) (p r:Nat) (t:Option Addr) (B v:Nat) (u:Option Addr) (A z:Nat) (j:Option Addr) (o q:Nat) (w:World) (O:MemW w (.s 6 (Ex.rows x.pats)) (.slice a n c)) (P:MemW w (.s 6 (Ex.rows x.guard)) (.slice b m k)) (Q:MemW w (.s 6 (Ex.rows x.body.args)) (.slice d p r)) (g:MemW w (.s 6 (Ex.rows y.pats)) (.slice t B v)) (i:MemW w (.s 6 (Ex.rows y.guard)) (.slice u A z)) (N:MemW w (.s 6 (Ex.rows y.body.args)) (.slice j o q)):
    Calls Tryz.prog 42 #[.agg #[.string x.name,.slice a n c,.slice b m k,.int .i64 x.body.kind,.string x.body.name,.int .i64 x.body.n,.slice d p r,.int .i64 x.body.line,.int .i64 x.body.col,.int .i64 x.l,.int .i64 x.c],.agg #[.string y.name,.slice t B v,.slice u A z,.int .i64 y.body.kind,.string y.body.name,.int .i64 y.body.n,.slice j o q,.int .i64 y.body.line,.int .i64 y.body.col,.int .i64 y.l,.int .i64 y.c]] w fun e w'=>e=.returned (.bool true)∧Below w.heap.size w w':=by
  obtain ⟨J,K,L,M⟩:=h;rw [←J];have E1:=zz (fun (f:World) (g:MemW f (.s 6 (Ex.rows x.pats)) (.slice a n c)) (i:MemW f (.s 6 (Ex.rows y.pats)) (.slice t B v))=>eqE K (fun x y _ H=>same_ast _ x y (Nat.le_refl _) H) f g i);have E2:=zz (fun (f:World) (g:MemW f (.s 6 (Ex.rows x.guard)) (.slice b m k)) (i:MemW f (.s 6 (Ex.rows y.guard)) (.slice u A z))=>eqE L (fun x y _ H=>same_ast _ x y (Nat.le_refl _) H) f g i);have E3:=zz (fun (f:World) (g:MemW f (.s 6 (Ex.rows x.body.args)) (.slice d p r)) (i:MemW f (.s 6 (Ex.rows y.body.args)) (.slice j o q))=>same_ast _ x.body y.body (Nat.le_refl _) M d p r j o q f g i);have S:=zz O;have T:=zz P;have U:=zz Q;have G1:=zz g;have G2:=zz i;have G3:=zz N;clear O P Q g i N J K L M;go_enter Tryz.func42,Tryz.ntmps42
  go_wp2_with (fail)
  have E:=zz ((below_new w (.cells #[.string x.name,.slice a n c,.slice b m k,.int .i64 x.body.kind,.string x.body.name,.int .i64 x.body.n,.slice d p r,.int .i64 x.body.line,.int .i64 x.body.col,.int .i64 x.l,.int .i64 x.c] 62)).alloc (by rw [World.size_alloc];omega) (.cells #[.string x.name,.slice t B v,.slice u A z,.int .i64 y.body.kind,.string y.body.name,.int .i64 y.body.n,.slice j o q,.int .i64 y.body.line,.int .i64 y.body.col,.int .i64 y.l,.int .i64 y.c] 62));refine (E1.out _ (S.out.keep E.out) (G1.out.keep E.out)).mono ?_;rintro e I ⟨rfl,C⟩;have F:=zz (E.out.trans (C.mono E.out.size))
  have a0:w.heap.size+2≤I.heap.size:=by have h:=C.size;rw [World.size_alloc,World.size_alloc] at h;omega
  have B1:Bo I w.heap.size 62 #[.string x.name,.slice a n c,.slice b m k,.int .i64 x.body.kind,.string x.body.name,.int .i64 x.body.n,.slice d p r,.int .i64 x.body.line,.int .i64 x.body.col,.int .i64 x.l,.int .i64 x.c]:=((Bo.new w _ _).keep (below_new _ _)).keep C
  have B2:Bo I (w.heap.size+1) 62 #[.string x.name,.slice t B v,.slice u A z,.int .i64 y.body.kind,.string y.body.name,.int .i64 y.body.n,.slice j o q,.int .i64 y.body.line,.int .i64 y.body.col,.int .i64 y.l,.int .i64 y.c]:=by
    have h:=(Bo.new (w.alloc (.cells #[.string x.name,.slice a n c,.slice b m k,.int .i64 x.body.kind,.string x.body.name,.int .i64 x.body.n,.slice d p r,.int .i64 x.body.line,.int .i64 x.body.col,.int .i64 x.l,.int .i64 x.c] 62)) 62 #[.string x.name,.slice t B v,.slice u A z,.int .i64 y.body.kind,.string y.body.name,.int .i64 y.body.n,.slice j o q,.int .i64 y.body.line,.int .i64 y.body.col,.int .i64 y.l,.int .i64 y.c]).keep C;rw [World.size_alloc] at h;exact h
  have V:=zz B1;have W:=zz B2;have Y:=B1.c11z;have Z:=B2.c11z
  have n1:w.heap.size≠w.heap.size+1:=by omega
  clear B1 B2 C
  go_wp2_with (fail)
  refine (E2.out _ (T.out.keep F.out) (G2.out.keep F.out)).mono ?_;rintro e w5 ⟨rfl,D⟩;have G:=zz (F.out.trans (D.mono F.out.size))
  have a1:w.heap.size+2≤w5.heap.size:=by have h:=D.size;omega
  replace Y:=(V.out.keep D).c11z;replace Z:=(W.out.keep D).c11z;clear D
  go_wp2_with (fail)
  refine (E3.out _ (U.out.keep G.out) (G3.out.keep G.out)).mono ?_;rintro e w6 ⟨rfl,R⟩;have X:=zz (G.out.trans (R.mono G.out.size));clear R
  go_wp2_with (fail)
  go_ret;exact ⟨rfl,X.out⟩
end
section
open Go.RowKit
theorem same_mod {A ds:List Da} {B rs:List Ru} (G:All2 DaS A ds) (p:All2 RuS B rs) (a:Option Addr) (n c:Nat) (b:Option Addr) (m k:Nat) (f:Option Addr) (t i:Nat) (g:Option Addr) (r q:Nat) (w:World) (D:MemW w (.s 5 (A.map Da.row)) (.slice a n c)) (E:MemW w (.s 11 (B.map Ru.row)) (.slice b m k)) (j:MemW w (.s 5 (ds.map Da.row)) (.slice f t i)) (o:MemW w (.s 11 (rs.map Ru.row)) (.slice g r q)):
    Calls Tryz.prog 13 #[.agg #[.slice a n c,.slice b m k],.agg #[.slice f t i,.slice g r q]] w fun e w'=>e=.returned (.bool true)∧Below w.heap.size w w':=by
  have E1:=zz (fun (d:World) (j:MemW d (.s 5 (A.map Da.row)) (.slice a n c)) (o:MemW d (.s 5 (ds.map Da.row)) (.slice f t i))=>eqD G (fun x y _ p=>same_dat x y p) d j o);have E2:=zz (fun (d:World) (j:MemW d (.s 11 (B.map Ru.row)) (.slice b m k)) (o:MemW d (.s 11 (rs.map Ru.row)) (.slice g r q))=>eqR p (fun x y _ p p1 H T p2 n2 U p3 n3 V I Y W J Z l2 q3 m3 X w N O P Q R S=>same_rul x y p p1 H T p2 n2 U p3 n3 V I Y W J Z l2 q3 m3 X w N O P Q R S) d j o);have K:=zz D;have L:=zz E;have G1:=zz j;have G2:=zz o;clear D E j o G p;go_enter Tryz.func13,Tryz.ntmps13
  go_wp2_with (fail)
  have v:=zz ((below_new w (.cells #[.slice a n c,.slice b m k] 26)).alloc (by rw [World.size_alloc];omega) (.cells #[.slice f t i,.slice g r q] 26));refine (E1.out _ (K.out.keep v.out) (G1.out.keep v.out)).mono ?_;rintro e C ⟨rfl,u⟩;have z:=zz (v.out.trans (u.mono v.out.size))
  have a0:w.heap.size+2≤C.heap.size:=by have h:=u.size;rw [World.size_alloc,World.size_alloc] at h;omega
  have B1:Bo C w.heap.size 26 #[.slice a n c,.slice b m k]:=((Bo.new w _ _).keep (below_new _ _)).keep u
  have B2:Bo C (w.heap.size+1) 26 #[.slice f t i,.slice g r q]:=by
    have h:=(Bo.new (w.alloc (.cells #[.slice a n c,.slice b m k] 26)) 26 #[.slice f t i,.slice g r q]).keep u;rw [World.size_alloc] at h;exact h
  have I:=B1.c2z;have J:=B2.c2z
  have H:w.heap.size≠w.heap.size+1:=by omega
  clear B1 B2 u
  go_wp2_with (fail)
  refine (E2.out _ (L.out.keep z.out) (G2.out.keep z.out)).mono ?_;rintro e w5 ⟨rfl,F⟩;have M:=zz (z.out.trans (F.mono z.out.size));clear F
  go_wp2_with (fail)
  go_ret;exact ⟨rfl,M.out⟩
end
section
open Go.RowKit
def nmS (acc:List ByteArray) (r:Ru):List ByteArray:=if acc.any (r.name== ·) then acc else acc++[r.name]
def nmsL (rs:List Ru):List ByteArray:=rs.foldl nmS []
theorem nmsL_at {rs:List Ru} {k:Nat} {x:Ru} (h:rs[k]?=some x):nmsL (rs.take (k+1))=nmS (nmsL (rs.take k)) x:=by
  unfold nmsL;rw [take_at h,List.foldl_append]
  rfl
theorem nmsL_len (rs:List Ru) (k:Nat):(nmsL (rs.take k)).length≤k:=by
  induction k with
  | zero=>rw [List.take_zero];exact Nat.le_refl _
  | succ k ih =>
    cases hx:rs[k]? with
    | some x =>
      rw [nmsL_at hx];unfold nmS
      split
      · omega
      · rw [List.length_append,List.length_cons,List.length_nil];omega
    | none =>
      have h1:rs.length≤k:=List.getElem?_eq_none_iff.1 hx;rw [List.take_of_length_le (by omega)];rw [List.take_of_length_le (by omega)] at ih
      omega
theorem rd_own {base:Nat} {w:World} {a:Option Addr} {m c:Nat} {L:List ByteArray} (h:OwnD 0 base 9 1 w (.slice a m c) (L.map strRow)):Rd w.heap.size w a m c 1 (strs L):=by
  obtain ⟨h1,h2,h3⟩:=h.mem.len;rw [List.length_map] at h1
  have hl:(strs L).length=L.length:=by simp [strs]
  refine ⟨by rw [hl];omega,h2,by omega,?_⟩
  cases L with
  | nil=>exact .inl h1.symm
  | cons x L =>
    obtain ⟨b,o,ha,hS,_,_⟩:=Mem.at h.mem 0 (by simp)
    refine .inr ⟨b,o,ha,by rcases hS with h | h <;> omega,fun i hi=>?_⟩
    rw [hl] at hi;obtain ⟨b2,o2,ha2,_,_,cs2,hm2,hc2⟩:=Mem.at h.mem i (by rw [List.length_map];exact hi);rw [ha] at ha2;cases ha2;rw [List.getElem_map] at hm2
    cases hm2 with
    | cons hv ht =>
      cases ht;have :=hc2 0 (by simp);cases hv;rw [Nat.mul_one,Nat.add_zero] at this;exact this.trans (by simp only [strs,List.getElem_map];rfl)
theorem namesM_any (rs:List Ru) (V G:Option Addr) (U kd j u:Nat) (w:World) (A:MemW w (.s 11 (rs.map Ru.row)) (.slice G j u)) (hb:j≤1048577):
  Calls Tryz.prog 10 #[.agg #[.slice V U kd,.slice G j u]] w fun e' H=>∃ a m c,e'=.returned (.slice a m c)∧Below w.heap.size w H∧Mem (Nw 0 w.heap.size H.heap.size) H (.s 1 ((nmsL rs).map strRow)) (.slice a m c):=by
 have e:Hid (FarB w.heap.size w.heap.size w w):=zz (FarB.refl _ _ _);have Y:=zz A
 have S:rs.length=j:=by have h:=A.len.1;rw [List.length_map] at h;exact h
 have a8:j≤u∧u≤9223372036854775807:=A.len.2;have K:=zz S;clear A S;go_enter Tryz.func10,Tryz.ntmps10
 go_wp2_with (fail)
 generalize g:World.alloc w _=w1;have ab:=sizeA g;replace e:=fA e g;have d:=nB g (w.heap.size);clear g;have p:=kc2 d;have t:=i0_0 w w1;have P:=i01 w
 go_loopw [3,9] (fun v i wr=>∃ (k:Nat) (q:Option Addr) (y r:Nat),k≤j∧i=.int .i64 k∧v=.slice q y r∧Hid (FarB w.heap.size w.heap.size w wr)∧Hid (Bo wr w.heap.size 26 #[.slice V U kd,.slice G j u])∧Hid (OwnD 0 (w.heap.size+1) 9 1 wr (.slice q y r) ((nmsL (rs.take k)).map strRow))∧w.heap.size+1≤wr.heap.size) (fun _ i _=>j - (intOf i).toNat)
 case atStart=>exact ⟨0,none,0,0,Nat.zero_le _,rfl,rfl,e,d,zz (by rw [List.take_zero];exact OwnD.nil _ _ _ _ _),by omega⟩
 case round=>
  clear e d;obtain ⟨k,q,y,r,Q,rfl,rfl,e,d,f,ad⟩:=hrel;have p:=kc2 d;have t:=i0_0 w wr
  by_cases a4:k<j
  rotate_left
  ·
   have R:rs.take k=rs:=List.take_of_length_le (by rw [K.out];omega);rw [R] at f;clear R
   go_wp2_with (fail)
   clear p;go_ret;exact ⟨_,_,_,rfl,refBelow e.out,memNw f.out.mem (by omega)⟩
  have H0r:=zz (Y.out.keep (refBelow e.out));obtain ⟨b,o,x,a1,m1,c1,a2,m2,c2,a3,m3,c3,a0,a7,HX,x0,x1,x2,x3,x4,x5,x6,x7,x8,x9,a6,_,_,_⟩:=ru_at H0r.out k (by rw [K.out];exact a4);subst a0;have a5:=nmsL_len rs k;obtain ⟨L,O⟩:∃ L,nmsL (rs.take k)=L:=⟨_,rfl⟩;have F:=nmsL_at HX.out;rw [O] at F a5 f;have z:=zz F;clear H0r F O
  go_wp2_with (fail)
  clear p;generalize g:(wr.alloc (.cells #[.string x.name,.slice a1 m1 c1,.slice a2 m2 c2,.int .i64 x.body.kind,.string x.body.name,.int .i64 x.body.n,.slice a3 m3 c3,.int .i64 x.body.line,.int .i64 x.body.col,.int .i64 x.l,.int .i64 x.c] 62))=X at *;have ac:=sizeA g;replace e:=fA e g;replace d:=bA d g;replace f:=oA f g;have J:=nB g (wr.heap.size);clear g;clear t;have p:=kc2 d;have W:=J.out.c11z;have t:=chain3 w.heap.size wr.heap.size X.heap.size;have P:=chain3 w.heap.size wr.heap.size (wr.heap.size+1);clear x0 x1 x2 x3 x4 x5 x6 x7 x8 x9 a6;refine (contains_str x.name _ (rd_own f.out)).mono ?_;rintro _ _ ⟨rfl,rfl⟩
  cases hin:L.any (x.name== ·) with
  | true=>
   have C:Hid (nmsL (rs.take (k+1))=L):=zz (by rw [z.out];unfold nmS;rw [if_pos hin]);clear z
   go_wp2_with (fail)
   clear p W
   go_roundw
   case rel=>exact ⟨k+1,q,y,r,by omega,by go_num,rfl,e,d,zz (by rw [C.out];exact f.out),by omega⟩
   case measure=>simp [intOf];omega
  | false=>
   have C:Hid (nmsL (rs.take (k+1))=L++[x.name]):=zz (by rw [z.out];unfold nmS;rw [if_neg (by rw [hin];decide)]);clear z
   have E:∀ k,(Value.slice q y r).ownBlock=some k→w.heap.size+1≤k:=fun k Q=>(f.out.lt k Q).1
   go_wp2_with (first | (at_builtin;refine Hid.out ?_))
   refine zz ?_;refine wpList_append_D rfl _ _ rfl Tryz.underlying37 info_strM rfl (by decide) rfl rfl (f.out.alloc _) (row_appG f.out (by omega) (Nat.le_refl _) (.cons (.v _ rfl) .nil) rfl (by omega)) (by simp only [List.length_map,List.length_cons,List.length_nil];omega) (by simp only [List.length_map,List.length_cons,List.length_nil];omega) (by rw [World.size_alloc];omega) ?_;intro ae I D B;obtain ⟨M,T,N,rfl⟩:=mem_slice D.mem
   have aa:X.heap.size+1≤I.heap.size:=by have h:=B.size;rw [World.size_alloc] at h;exact h
   replace e:=gFx e B E;replace d:=gOx d B E;have Z:Hid (OwnD 0 (w.heap.size+1) 9 1 I (.slice M T N) ((L++[x.name]).map strRow)):=zz (by rw [List.map_append];exact D);clear D B E f J;clear p W;clear t P;have p:=kc2 d;have t:=i0_0 w I
   go_wp2_with (fail)
   clear p
   go_roundw
   case rel=>exact ⟨k+1,M,T,N,by omega,by go_num,rfl,e,d,zz (by rw [C.out];exact Z.out),by omega⟩
   case measure=>simp [intOf];omega
end
section
open Go.RowKit
theorem namesR_any (rs:List Ru) (V G:Option Addr) (U kd j u:Nat) (w:World) (A:MemW w (.s 11 (rs.map Ru.row)) (.slice G j u)) (hb:j≤1048577):
  Calls Tryz.prog 11 #[.agg #[.slice V U kd,.slice G j u]] w fun e' H=>∃ a m c,e'=.returned (.slice a m c)∧Below w.heap.size w H∧Mem (Nw 0 w.heap.size H.heap.size) H (.s 1 ((nmsL rs).map strRow)) (.slice a m c):=by
 have e:Hid (FarB w.heap.size w.heap.size w w):=zz (FarB.refl _ _ _);have Y:=zz A
 have S:rs.length=j:=by have h:=A.len.1;rw [List.length_map] at h;exact h
 have a8:j≤u∧u≤9223372036854775807:=A.len.2;have K:=zz S;clear A S;go_enter Tryz.func11,Tryz.ntmps11
 go_wp2_with (fail)
 generalize g:World.alloc w _=w1;have ab:=sizeA g;replace e:=fA e g;have d:=nB g (w.heap.size);clear g;have p:=kc2 d;have t:=i0_0 w w1;have P:=i01 w
 go_loopw [3,9] (fun v i wr=>∃ (k:Nat) (q:Option Addr) (y r:Nat),k≤j∧i=.int .i64 k∧v=.slice q y r∧Hid (FarB w.heap.size w.heap.size w wr)∧Hid (Bo wr w.heap.size 26 #[.slice V U kd,.slice G j u])∧Hid (OwnD 0 (w.heap.size+1) 9 1 wr (.slice q y r) ((nmsL (rs.take k)).map strRow))∧w.heap.size+1≤wr.heap.size) (fun _ i _=>j - (intOf i).toNat)
 case atStart=>exact ⟨0,none,0,0,Nat.zero_le _,rfl,rfl,e,d,zz (by rw [List.take_zero];exact OwnD.nil _ _ _ _ _),by omega⟩
 case round=>
  clear e d;obtain ⟨k,q,y,r,Q,rfl,rfl,e,d,f,ad⟩:=hrel;have p:=kc2 d;have t:=i0_0 w wr
  by_cases a4:k<j
  rotate_left
  ·
   have R:rs.take k=rs:=List.take_of_length_le (by rw [K.out];omega);rw [R] at f;clear R
   go_wp2_with (fail)
   clear p;go_ret;exact ⟨_,_,_,rfl,refBelow e.out,memNw f.out.mem (by omega)⟩
  have H0r:=zz (Y.out.keep (refBelow e.out));obtain ⟨b,o,x,a1,m1,c1,a2,m2,c2,a3,m3,c3,a0,a7,HX,x0,x1,x2,x3,x4,x5,x6,x7,x8,x9,a6,_,_,_⟩:=ru_at H0r.out k (by rw [K.out];exact a4);subst a0;have a5:=nmsL_len rs k;obtain ⟨L,O⟩:∃ L,nmsL (rs.take k)=L:=⟨_,rfl⟩;have F:=nmsL_at HX.out;rw [O] at F a5 f;have z:=zz F;clear H0r F O
  go_wp2_with (fail)
  clear p;generalize g:(wr.alloc (.cells #[.string x.name,.slice a1 m1 c1,.slice a2 m2 c2,.int .i64 x.body.kind,.string x.body.name,.int .i64 x.body.n,.slice a3 m3 c3,.int .i64 x.body.line,.int .i64 x.body.col,.int .i64 x.l,.int .i64 x.c] 62))=X at *;have ac:=sizeA g;replace e:=fA e g;replace d:=bA d g;replace f:=oA f g;have J:=nB g (wr.heap.size);clear g;clear t;have p:=kc2 d;have W:=J.out.c11z;have t:=chain3 w.heap.size wr.heap.size X.heap.size;have P:=chain3 w.heap.size wr.heap.size (wr.heap.size+1);clear x0 x1 x2 x3 x4 x5 x6 x7 x8 x9 a6;refine (in_str x.name _ (rd_own f.out)).mono ?_;rintro _ _ ⟨rfl,rfl⟩
  cases hin:L.any (x.name== ·) with
  | true=>
   have C:Hid (nmsL (rs.take (k+1))=L):=zz (by rw [z.out];unfold nmS;rw [if_pos hin]);clear z
   go_wp2_with (fail)
   clear p W
   go_roundw
   case rel=>exact ⟨k+1,q,y,r,by omega,by go_num,rfl,e,d,zz (by rw [C.out];exact f.out),by omega⟩
   case measure=>simp [intOf];omega
  | false=>
   have C:Hid (nmsL (rs.take (k+1))=L++[x.name]):=zz (by rw [z.out];unfold nmS;rw [if_neg (by rw [hin];decide)]);clear z
   have E:∀ k,(Value.slice q y r).ownBlock=some k→w.heap.size+1≤k:=fun k Q=>(f.out.lt k Q).1
   go_wp2_with (first | (at_builtin;refine Hid.out ?_))
   refine zz ?_;refine wpList_append_D rfl _ _ rfl Tryz.underlying37 info_strM rfl (by decide) rfl rfl (f.out.alloc _) (row_appG f.out (by omega) (Nat.le_refl _) (.cons (.v _ rfl) .nil) rfl (by omega)) (by simp only [List.length_map,List.length_cons,List.length_nil];omega) (by simp only [List.length_map,List.length_cons,List.length_nil];omega) (by rw [World.size_alloc];omega) ?_;intro ae I D B;obtain ⟨M,T,N,rfl⟩:=mem_slice D.mem
   have aa:X.heap.size+1≤I.heap.size:=by have h:=B.size;rw [World.size_alloc] at h;exact h
   replace e:=gFx e B E;replace d:=gOx d B E;have Z:Hid (OwnD 0 (w.heap.size+1) 9 1 I (.slice M T N) ((L++[x.name]).map strRow)):=zz (by rw [List.map_append];exact D);clear D B E f J;clear p W;clear t P;have p:=kc2 d;have t:=i0_0 w I
   go_wp2_with (fail)
   clear p
   go_roundw
   case rel=>exact ⟨k+1,M,T,N,by omega,by go_num,rfl,e,d,zz (by rw [C.out];exact Z.out),by omega⟩
   case measure=>simp [intOf];omega
end
end Go.Proofs.YtcoiagfeoonpbaaGreat
