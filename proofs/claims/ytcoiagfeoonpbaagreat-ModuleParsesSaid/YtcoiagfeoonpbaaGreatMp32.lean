/-
  slices.EqualFunc at what a module holds: where each pair is alike, all are. No condition but how they lie.
-/
import Derived.Test.YtcoiagfeoonpbaaGreatMp30
import Derived.Test.YtcoiagfeoonpbaaGreatMp31
set_option maxHeartbeats 20000000
set_option maxRecDepth 100000
namespace Go.Proofs.YtcoiagfeoonpbaaGreat
section
open Go.RowKit
theorem all2_at {α β:Type} {R:α→β→Prop} :∀ {l:List α} {m:List β} (_:All2 R l m) {k:Nat} {x:α} {y:β} (_:l[k]?=some x) (_:m[k]?=some y),R x y
  | _,_,.nil,k,x,y,h,_=>by simp at h
  | _,_,.cons h t,0,x,y,hx,hy=>by simp at hx hy;subst hx;subst hy;exact h
  | _,_,.cons _ t,k+1,x,y,hx,hy=>all2_at t (by simpa using hx) (by simpa using hy)
theorem MemW.keepB {x:At} {y:Value} {w b:World} (h:MemW w x y) (d:Below w.heap.size w b):MemW b x y:=h.keep d
section
variable {S:Nat→Prop} {w:World} {a:Option Addr} {m c:Nat}
theorem cn_at {l:List Cn} (h:Mem S w (.s 4 (l.map Cn.row)) (.slice a m c)) (i:Nat) (p:i<l.length):
    ∃ b o x d g e,a=some ⟨b,o,none⟩∧S b∧Hid (l[i]?=some x)∧w.cell? ⟨b,o+i * 4,none⟩=some (.string x.name)∧w.cell? ⟨b,o+i * 4+1,none⟩=some (.slice d g e)∧w.cell? ⟨b,o+i * 4+2,none⟩=some (.int .i64 x.l)∧w.cell? ⟨b,o+i * 4+3,none⟩=some (.int .i64 x.c)∧Mem S w (.s 4 (Tm.rows x.types)) (.slice d g e):=by
  obtain ⟨b,o,t,r,_,u,j,f⟩:=Mem.at h i (by rw [List.length_map];exact p);rw [List.getElem_map] at j;obtain ⟨d,g,e,rfl,q⟩:=cn_cells j;exact ⟨b,o,l[i],d,g,e,t,r,zz (List.getElem?_eq_getElem p),f 0 (by simp),f 1 (by simp),f 2 (by simp),f 3 (by simp),q⟩
theorem ru_at {l:List Ru} (h:Mem S w (.s 11 (l.map Ru.row)) (.slice a m c)) (i:Nat) (v:i<l.length):
    ∃ b o x e q j f r p g t c3,a=some ⟨b,o,none⟩∧S b∧Hid (l[i]?=some x)∧w.cell? ⟨b,o+i * 11,none⟩=some (.string x.name)∧w.cell? ⟨b,o+i * 11+1,none⟩=some (.slice e q j)∧w.cell? ⟨b,o+i * 11+2,none⟩=some (.slice f r p)∧w.cell? ⟨b,o+i * 11+3,none⟩=some (.int .i64 x.body.kind)∧w.cell? ⟨b,o+i * 11+4,none⟩=some (.string x.body.name)∧w.cell? ⟨b,o+i * 11+5,none⟩=some (.int .i64 x.body.n)∧w.cell? ⟨b,o+i * 11+6,none⟩=some (.slice g t c3)∧w.cell? ⟨b,o+i * 11+7,none⟩=some (.int .i64 x.body.line)∧w.cell? ⟨b,o+i * 11+8,none⟩=some (.int .i64 x.body.col)∧w.cell? ⟨b,o+i * 11+9,none⟩=some (.int .i64 x.l)∧w.cell? ⟨b,o+i * 11+10,none⟩=some (.int .i64 x.c)∧Mem S w (.s 6 (Ex.rows x.pats)) (.slice e q j)∧Mem S w (.s 6 (Ex.rows x.guard)) (.slice f r p)∧Mem S w (.s 6 (Ex.rows x.body.args)) (.slice g t c3):=by
  obtain ⟨b,o,C,B,_,D,u,d⟩:=Mem.at h i (by rw [List.length_map];exact v);rw [List.getElem_map] at u;obtain ⟨e,q,j,f,r,p,g,t,c3,rfl,y,z,A⟩:=ru_cells u;exact ⟨b,o,l[i],e,q,j,f,r,p,g,t,c3,C,B,zz (List.getElem?_eq_getElem v),d 0 (by simp),d 1 (by simp),d 2 (by simp),d 3 (by simp),d 4 (by simp),d 5 (by simp),d 6 (by simp),d 7 (by simp),d 8 (by simp),d 9 (by simp),d 10 (by simp),y,z,A⟩
theorem ex_atT {l:List Ex} (h:Mem S w (.s 6 (Ex.rows l)) (.slice a m c)) (i:Nat) (g:i<l.length):
    ∃ b o x d f e,a=some ⟨b,o,none⟩∧S b∧Hid (l[i]?=some x)∧w.cell? ⟨b,o+i * 6,none⟩=some (.int .i64 x.kind)∧w.cell? ⟨b,o+i * 6+1,none⟩=some (.string x.name)∧w.cell? ⟨b,o+i * 6+2,none⟩=some (.int .i64 x.n)∧w.cell? ⟨b,o+i * 6+3,none⟩=some (.slice d f e)∧w.cell? ⟨b,o+i * 6+4,none⟩=some (.int .i64 x.line)∧w.cell? ⟨b,o+i * 6+5,none⟩=some (.int .i64 x.col)∧Mem S w (.s 6 (Ex.rows x.args)) (.slice d f e):=ex_atS h i g
theorem tm_atT {l:List Tm} (h:MemW w (.s 4 (Tm.rows l)) (.slice a m c)) (i:Nat) (z:i<l.length):
    ∃ b o x d f e,a=some ⟨b,o,none⟩∧b<w.heap.size∧Hid (l[i]?=some x)∧w.cell? ⟨b,o+i * 4,none⟩=some (.int .i64 x.kind)∧w.cell? ⟨b,o+i * 4+1,none⟩=some (.string x.name)∧w.cell? ⟨b,o+i * 4+2,none⟩=some (.int .i64 x.n)∧w.cell? ⟨b,o+i * 4+3,none⟩=some (.slice d f e)∧MemW w (.s 4 (Tm.rows x.args)) (.slice d f e):=by
  obtain ⟨b,o,x,d,f,e,g,j,p,q,r,t,u,v⟩:=Tms.at (show Tms w l a m c from h) i (by have y:=(Tms.len (show Tms w l a m c from h)).1;omega)
  exact ⟨b,o,x,d,f,e,g,j,p,q,r,t,u,v.out⟩
end
def TmS (x y:Tm):Prop:=x=y
theorem eqE {r l2:List Ex} (B:All2 (SamE false) r l2)
    (IH:∀ x y,x∈r→(SamE false) x y→∀ (g:Option Addr) (f d:Nat) (p:Option Addr) (o j:Nat) (w:World),MemW w (.s 6 (Ex.rows x.args)) (.slice g f d)→MemW w (.s 6 (Ex.rows y.args)) (.slice p o j)→Calls Tryz.prog 70 #[.agg #[.int .i64 x.kind,.string x.name,.int .i64 x.n,.slice g f d,.int .i64 x.line,.int .i64 x.col],.agg #[.int .i64 y.kind,.string y.name,.int .i64 y.n,.slice p o j,.int .i64 y.line,.int .i64 y.col]] w fun e C=>e=.returned (.bool true)∧Below w.heap.size w C)
    {F G:Option Addr} {b v H I:Nat} (w:World) (z:MemW w (.s 6 (Ex.rows r)) (.slice F b H)) (A:MemW w (.s 6 (Ex.rows l2)) (.slice G v I)):
    Calls Tryz.prog 69 #[.slice F b H,.slice G v I,.func (.func 70) #[] #[]] w fun e C=>e=.returned (.bool true)∧Below w.heap.size w C:=by
  have t:=z.len;have u:=A.len;have Q:=zz IH;have R:=zz B;have M:=zz z;have N:=zz A
  have L1:Hid (r.length=b):=zz (by have h:=t.1;rw [Ex.rows_len] at h;exact h)
  have L2:Hid (l2.length=v):=zz (by have h:=u.1;rw [Ex.rows_len] at h;exact h)
  have k1:=t.2.1;have k2:=t.2.2;have k3:=u.2.1;have k4:=u.2.2
  obtain rfl:b=v:=by have :=B.len;have :=L1.out;have :=L2.out;omega
  clear z A t u IH B;go_enter Tryz.func69,Tryz.ntmps69
  go_wp2
  go_loopw [7,17] (fun _ i wr=>∃ k:Nat,k≤b∧i=.int .i64 k∧Hid (Below w.heap.size w wr)) (fun _ i _=>b - (intOf i).toNat)
  case atStart=>exact ⟨0,Nat.zero_le _,rfl,zz (Below.refl _ _)⟩
  case round=>
    obtain ⟨k,hk,rfl,q⟩:=hrel
    by_cases a3:k<b
    · have Y:(k:Int)<(b:Int):=by omega
      obtain ⟨U,o1,x,g,f,d,rfl,W,E,x0,x1,x2,x3,x4,x5,J⟩:=ex_atT (MemW.keepB M.out q.out) k (by have :=L1.out;omega)
      obtain ⟨V,o2,y,p,o,j,rfl,X,T,y0,y1,y2,y3,y4,y5,K⟩:=ex_atT (MemW.keepB N.out q.out) k (by have :=L2.out;omega)
      have P:=zz (Q.out x y (mem_of_at E.out) (all2_at R.out E.out T.out) g f d p o j ((wr.alloc (.cells #[.int .i64 x.kind,.string x.name,.int .i64 x.n,.slice g f d,.int .i64 x.line,.int .i64 x.col] 60)).alloc (.cells #[.int .i64 y.kind,.string y.name,.int .i64 y.n,.slice p o j,.int .i64 y.line,.int .i64 y.col] 60)) (MemW.alloc (MemW.alloc J _) _) (MemW.alloc (MemW.alloc K _) _));have Z:U≠wr.heap.size:=Nat.ne_of_lt W;have a0:V≠wr.heap.size:=Nat.ne_of_lt X;have D:=zz ((below_new wr (.cells #[.int .i64 x.kind,.string x.name,.int .i64 x.n,.slice g f d,.int .i64 x.line,.int .i64 x.col] 60)).alloc (below_new wr (.cells #[.int .i64 x.kind,.string x.name,.int .i64 x.n,.slice g f d,.int .i64 x.line,.int .i64 x.col] 60)).size (.cells #[.int .i64 y.kind,.string y.name,.int .i64 y.n,.slice p o j,.int .i64 y.line,.int .i64 y.col] 60));clear J K
      go_wp2_with (fail)
      refine P.out.mono ?_;rintro e w4 ⟨rfl,L⟩;have O:=zz (q.out.trans (((D.out).trans (L.mono D.out.size)).mono q.out.size));clear L
      go_wp2_with (fail)
      go_roundw
      case rel=>exact ⟨k+1,by omega,by go_num,O⟩
      case measure=>simp [intOf];omega
    · obtain rfl:k=b:=by omega
      have Y: ¬(k:Int)<(k:Int):=by omega
      go_wp2
      go_ret;exact ⟨rfl,q.out⟩
theorem eqT {r l2:List Tm} (B:All2 TmS r l2)
    (IH:∀ x y,x∈r→TmS x y→∀ (g:Option Addr) (f d:Nat) (p:Option Addr) (o j:Nat) (w:World),MemW w (.s 4 (Tm.rows x.args)) (.slice g f d)→MemW w (.s 4 (Tm.rows y.args)) (.slice p o j)→Calls Tryz.prog 39 #[.agg #[.int .i64 x.kind,.string x.name,.int .i64 x.n,.slice g f d],.agg #[.int .i64 y.kind,.string y.name,.int .i64 y.n,.slice p o j]] w fun e C=>e=.returned (.bool true)∧Below w.heap.size w C)
    {F G:Option Addr} {b v H I:Nat} (w:World) (z:MemW w (.s 4 (Tm.rows r)) (.slice F b H)) (A:MemW w (.s 4 (Tm.rows l2)) (.slice G v I)):
    Calls Tryz.prog 38 #[.slice F b H,.slice G v I,.func (.func 39) #[] #[]] w fun e C=>e=.returned (.bool true)∧Below w.heap.size w C:=by
  have t:=z.len;have u:=A.len;have Q:=zz IH;have R:=zz B;have M:=zz z;have N:=zz A
  have L1:Hid (r.length=b):=zz (by have h:=t.1;rw [Tm.rows_len] at h;exact h)
  have L2:Hid (l2.length=v):=zz (by have h:=u.1;rw [Tm.rows_len] at h;exact h)
  have k1:=t.2.1;have k2:=t.2.2;have k3:=u.2.1;have k4:=u.2.2
  obtain rfl:b=v:=by have :=B.len;have :=L1.out;have :=L2.out;omega
  clear z A t u IH B;go_enter Tryz.func38,Tryz.ntmps38
  go_wp2
  go_loopw [7,17] (fun _ i wr=>∃ k:Nat,k≤b∧i=.int .i64 k∧Hid (Below w.heap.size w wr)) (fun _ i _=>b - (intOf i).toNat)
  case atStart=>exact ⟨0,Nat.zero_le _,rfl,zz (Below.refl _ _)⟩
  case round=>
    obtain ⟨k,hk,rfl,q⟩:=hrel
    by_cases a3:k<b
    · have Y:(k:Int)<(b:Int):=by omega
      obtain ⟨U,o1,x,g,f,d,rfl,W,E,x0,x1,x2,x3,J⟩:=tm_atT (MemW.keepB M.out q.out) k (by have :=L1.out;omega)
      obtain ⟨V,o2,y,p,o,j,rfl,X,T,y0,y1,y2,y3,K⟩:=tm_atT (MemW.keepB N.out q.out) k (by have :=L2.out;omega)
      have P:=zz (Q.out x y (mem_of_at E.out) (all2_at R.out E.out T.out) g f d p o j ((wr.alloc (.cells #[.int .i64 x.kind,.string x.name,.int .i64 x.n,.slice g f d] 83)).alloc (.cells #[.int .i64 y.kind,.string y.name,.int .i64 y.n,.slice p o j] 83)) (MemW.alloc (MemW.alloc J _) _) (MemW.alloc (MemW.alloc K _) _));have Z:U≠wr.heap.size:=Nat.ne_of_lt W;have a0:V≠wr.heap.size:=Nat.ne_of_lt X;have D:=zz ((below_new wr (.cells #[.int .i64 x.kind,.string x.name,.int .i64 x.n,.slice g f d] 83)).alloc (below_new wr (.cells #[.int .i64 x.kind,.string x.name,.int .i64 x.n,.slice g f d] 83)).size (.cells #[.int .i64 y.kind,.string y.name,.int .i64 y.n,.slice p o j] 83));clear J K
      go_wp2_with (fail)
      refine P.out.mono ?_;rintro e w4 ⟨rfl,L⟩;have O:=zz (q.out.trans (((D.out).trans (L.mono D.out.size)).mono q.out.size));clear L
      go_wp2_with (fail)
      go_roundw
      case rel=>exact ⟨k+1,by omega,by go_num,O⟩
      case measure=>simp [intOf];omega
    · obtain rfl:k=b:=by omega
      have Y: ¬(k:Int)<(k:Int):=by omega
      go_wp2
      go_ret;exact ⟨rfl,q.out⟩
theorem eqC {r l2:List Cn} (B:All2 CnS r l2)
    (IH:∀ x y,x∈r→CnS x y→∀ (g:Option Addr) (f d:Nat) (p:Option Addr) (o j:Nat) (w:World),MemW w (.s 4 (Tm.rows x.types)) (.slice g f d)→MemW w (.s 4 (Tm.rows y.types)) (.slice p o j)→Calls Tryz.prog 37 #[.agg #[.string x.name,.slice g f d,.int .i64 x.l,.int .i64 x.c],.agg #[.string y.name,.slice p o j,.int .i64 y.l,.int .i64 y.c]] w fun e C=>e=.returned (.bool true)∧Below w.heap.size w C)
    {F G:Option Addr} {b v H I:Nat} (w:World) (z:MemW w (.s 4 (r.map Cn.row)) (.slice F b H)) (A:MemW w (.s 4 (l2.map Cn.row)) (.slice G v I)):
    Calls Tryz.prog 36 #[.slice F b H,.slice G v I,.func (.func 37) #[] #[]] w fun e C=>e=.returned (.bool true)∧Below w.heap.size w C:=by
  have t:=z.len;have u:=A.len;have Q:=zz IH;have R:=zz B;have M:=zz z;have N:=zz A
  have L1:Hid (r.length=b):=zz (by have h:=t.1;rw [List.length_map] at h;exact h)
  have L2:Hid (l2.length=v):=zz (by have h:=u.1;rw [List.length_map] at h;exact h)
  have k1:=t.2.1;have k2:=t.2.2;have k3:=u.2.1;have k4:=u.2.2
  obtain rfl:b=v:=by have :=B.len;have :=L1.out;have :=L2.out;omega
  clear z A t u IH B;go_enter Tryz.func36,Tryz.ntmps36
  go_wp2
  go_loopw [7,17] (fun _ i wr=>∃ k:Nat,k≤b∧i=.int .i64 k∧Hid (Below w.heap.size w wr)) (fun _ i _=>b - (intOf i).toNat)
  case atStart=>exact ⟨0,Nat.zero_le _,rfl,zz (Below.refl _ _)⟩
  case round=>
    obtain ⟨k,hk,rfl,q⟩:=hrel
    by_cases a3:k<b
    · have Y:(k:Int)<(b:Int):=by omega
      obtain ⟨U,o1,x,g,f,d,rfl,W,E,x0,x1,x2,x3,J⟩:=cn_at (MemW.keepB M.out q.out) k (by have :=L1.out;omega)
      obtain ⟨V,o2,y,p,o,j,rfl,X,T,y0,y1,y2,y3,K⟩:=cn_at (MemW.keepB N.out q.out) k (by have :=L2.out;omega)
      have P:=zz (Q.out x y (mem_of_at E.out) (all2_at R.out E.out T.out) g f d p o j ((wr.alloc (.cells #[.string x.name,.slice g f d,.int .i64 x.l,.int .i64 x.c] 75)).alloc (.cells #[.string y.name,.slice p o j,.int .i64 y.l,.int .i64 y.c] 75)) (MemW.alloc (MemW.alloc J _) _) (MemW.alloc (MemW.alloc K _) _));have Z:U≠wr.heap.size:=Nat.ne_of_lt W;have a0:V≠wr.heap.size:=Nat.ne_of_lt X;have D:=zz ((below_new wr (.cells #[.string x.name,.slice g f d,.int .i64 x.l,.int .i64 x.c] 75)).alloc (below_new wr (.cells #[.string x.name,.slice g f d,.int .i64 x.l,.int .i64 x.c] 75)).size (.cells #[.string y.name,.slice p o j,.int .i64 y.l,.int .i64 y.c] 75));clear J K
      go_wp2_with (fail)
      refine P.out.mono ?_;rintro e w4 ⟨rfl,L⟩;have O:=zz (q.out.trans (((D.out).trans (L.mono D.out.size)).mono q.out.size));clear L
      go_wp2_with (fail)
      go_roundw
      case rel=>exact ⟨k+1,by omega,by go_num,O⟩
      case measure=>simp [intOf];omega
    · obtain rfl:k=b:=by omega
      have Y: ¬(k:Int)<(k:Int):=by omega
      go_wp2
      go_ret;exact ⟨rfl,q.out⟩
theorem eqD {B l2:List Da} (H:All2 DaS B l2)
    (IH:∀ x y,x∈B→DaS x y→∀ (o:Option Addr) (g d:Nat) (p:Option Addr) (j f:Nat) (v:Option Addr) (t q:Nat) (z:Option Addr) (u r:Nat) (w:World),MemW w (.s 1 (x.vars.map strRow)) (.slice o g d)→MemW w (.s 4 (x.cons.map Cn.row)) (.slice p j f)→MemW w (.s 1 (y.vars.map strRow)) (.slice v t q)→MemW w (.s 4 (y.cons.map Cn.row)) (.slice z u r)→Calls Tryz.prog 35 #[.agg #[.string x.name,.slice o g d,.slice p j f,.int .i64 x.l,.int .i64 x.c],.agg #[.string y.name,.slice v t q,.slice z u r,.int .i64 y.l,.int .i64 y.c]] w fun e I=>e=.returned (.bool true)∧Below w.heap.size w I)
    {L M:Option Addr} {b E N O:Nat} (w:World) (F:MemW w (.s 5 (B.map Da.row)) (.slice L b N)) (G:MemW w (.s 5 (l2.map Da.row)) (.slice M E O)):
    Calls Tryz.prog 34 #[.slice L b N,.slice M E O,.func (.func 35) #[] #[]] w fun e I=>e=.returned (.bool true)∧Below w.heap.size w I:=by
  have C:=F.len;have D:=G.len;have Z:=zz IH;have HR:=zz H;have V:=zz F;have W:=zz G
  have L1:Hid (B.length=b):=zz (by have h:=C.1;rw [List.length_map] at h;exact h)
  have L2:Hid (l2.length=E):=zz (by have h:=D.1;rw [List.length_map] at h;exact h)
  have k1:=C.2.1;have k2:=C.2.2;have k3:=D.2.1;have k4:=D.2.2
  obtain rfl:b=E:=by have :=H.len;have :=L1.out;have :=L2.out;omega
  clear F G C D IH H;go_enter Tryz.func34,Tryz.ntmps34
  go_wp2
  go_loopw [7,17] (fun _ i wr=>∃ k:Nat,k≤b∧i=.int .i64 k∧Hid (Below w.heap.size w wr)) (fun _ i _=>b - (intOf i).toNat)
  case atStart=>exact ⟨0,Nat.zero_le _,rfl,zz (Below.refl _ _)⟩
  case round=>
    obtain ⟨k,hk,rfl,A⟩:=hrel
    by_cases a6:k<b
    · have a3:(k:Int)<(b:Int):=by omega
      obtain ⟨b1,o1,x,o,g,d,p,j,f,rfl,bx,K,x0,x1,x2,x3,x4,P,Q⟩:=da_at (MemW.keepB V.out A.out) k (by have :=L1.out;omega)
      obtain ⟨b2,o2,y,v,t,q,z,u,r,rfl,a0,HY,y0,y1,y2,y3,y4,R,T⟩:=da_at (MemW.keepB W.out A.out) k (by have :=L2.out;omega)
      have Y:=zz (Z.out x y (mem_of_at K.out) (all2_at HR.out K.out HY.out) o g d p j f v t q z u r ((wr.alloc (.cells #[.string x.name,.slice o g d,.slice p j f,.int .i64 x.l,.int .i64 x.c] 40)).alloc (.cells #[.string y.name,.slice v t q,.slice z u r,.int .i64 y.l,.int .i64 y.c] 40)) (MemW.alloc (MemW.alloc P _) _) (MemW.alloc (MemW.alloc Q _) _) (MemW.alloc (MemW.alloc R _) _) (MemW.alloc (MemW.alloc T _) _));have a4:b1≠wr.heap.size:=Nat.ne_of_lt bx;have a5:b2≠wr.heap.size:=Nat.ne_of_lt a0;have J:=zz ((below_new wr (.cells #[.string x.name,.slice o g d,.slice p j f,.int .i64 x.l,.int .i64 x.c] 40)).alloc (below_new wr (.cells #[.string x.name,.slice o g d,.slice p j f,.int .i64 x.l,.int .i64 x.c] 40)).size (.cells #[.string y.name,.slice v t q,.slice z u r,.int .i64 y.l,.int .i64 y.c] 40));clear P Q R T
      go_wp2_with (fail)
      refine Y.out.mono ?_;rintro e w4 ⟨rfl,U⟩;have X:=zz (A.out.trans (((J.out).trans (U.mono J.out.size)).mono A.out.size));clear U
      go_wp2_with (fail)
      go_roundw
      case rel=>exact ⟨k+1,by omega,by go_num,X⟩
      case measure=>simp [intOf];omega
    · obtain rfl:k=b:=by omega
      have a3: ¬(k:Int)<(k:Int):=by omega
      go_wp2
      go_ret;exact ⟨rfl,A.out⟩
theorem eqR {H l2:List Ru} (N:All2 RuS H l2)
    (IH:∀ x y,x∈H→RuS x y→∀ (q:Option Addr) (j d:Nat) (r:Option Addr) (o f:Nat) (t:Option Addr) (p g:Nat) (D:Option Addr) (A u:Nat) (E:Option Addr) (B v:Nat) (F:Option Addr) (C z:Nat) (w:World),MemW w (.s 6 (Ex.rows x.pats)) (.slice q j d)→MemW w (.s 6 (Ex.rows x.guard)) (.slice r o f)→MemW w (.s 6 (Ex.rows x.body.args)) (.slice t p g)→MemW w (.s 6 (Ex.rows y.pats)) (.slice D A u)→MemW w (.s 6 (Ex.rows y.guard)) (.slice E B v)→MemW w (.s 6 (Ex.rows y.body.args)) (.slice F C z)→Calls Tryz.prog 42 #[.agg #[.string x.name,.slice q j d,.slice r o f,.int .i64 x.body.kind,.string x.body.name,.int .i64 x.body.n,.slice t p g,.int .i64 x.body.line,.int .i64 x.body.col,.int .i64 x.l,.int .i64 x.c],.agg #[.string y.name,.slice D A u,.slice E B v,.int .i64 y.body.kind,.string y.body.name,.int .i64 y.body.n,.slice F C z,.int .i64 y.body.line,.int .i64 y.body.col,.int .i64 y.l,.int .i64 y.c]] w fun e O=>e=.returned (.bool true)∧Below w.heap.size w O)
    {R T:Option Addr} {b K U V:Nat} (w:World) (L:MemW w (.s 11 (H.map Ru.row)) (.slice R b U)) (M:MemW w (.s 11 (l2.map Ru.row)) (.slice T K V)):
    Calls Tryz.prog 41 #[.slice R b U,.slice T K V,.func (.func 42) #[] #[]] w fun e O=>e=.returned (.bool true)∧Below w.heap.size w O:=by
  have I:=L.len;have J:=M.len;have HI:=zz IH;have HR:=zz N;have H1:=zz L;have H2:=zz M
  have L1:Hid (H.length=b):=zz (by have h:=I.1;rw [List.length_map] at h;exact h)
  have L2:Hid (l2.length=K):=zz (by have h:=J.1;rw [List.length_map] at h;exact h)
  have k1:=I.2.1;have k2:=I.2.2;have k3:=J.2.1;have k4:=J.2.2
  obtain rfl:b=K:=by have :=N.len;have :=L1.out;have :=L2.out;omega
  clear L M I J IH N;go_enter Tryz.func41,Tryz.ntmps41
  go_wp2
  go_loopw [7,17] (fun _ i wr=>∃ k:Nat,k≤b∧i=.int .i64 k∧Hid (Below w.heap.size w wr)) (fun _ i _=>b - (intOf i).toNat)
  case atStart=>exact ⟨0,Nat.zero_le _,rfl,zz (Below.refl _ _)⟩
  case round=>
    obtain ⟨k,hk,rfl,G⟩:=hrel
    by_cases aa:k<b
    · have a7:(k:Int)<(b:Int):=by omega
      obtain ⟨b1,o1,x,q,j,d,r,o,f,t,p,g,rfl,bx,Q,x0,x1,x2,x3,x4,x5,x6,x7,x8,x9,ab,W,X,Y⟩:=ru_at (MemW.keepB H1.out G.out) k (by have :=L1.out;omega)
      obtain ⟨b2,o2,y,D,A,u,E,B,v,F,C,z,rfl,a6,HY,y0,y1,y2,y3,y4,y5,y6,y7,y8,y9,ac,Z,a0,a3⟩:=ru_at (MemW.keepB H2.out G.out) k (by have :=L2.out;omega)
      have HC:=zz (HI.out x y (mem_of_at Q.out) (all2_at HR.out Q.out HY.out) q j d r o f t p g D A u E B v F C z ((wr.alloc (.cells #[.string x.name,.slice q j d,.slice r o f,.int .i64 x.body.kind,.string x.body.name,.int .i64 x.body.n,.slice t p g,.int .i64 x.body.line,.int .i64 x.body.col,.int .i64 x.l,.int .i64 x.c] 62)).alloc (.cells #[.string y.name,.slice D A u,.slice E B v,.int .i64 y.body.kind,.string y.body.name,.int .i64 y.body.n,.slice F C z,.int .i64 y.body.line,.int .i64 y.body.col,.int .i64 y.l,.int .i64 y.c] 62)) (MemW.alloc (MemW.alloc W _) _) (MemW.alloc (MemW.alloc X _) _) (MemW.alloc (MemW.alloc Y _) _) (MemW.alloc (MemW.alloc Z _) _) (MemW.alloc (MemW.alloc a0 _) _) (MemW.alloc (MemW.alloc a3 _) _));have a8:b1≠wr.heap.size:=Nat.ne_of_lt bx;have a9:b2≠wr.heap.size:=Nat.ne_of_lt a6;have P:=zz ((below_new wr (.cells #[.string x.name,.slice q j d,.slice r o f,.int .i64 x.body.kind,.string x.body.name,.int .i64 x.body.n,.slice t p g,.int .i64 x.body.line,.int .i64 x.body.col,.int .i64 x.l,.int .i64 x.c] 62)).alloc (below_new wr (.cells #[.string x.name,.slice q j d,.slice r o f,.int .i64 x.body.kind,.string x.body.name,.int .i64 x.body.n,.slice t p g,.int .i64 x.body.line,.int .i64 x.body.col,.int .i64 x.l,.int .i64 x.c] 62)).size (.cells #[.string y.name,.slice D A u,.slice E B v,.int .i64 y.body.kind,.string y.body.name,.int .i64 y.body.n,.slice F C z,.int .i64 y.body.line,.int .i64 y.body.col,.int .i64 y.l,.int .i64 y.c] 62));clear W X Y Z a0 a3
      go_wp2_with (fail)
      refine HC.out.mono ?_;rintro e w4 ⟨rfl,a4⟩;have a5:=zz (G.out.trans (((P.out).trans (a4.mono P.out.size)).mono G.out.size));clear a4
      go_wp2_with (fail)
      go_roundw
      case rel=>exact ⟨k+1,by omega,by go_num,a5⟩
      case measure=>simp [intOf];omega
    · obtain rfl:k=b:=by omega
      have a7: ¬(k:Int)<(k:Int):=by omega
      go_wp2
      go_ret;exact ⟨rfl,G.out⟩
end
section
open Go.RowKit
theorem all2_of {α β:Type} {R:α→β→Prop} :∀ (l:List α) (m:List β),l.length=m.length→(∀ i (a:i<l.length) (b:i<m.length),R l[i] m[i])→All2 R l m
  | [],[],_,_=>.nil
  | [],_::_,h,_=>by simp at h
  | _::_,[],h,_=>by simp at h
  | x::l,y::m,h,g=>.cons (g 0 (by simp) (by simp)) (all2_of l m (by simpa using h) fun i a b=>by have :=g (i+1) (by simp;omega) (by simp;omega);simpa using this)
theorem all2_eq {α:Type} :∀ (l:List α),All2 (fun x y=>x=y) l l
  | []=>.nil
  | _::l=>.cons rfl (all2_eq l)
attribute [local go_sem] toList_beq
theorem same_ast (m:Nat):∀ (x y:Ex),SizeOf.sizeOf x≤m→SamE false x y→∀ (a:Option Addr) (n c:Nat) (b:Option Addr) (f d:Nat) (w:World),MemW w (.s 6 (Ex.rows x.args)) (.slice a n c)→MemW w (.s 6 (Ex.rows y.args)) (.slice b f d)→
    Calls Tryz.prog 70 #[.agg #[.int .i64 x.kind,.string x.name,.int .i64 x.n,.slice a n c,.int .i64 x.line,.int .i64 x.col],.agg #[.int .i64 y.kind,.string y.name,.int .i64 y.n,.slice b f d,.int .i64 y.line,.int .i64 y.col]] w fun e C=>e=.returned (.bool true)∧Below w.heap.size w C:=by
  induction m with
  | zero=>intro x y h;cases x;simp at h
  | succ m ih=>
  intro x y q A a n c b f d w j o
  cases A with
  | mk k s nn xs ys l co l' co' hl ha hp=>
  have v:=zz (fun (i:World) (g1:MemW i (.s 6 (Ex.rows xs)) (.slice a n c)) (g2:MemW i (.s 6 (Ex.rows ys)) (.slice b f d))=>eqE (all2_of xs ys hl ha) (fun x y B z=>ih x y (by have D:=List.sizeOf_lt_of_mem B;simp at q;omega) z) i g1 g2)
  have r:Hid (MemW w (.s 6 (Ex.rows xs)) (.slice a n c)):=zz j;have t:Hid (MemW w (.s 6 (Ex.rows ys)) (.slice b f d)):=zz o;clear ih q ha hp j o hl;simp only [Ex.kind,Ex.name,Ex.n,Ex.line,Ex.col];go_enter Tryz.func70,Tryz.ntmps70
  go_wp2_with (fail)
  have g:=zz ((below_new w (.cells #[.int .i64 k,.string s,.int .i64 nn,.slice a n c,.int .i64 l,.int .i64 co] 60)).alloc (by rw [World.size_alloc];omega) (.cells #[.int .i64 k,.string s,.int .i64 nn,.slice b f d,.int .i64 l',.int .i64 co'] 60));refine (v.out _ (r.out.keep g.out) (t.out.keep g.out)).mono ?_;rintro e E ⟨rfl,p⟩;have u:=zz (g.out.trans (p.mono g.out.size));clear p
  go_wp2_with (fail)
  go_ret;exact ⟨rfl,u.out⟩
theorem same_typ (m:Nat):∀ (x:Tm),SizeOf.sizeOf x≤m→∀ (a:Option Addr) (n c:Nat) (b:Option Addr) (f d:Nat) (w:World),MemW w (.s 4 (Tm.rows x.args)) (.slice a n c)→MemW w (.s 4 (Tm.rows x.args)) (.slice b f d)→
    Calls Tryz.prog 39 #[.agg #[.int .i64 x.kind,.string x.name,.int .i64 x.n,.slice a n c],.agg #[.int .i64 x.kind,.string x.name,.int .i64 x.n,.slice b f d]] w fun e B=>e=.returned (.bool true)∧Below w.heap.size w B:=by
  induction m with
  | zero=>intro x h;cases x;simp at h
  | succ m ih=>
  intro x q a n c b f d w j o
  cases x with
  | mk k s nn xs=>
  have v:=zz (fun (i:World) (g1:MemW i (.s 4 (Tm.rows xs)) (.slice a n c)) (g2:MemW i (.s 4 (Tm.rows xs)) (.slice b f d))=>eqT (all2_eq xs) (fun x y A z=>by cases z;exact ih x (by have C:=List.sizeOf_lt_of_mem A;simp at q;omega)) i g1 g2)
  have r:Hid (MemW w (.s 4 (Tm.rows xs)) (.slice a n c)):=zz j;have t:Hid (MemW w (.s 4 (Tm.rows xs)) (.slice b f d)):=zz o;clear ih q j o;simp only [Tm.kind,Tm.name,Tm.n];go_enter Tryz.func39,Tryz.ntmps39
  go_wp2_with (fail)
  have g:=zz ((below_new w (.cells #[.int .i64 k,.string s,.int .i64 nn,.slice a n c] 83)).alloc (by rw [World.size_alloc];omega) (.cells #[.int .i64 k,.string s,.int .i64 nn,.slice b f d] 83));refine (v.out _ (r.out.keep g.out) (t.out.keep g.out)).mono ?_;rintro e D ⟨rfl,p⟩;have u:=zz (g.out.trans (p.mono g.out.size));clear p
  go_wp2_with (fail)
  go_ret;exact ⟨rfl,u.out⟩
end
section
open Go.RowKit
theorem str_atH {S:Nat→Prop} {w:World} {l:List ByteArray} {a:Option Addr} {m c:Nat} (h:Mem S w (.s 1 (l.map strRow)) (.slice a m c)) (i:Nat) (f:i<l.length):
    ∃ b o x,a=some ⟨b,o,none⟩∧S b∧Hid (l[i]?=some x)∧w.cell? ⟨b,o+i,none⟩=some (.string x):=by
  obtain ⟨b,o,j,g,_,q,d,p⟩:=Mem.at h i (by rw [List.length_map];exact f);rw [List.getElem_map] at d;unfold strRow at d
  cases d with
  | cons h0 d=>
  cases d;cases mem_v h0;have e:=p 0 (by simp);rw [Nat.mul_one] at e;exact ⟨b,o,l[i],j,g,zz (List.getElem?_eq_getElem f),e⟩
attribute [local go_sem] toList_beq neq_toListE
theorem eq_strs (l:List ByteArray) {o p:Option Addr} {a f q r:Nat} (w:World) (g:MemW w (.s 1 (l.map strRow)) (.slice o a q)) (j:MemW w (.s 1 (l.map strRow)) (.slice p f r)):
    Calls Tryz.prog 40 #[.slice o a q,.slice p f r] w fun e C=>e=.returned (.bool true)∧Below w.heap.size w C:=by
  have b:=g.len;have d:=j.len;have t:=zz g;have u:=zz j
  have L1:Hid (l.length=a):=zz (by have h:=b.1;rw [List.length_map] at h;exact h)
  have L2:Hid (l.length=f):=zz (by have h:=d.1;rw [List.length_map] at h;exact h)
  have J:=b.2.1;have K:=b.2.2;have L:=d.2.1;have M:=d.2.2
  obtain rfl:a=f:=by have :=L1.out;have :=L2.out;omega
  clear g j b d;go_enter Tryz.func40,Tryz.ntmps40
  go_wp2
  go_loopw [5,13] (fun _ i wr=>∃ k:Nat,k≤a∧i=.int .i64 k∧Hid (∃ m,wr=w.drewN m)) (fun _ i _=>a - (intOf i).toNat)
  case atStart=>exact ⟨0,Nat.zero_le _,rfl,zz ⟨0,rfl⟩⟩
  case round=>
    obtain ⟨k,H,rfl,⟨m,rfl⟩⟩:=hrel
    by_cases I:k<a
    · have A:(k:Int)<(a:Int):=by omega
      obtain ⟨D,N,x,rfl,F,v,P⟩:=str_atH t.out k (by have :=L1.out;omega)
      obtain ⟨E,O,y,rfl,G,z,Q⟩:=str_atH u.out k (by have :=L1.out;omega)
      have B:x=y:=Option.some.inj (v.out.symm.trans z.out);subst B
      go_wp2
      go_quiet (fail)
      go_wp2
      go_roundw
      case rel=>exact ⟨k+1,by omega,by go_num,zz ⟨_,rfl⟩⟩
      case measure=>simp [intOf];omega
    · obtain rfl:k=a:=by omega
      have A: ¬(k:Int)<(k:Int):=by omega
      go_wp2
      go_ret;exact ⟨rfl,below_drewN (Below.refl _ _) m⟩
end
section
open Go.RowKit
attribute [local go_sem] toList_beq neq_toListE
theorem same_con (x y:Cn) (h:CnS x y) (a:Option Addr) (n c:Nat) (d:Option Addr) (g f:Nat) (w:World) (p:MemW w (.s 4 (Tm.rows x.types)) (.slice a n c)) (i:MemW w (.s 4 (Tm.rows y.types)) (.slice d g f)):
    Calls Tryz.prog 37 #[.agg #[.string x.name,.slice a n c,.int .i64 x.l,.int .i64 x.c],.agg #[.string y.name,.slice d g f,.int .i64 y.l,.int .i64 y.c]] w fun e A=>e=.returned (.bool true)∧Below w.heap.size w A:=by
  obtain ⟨m,o⟩:=h;rw [←o] at i;rw [←m];have v:=zz (fun (j:World) (g1:MemW j (.s 4 (Tm.rows x.types)) (.slice a n c)) (g2:MemW j (.s 4 (Tm.rows x.types)) (.slice d g f))=>eqT (all2_eq x.types) (fun x y _ z=>by cases z;exact same_typ _ x (Nat.le_refl _)) j g1 g2);have r:=zz p;have t:=zz i;clear p i m o;go_enter Tryz.func37,Tryz.ntmps37
  go_wp2_with (fail)
  have b:=zz ((below_new w (.cells #[.string x.name,.slice a n c,.int .i64 x.l,.int .i64 x.c] 75)).alloc (by rw [World.size_alloc];omega) (.cells #[.string x.name,.slice d g f,.int .i64 y.l,.int .i64 y.c] 75));refine (v.out _ (r.out.keep b.out) (t.out.keep b.out)).mono ?_;rintro e B ⟨rfl,q⟩;have u:=zz (b.out.trans (q.mono b.out.size));clear q
  go_wp2_with (fail)
  go_ret;exact ⟨rfl,u.out⟩
theorem same_dat (x y:Da) (h:DaS x y) (a:Option Addr) (n c:Nat) (b:Option Addr) (m k:Nat) (i:Option Addr) (o j:Nat) (d:Option Addr) (g f:Nat) (w:World) (G:MemW w (.s 1 (x.vars.map strRow)) (.slice a n c)) (u:MemW w (.s 4 (x.cons.map Cn.row)) (.slice b m k)) (z:MemW w (.s 1 (y.vars.map strRow)) (.slice i o j)) (v:MemW w (.s 4 (y.cons.map Cn.row)) (.slice d g f)):
    Calls Tryz.prog 35 #[.agg #[.string x.name,.slice a n c,.slice b m k,.int .i64 x.l,.int .i64 x.c],.agg #[.string y.name,.slice i o j,.slice d g f,.int .i64 y.l,.int .i64 y.c]] w fun e O=>e=.returned (.bool true)∧Below w.heap.size w O:=by
  obtain ⟨D,E,F⟩:=h;rw [←E] at z;rw [←D];have L:=zz (fun (B:World) (u:MemW B (.s 4 (x.cons.map Cn.row)) (.slice b m k)) (v:MemW B (.s 4 (y.cons.map Cn.row)) (.slice d g f))=>eqC F (fun x y _ N=>same_con x y N) B u v);have I:=zz G;have J:=zz z;have G1:=zz u;have G2:=zz v;clear G z u v D E F;go_enter Tryz.func35,Tryz.ntmps35
  go_wp2_with (fail)
  have q:=zz ((below_new w (.cells #[.string x.name,.slice a n c,.slice b m k,.int .i64 x.l,.int .i64 x.c] 40)).alloc (by rw [World.size_alloc];omega) (.cells #[.string x.name,.slice i o j,.slice d g f,.int .i64 y.l,.int .i64 y.c] 40));refine (L.out _ (G1.out.keep q.out) (G2.out.keep q.out)).mono ?_;rintro e p ⟨rfl,A⟩;have r:=zz (q.out.trans (A.mono q.out.size));have t:=zz A;clear A
  have P:w.heap.size+2≤p.heap.size:=by have h:=t.out.size;rw [World.size_alloc,World.size_alloc] at h;omega
  have B1:Bo p w.heap.size 40 #[.string x.name,.slice a n c,.slice b m k,.int .i64 x.l,.int .i64 x.c]:=((Bo.new w _ _).keep (below_new _ _)).keep t.out
  have B2:Bo p (w.heap.size+1) 40 #[.string x.name,.slice i o j,.slice d g f,.int .i64 y.l,.int .i64 y.c]:=by
    have h:=(Bo.new (w.alloc (.cells #[.string x.name,.slice a n c,.slice b m k,.int .i64 x.l,.int .i64 x.c] 40)) 40 #[.string x.name,.slice i o j,.slice d g f,.int .i64 y.l,.int .i64 y.c]).keep t.out;rw [World.size_alloc] at h;exact h
  have R:=B1.c5z;have S:=B2.c5z
  have Q:w.heap.size≠w.heap.size+1:=by omega
  have M:=zz (fun (C:World) (hb:Below p.heap.size p C)=>eq_strs x.vars C ((I.out.keep r.out).keep hb) ((J.out.keep r.out).keep hb));clear B1 B2 t
  go_wp2_with (fail)
  refine (M.out _ (Below.refl _ _)).mono ?_;rintro e C ⟨rfl,H⟩;have K:=zz (r.out.trans (H.mono r.out.size));clear H
  go_wp2_with (fail)
  go_ret;exact ⟨rfl,K.out⟩
end
end Go.Proofs.YtcoiagfeoonpbaaGreat
