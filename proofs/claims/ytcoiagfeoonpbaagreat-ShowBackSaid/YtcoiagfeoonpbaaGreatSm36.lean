/-
  slices.EqualFunc at what a module holds: where each pair is alike, all are. No condition but how they lie.
-/
import Derived.Test.YtcoiagfeoonpbaaGreatSm34
import Derived.Test.YtcoiagfeoonpbaaGreatSm35
set_option maxHeartbeats 20000000
set_option maxRecDepth 100000
namespace Go.Proofs.YtcoiagfeoonpbaaGreat
section
open Go.RowKit
theorem all2_at {α β:Type} {R:α→β→Prop} :∀ {l:List α} {m:List β} (_:All2 R l m) {k:Nat} {x:α} {y:β} (_:l[k]?=some x) (_:m[k]?=some y),R x y
  | _,_,.nil,k,x,y,h,_=>by simp at h
  | _,_,.cons h t,0,x,y,hx,hy=>by simp at hx hy;subst hx;subst hy;exact h
  | _,_,.cons _ t,k+1,x,y,hx,hy=>all2_at t (by simpa using hx) (by simpa using hy)
theorem MemW.keepB {x:At} {y:Value} {w w':World} (h:MemW w x y) (hb:Below w.heap.size w w'):MemW w' x y:=h.keep hb
section
variable {S:Nat→Prop} {w:World} {a:Option Addr} {m c:Nat}
theorem cn_at {l:List Cn} (h:Mem S w (.s 4 (l.map Cn.row)) (.slice a m c)) (i:Nat) (hi:i<l.length):
    ∃ b o x a1 m1 c1,a=some ⟨b,o,none⟩∧S b∧Hid (l[i]?=some x)∧w.cell? ⟨b,o+i * 4,none⟩=some (.string x.name)∧w.cell? ⟨b,o+i * 4+1,none⟩=some (.slice a1 m1 c1)∧w.cell? ⟨b,o+i * 4+2,none⟩=some (.int .i64 x.l)∧w.cell? ⟨b,o+i * 4+3,none⟩=some (.int .i64 x.c)∧Mem S w (.s 4 (Tm.rows x.types)) (.slice a1 m1 c1):=by
  obtain ⟨b,o,ha,hS,_,cs,h2,hc⟩:=Mem.at h i (by rw [List.length_map];exact hi);rw [List.getElem_map] at h2;obtain ⟨a1,m1,c1,rfl,g1⟩:=cn_cells h2;exact ⟨b,o,l[i],a1,m1,c1,ha,hS,zz (List.getElem?_eq_getElem hi),hc 0 (by simp),hc 1 (by simp),hc 2 (by simp),hc 3 (by simp),g1⟩
theorem ru_at {l:List Ru} (h:Mem S w (.s 11 (l.map Ru.row)) (.slice a m c)) (i:Nat) (hi:i<l.length):
    ∃ b o x a1 m1 c1 a2 m2 c2 a3 m3 c3,a=some ⟨b,o,none⟩∧S b∧Hid (l[i]?=some x)∧w.cell? ⟨b,o+i * 11,none⟩=some (.string x.name)∧w.cell? ⟨b,o+i * 11+1,none⟩=some (.slice a1 m1 c1)∧w.cell? ⟨b,o+i * 11+2,none⟩=some (.slice a2 m2 c2)∧w.cell? ⟨b,o+i * 11+3,none⟩=some (.int .i64 x.body.kind)∧w.cell? ⟨b,o+i * 11+4,none⟩=some (.string x.body.name)∧w.cell? ⟨b,o+i * 11+5,none⟩=some (.int .i64 x.body.n)∧w.cell? ⟨b,o+i * 11+6,none⟩=some (.slice a3 m3 c3)∧w.cell? ⟨b,o+i * 11+7,none⟩=some (.int .i64 x.body.line)∧w.cell? ⟨b,o+i * 11+8,none⟩=some (.int .i64 x.body.col)∧w.cell? ⟨b,o+i * 11+9,none⟩=some (.int .i64 x.l)∧w.cell? ⟨b,o+i * 11+10,none⟩=some (.int .i64 x.c)∧Mem S w (.s 6 (Ex.rows x.pats)) (.slice a1 m1 c1)∧Mem S w (.s 6 (Ex.rows x.guard)) (.slice a2 m2 c2)∧Mem S w (.s 6 (Ex.rows x.body.args)) (.slice a3 m3 c3):=by
  obtain ⟨b,o,ha,hS,_,cs,h2,hc⟩:=Mem.at h i (by rw [List.length_map];exact hi);rw [List.getElem_map] at h2;obtain ⟨a1,m1,c1,a2,m2,c2,a3,m3,c3,rfl,g1,g2,g3⟩:=ru_cells h2;exact ⟨b,o,l[i],a1,m1,c1,a2,m2,c2,a3,m3,c3,ha,hS,zz (List.getElem?_eq_getElem hi),hc 0 (by simp),hc 1 (by simp),hc 2 (by simp),hc 3 (by simp),hc 4 (by simp),hc 5 (by simp),hc 6 (by simp),hc 7 (by simp),hc 8 (by simp),hc 9 (by simp),hc 10 (by simp),g1,g2,g3⟩
theorem ex_atT {l:List Ex} (h:Mem S w (.s 6 (Ex.rows l)) (.slice a m c)) (i:Nat) (hi:i<l.length):
    ∃ b o x a1 m1 c1,a=some ⟨b,o,none⟩∧S b∧Hid (l[i]?=some x)∧w.cell? ⟨b,o+i * 6,none⟩=some (.int .i64 x.kind)∧w.cell? ⟨b,o+i * 6+1,none⟩=some (.string x.name)∧w.cell? ⟨b,o+i * 6+2,none⟩=some (.int .i64 x.n)∧w.cell? ⟨b,o+i * 6+3,none⟩=some (.slice a1 m1 c1)∧w.cell? ⟨b,o+i * 6+4,none⟩=some (.int .i64 x.line)∧w.cell? ⟨b,o+i * 6+5,none⟩=some (.int .i64 x.col)∧Mem S w (.s 6 (Ex.rows x.args)) (.slice a1 m1 c1):=ex_atS h i hi
theorem tm_atT {l:List Tm} (h:MemW w (.s 4 (Tm.rows l)) (.slice a m c)) (i:Nat) (hi:i<l.length):
    ∃ b o x a1 m1 c1,a=some ⟨b,o,none⟩∧b<w.heap.size∧Hid (l[i]?=some x)∧w.cell? ⟨b,o+i * 4,none⟩=some (.int .i64 x.kind)∧w.cell? ⟨b,o+i * 4+1,none⟩=some (.string x.name)∧w.cell? ⟨b,o+i * 4+2,none⟩=some (.int .i64 x.n)∧w.cell? ⟨b,o+i * 4+3,none⟩=some (.slice a1 m1 c1)∧MemW w (.s 4 (Tm.rows x.args)) (.slice a1 m1 c1):=by
  obtain ⟨b,o,x,a1,m1,c1,g0,g1,g2,g3,g4,g5,g6,g7⟩:=Tms.at (show Tms w l a m c from h) i (by have h1:=(Tms.len (show Tms w l a m c from h)).1;omega)
  exact ⟨b,o,x,a1,m1,c1,g0,g1,g2,g3,g4,g5,g6,g7.out⟩
end
def TmS (x y:Tm):Prop:=x=y
theorem eqE {l1 l2:List Ex} (hR:All2 (SamE false) l1 l2)
    (IH:∀ x y,x∈l1→(SamE false) x y→∀ (px0:Option Addr) (nx0 kx0:Nat) (py0:Option Addr) (ny0 ky0:Nat) (w:World),MemW w (.s 6 (Ex.rows x.args)) (.slice px0 nx0 kx0)→MemW w (.s 6 (Ex.rows y.args)) (.slice py0 ny0 ky0)→Calls Tryz.prog 70 #[.agg #[.int .i64 x.kind,.string x.name,.int .i64 x.n,.slice px0 nx0 kx0,.int .i64 x.line,.int .i64 x.col],.agg #[.int .i64 y.kind,.string y.name,.int .i64 y.n,.slice py0 ny0 ky0,.int .i64 y.line,.int .i64 y.col]] w fun e w'=>e=.returned (.bool true)∧Below w.heap.size w w')
    {a1 a2:Option Addr} {n1 n2 c1 c2:Nat} (w:World) (h1:MemW w (.s 6 (Ex.rows l1)) (.slice a1 n1 c1)) (h2:MemW w (.s 6 (Ex.rows l2)) (.slice a2 n2 c2)):
    Calls Tryz.prog 69 #[.slice a1 n1 c1,.slice a2 n2 c2,.func (.func 70) #[] #[]] w fun e w'=>e=.returned (.bool true)∧Below w.heap.size w w':=by
  have l1':=h1.len;have l2':=h2.len;have HI:=zz IH;have HR:=zz hR;have H1:=zz h1;have H2:=zz h2
  have L1:Hid (l1.length=n1):=zz (by have h:=l1'.1;rw [Ex.rows_len] at h;exact h)
  have L2:Hid (l2.length=n2):=zz (by have h:=l2'.1;rw [Ex.rows_len] at h;exact h)
  have k1:=l1'.2.1;have k2:=l1'.2.2;have k3:=l2'.2.1;have k4:=l2'.2.2
  obtain rfl:n1=n2:=by have :=hR.len;have :=L1.out;have :=L2.out;omega
  clear h1 h2 l1' l2' IH hR;go_enter Tryz.func69,Tryz.ntmps69
  go_wp2
  go_loopw [7,17] (fun _ i wr=>∃ k:Nat,k≤n1∧i=.int .i64 k∧Hid (Below w.heap.size w wr)) (fun _ i _=>n1 - (intOf i).toNat)
  case atStart=>exact ⟨0,Nat.zero_le _,rfl,zz (Below.refl _ _)⟩
  case round=>
    obtain ⟨k,hk,rfl,HB⟩:=hrel
    by_cases hlt:k<n1
    · have hltz:(k:Int)<(n1:Int):=by omega
      obtain ⟨b1,o1,x,px0,nx0,kx0,rfl,bx,HX,x0,x1,x2,x3,x4,x5,gx0⟩:=ex_atT (MemW.keepB H1.out HB.out) k (by have :=L1.out;omega)
      obtain ⟨b2,o2,y,py0,ny0,ky0,rfl,by',HY,y0,y1,y2,y3,y4,y5,gy0⟩:=ex_atT (MemW.keepB H2.out HB.out) k (by have :=L2.out;omega)
      have HC:=zz (HI.out x y (mem_of_at HX.out) (all2_at HR.out HX.out HY.out) px0 nx0 kx0 py0 ny0 ky0 ((wr.alloc (.cells #[.int .i64 x.kind,.string x.name,.int .i64 x.n,.slice px0 nx0 kx0,.int .i64 x.line,.int .i64 x.col] 60)).alloc (.cells #[.int .i64 y.kind,.string y.name,.int .i64 y.n,.slice py0 ny0 ky0,.int .i64 y.line,.int .i64 y.col] 60)) (MemW.alloc (MemW.alloc gx0 _) _) (MemW.alloc (MemW.alloc gy0 _) _));have bn1:b1≠wr.heap.size:=Nat.ne_of_lt bx
      have bn2:b2≠wr.heap.size:=Nat.ne_of_lt by'
      have HBA:=zz ((below_new wr (.cells #[.int .i64 x.kind,.string x.name,.int .i64 x.n,.slice px0 nx0 kx0,.int .i64 x.line,.int .i64 x.col] 60)).alloc (below_new wr (.cells #[.int .i64 x.kind,.string x.name,.int .i64 x.n,.slice px0 nx0 kx0,.int .i64 x.line,.int .i64 x.col] 60)).size (.cells #[.int .i64 y.kind,.string y.name,.int .i64 y.n,.slice py0 ny0 ky0,.int .i64 y.line,.int .i64 y.col] 60));clear gx0 gy0
      go_wp2_with (fail)
      refine HC.out.mono ?_;rintro e w4 ⟨rfl,hb4⟩;have HB4:=zz (HB.out.trans (((HBA.out).trans (hb4.mono HBA.out.size)).mono HB.out.size));clear hb4
      go_wp2_with (fail)
      go_roundw
      case rel=>exact ⟨k+1,by omega,by go_num,HB4⟩
      case measure=>simp [intOf];omega
    · obtain rfl:k=n1:=by omega
      have hltz: ¬(k:Int)<(k:Int):=by omega
      go_wp2
      go_ret;exact ⟨rfl,HB.out⟩
theorem eqT {l1 l2:List Tm} (hR:All2 TmS l1 l2)
    (IH:∀ x y,x∈l1→TmS x y→∀ (px0:Option Addr) (nx0 kx0:Nat) (py0:Option Addr) (ny0 ky0:Nat) (w:World),MemW w (.s 4 (Tm.rows x.args)) (.slice px0 nx0 kx0)→MemW w (.s 4 (Tm.rows y.args)) (.slice py0 ny0 ky0)→Calls Tryz.prog 39 #[.agg #[.int .i64 x.kind,.string x.name,.int .i64 x.n,.slice px0 nx0 kx0],.agg #[.int .i64 y.kind,.string y.name,.int .i64 y.n,.slice py0 ny0 ky0]] w fun e w'=>e=.returned (.bool true)∧Below w.heap.size w w')
    {a1 a2:Option Addr} {n1 n2 c1 c2:Nat} (w:World) (h1:MemW w (.s 4 (Tm.rows l1)) (.slice a1 n1 c1)) (h2:MemW w (.s 4 (Tm.rows l2)) (.slice a2 n2 c2)):
    Calls Tryz.prog 38 #[.slice a1 n1 c1,.slice a2 n2 c2,.func (.func 39) #[] #[]] w fun e w'=>e=.returned (.bool true)∧Below w.heap.size w w':=by
  have l1':=h1.len;have l2':=h2.len;have HI:=zz IH;have HR:=zz hR;have H1:=zz h1;have H2:=zz h2
  have L1:Hid (l1.length=n1):=zz (by have h:=l1'.1;rw [Tm.rows_len] at h;exact h)
  have L2:Hid (l2.length=n2):=zz (by have h:=l2'.1;rw [Tm.rows_len] at h;exact h)
  have k1:=l1'.2.1;have k2:=l1'.2.2;have k3:=l2'.2.1;have k4:=l2'.2.2
  obtain rfl:n1=n2:=by have :=hR.len;have :=L1.out;have :=L2.out;omega
  clear h1 h2 l1' l2' IH hR;go_enter Tryz.func38,Tryz.ntmps38
  go_wp2
  go_loopw [7,17] (fun _ i wr=>∃ k:Nat,k≤n1∧i=.int .i64 k∧Hid (Below w.heap.size w wr)) (fun _ i _=>n1 - (intOf i).toNat)
  case atStart=>exact ⟨0,Nat.zero_le _,rfl,zz (Below.refl _ _)⟩
  case round=>
    obtain ⟨k,hk,rfl,HB⟩:=hrel
    by_cases hlt:k<n1
    · have hltz:(k:Int)<(n1:Int):=by omega
      obtain ⟨b1,o1,x,px0,nx0,kx0,rfl,bx,HX,x0,x1,x2,x3,gx0⟩:=tm_atT (MemW.keepB H1.out HB.out) k (by have :=L1.out;omega)
      obtain ⟨b2,o2,y,py0,ny0,ky0,rfl,by',HY,y0,y1,y2,y3,gy0⟩:=tm_atT (MemW.keepB H2.out HB.out) k (by have :=L2.out;omega)
      have HC:=zz (HI.out x y (mem_of_at HX.out) (all2_at HR.out HX.out HY.out) px0 nx0 kx0 py0 ny0 ky0 ((wr.alloc (.cells #[.int .i64 x.kind,.string x.name,.int .i64 x.n,.slice px0 nx0 kx0] 83)).alloc (.cells #[.int .i64 y.kind,.string y.name,.int .i64 y.n,.slice py0 ny0 ky0] 83)) (MemW.alloc (MemW.alloc gx0 _) _) (MemW.alloc (MemW.alloc gy0 _) _));have bn1:b1≠wr.heap.size:=Nat.ne_of_lt bx
      have bn2:b2≠wr.heap.size:=Nat.ne_of_lt by'
      have HBA:=zz ((below_new wr (.cells #[.int .i64 x.kind,.string x.name,.int .i64 x.n,.slice px0 nx0 kx0] 83)).alloc (below_new wr (.cells #[.int .i64 x.kind,.string x.name,.int .i64 x.n,.slice px0 nx0 kx0] 83)).size (.cells #[.int .i64 y.kind,.string y.name,.int .i64 y.n,.slice py0 ny0 ky0] 83));clear gx0 gy0
      go_wp2_with (fail)
      refine HC.out.mono ?_;rintro e w4 ⟨rfl,hb4⟩;have HB4:=zz (HB.out.trans (((HBA.out).trans (hb4.mono HBA.out.size)).mono HB.out.size));clear hb4
      go_wp2_with (fail)
      go_roundw
      case rel=>exact ⟨k+1,by omega,by go_num,HB4⟩
      case measure=>simp [intOf];omega
    · obtain rfl:k=n1:=by omega
      have hltz: ¬(k:Int)<(k:Int):=by omega
      go_wp2
      go_ret;exact ⟨rfl,HB.out⟩
theorem eqC {l1 l2:List Cn} (hR:All2 CnS l1 l2)
    (IH:∀ x y,x∈l1→CnS x y→∀ (px0:Option Addr) (nx0 kx0:Nat) (py0:Option Addr) (ny0 ky0:Nat) (w:World),MemW w (.s 4 (Tm.rows x.types)) (.slice px0 nx0 kx0)→MemW w (.s 4 (Tm.rows y.types)) (.slice py0 ny0 ky0)→Calls Tryz.prog 37 #[.agg #[.string x.name,.slice px0 nx0 kx0,.int .i64 x.l,.int .i64 x.c],.agg #[.string y.name,.slice py0 ny0 ky0,.int .i64 y.l,.int .i64 y.c]] w fun e w'=>e=.returned (.bool true)∧Below w.heap.size w w')
    {a1 a2:Option Addr} {n1 n2 c1 c2:Nat} (w:World) (h1:MemW w (.s 4 (l1.map Cn.row)) (.slice a1 n1 c1)) (h2:MemW w (.s 4 (l2.map Cn.row)) (.slice a2 n2 c2)):
    Calls Tryz.prog 36 #[.slice a1 n1 c1,.slice a2 n2 c2,.func (.func 37) #[] #[]] w fun e w'=>e=.returned (.bool true)∧Below w.heap.size w w':=by
  have l1':=h1.len;have l2':=h2.len;have HI:=zz IH;have HR:=zz hR;have H1:=zz h1;have H2:=zz h2
  have L1:Hid (l1.length=n1):=zz (by have h:=l1'.1;rw [List.length_map] at h;exact h)
  have L2:Hid (l2.length=n2):=zz (by have h:=l2'.1;rw [List.length_map] at h;exact h)
  have k1:=l1'.2.1;have k2:=l1'.2.2;have k3:=l2'.2.1;have k4:=l2'.2.2
  obtain rfl:n1=n2:=by have :=hR.len;have :=L1.out;have :=L2.out;omega
  clear h1 h2 l1' l2' IH hR;go_enter Tryz.func36,Tryz.ntmps36
  go_wp2
  go_loopw [7,17] (fun _ i wr=>∃ k:Nat,k≤n1∧i=.int .i64 k∧Hid (Below w.heap.size w wr)) (fun _ i _=>n1 - (intOf i).toNat)
  case atStart=>exact ⟨0,Nat.zero_le _,rfl,zz (Below.refl _ _)⟩
  case round=>
    obtain ⟨k,hk,rfl,HB⟩:=hrel
    by_cases hlt:k<n1
    · have hltz:(k:Int)<(n1:Int):=by omega
      obtain ⟨b1,o1,x,px0,nx0,kx0,rfl,bx,HX,x0,x1,x2,x3,gx0⟩:=cn_at (MemW.keepB H1.out HB.out) k (by have :=L1.out;omega)
      obtain ⟨b2,o2,y,py0,ny0,ky0,rfl,by',HY,y0,y1,y2,y3,gy0⟩:=cn_at (MemW.keepB H2.out HB.out) k (by have :=L2.out;omega)
      have HC:=zz (HI.out x y (mem_of_at HX.out) (all2_at HR.out HX.out HY.out) px0 nx0 kx0 py0 ny0 ky0 ((wr.alloc (.cells #[.string x.name,.slice px0 nx0 kx0,.int .i64 x.l,.int .i64 x.c] 75)).alloc (.cells #[.string y.name,.slice py0 ny0 ky0,.int .i64 y.l,.int .i64 y.c] 75)) (MemW.alloc (MemW.alloc gx0 _) _) (MemW.alloc (MemW.alloc gy0 _) _));have bn1:b1≠wr.heap.size:=Nat.ne_of_lt bx
      have bn2:b2≠wr.heap.size:=Nat.ne_of_lt by'
      have HBA:=zz ((below_new wr (.cells #[.string x.name,.slice px0 nx0 kx0,.int .i64 x.l,.int .i64 x.c] 75)).alloc (below_new wr (.cells #[.string x.name,.slice px0 nx0 kx0,.int .i64 x.l,.int .i64 x.c] 75)).size (.cells #[.string y.name,.slice py0 ny0 ky0,.int .i64 y.l,.int .i64 y.c] 75));clear gx0 gy0
      go_wp2_with (fail)
      refine HC.out.mono ?_;rintro e w4 ⟨rfl,hb4⟩;have HB4:=zz (HB.out.trans (((HBA.out).trans (hb4.mono HBA.out.size)).mono HB.out.size));clear hb4
      go_wp2_with (fail)
      go_roundw
      case rel=>exact ⟨k+1,by omega,by go_num,HB4⟩
      case measure=>simp [intOf];omega
    · obtain rfl:k=n1:=by omega
      have hltz: ¬(k:Int)<(k:Int):=by omega
      go_wp2
      go_ret;exact ⟨rfl,HB.out⟩
theorem eqD {l1 l2:List Da} (hR:All2 DaS l1 l2)
    (IH:∀ x y,x∈l1→DaS x y→∀ (px0:Option Addr) (nx0 kx0:Nat) (px1:Option Addr) (nx1 kx1:Nat) (py0:Option Addr) (ny0 ky0:Nat) (py1:Option Addr) (ny1 ky1:Nat) (w:World),MemW w (.s 1 (x.vars.map strRow)) (.slice px0 nx0 kx0)→MemW w (.s 4 (x.cons.map Cn.row)) (.slice px1 nx1 kx1)→MemW w (.s 1 (y.vars.map strRow)) (.slice py0 ny0 ky0)→MemW w (.s 4 (y.cons.map Cn.row)) (.slice py1 ny1 ky1)→Calls Tryz.prog 35 #[.agg #[.string x.name,.slice px0 nx0 kx0,.slice px1 nx1 kx1,.int .i64 x.l,.int .i64 x.c],.agg #[.string y.name,.slice py0 ny0 ky0,.slice py1 ny1 ky1,.int .i64 y.l,.int .i64 y.c]] w fun e w'=>e=.returned (.bool true)∧Below w.heap.size w w')
    {a1 a2:Option Addr} {n1 n2 c1 c2:Nat} (w:World) (h1:MemW w (.s 5 (l1.map Da.row)) (.slice a1 n1 c1)) (h2:MemW w (.s 5 (l2.map Da.row)) (.slice a2 n2 c2)):
    Calls Tryz.prog 34 #[.slice a1 n1 c1,.slice a2 n2 c2,.func (.func 35) #[] #[]] w fun e w'=>e=.returned (.bool true)∧Below w.heap.size w w':=by
  have l1':=h1.len;have l2':=h2.len;have HI:=zz IH;have HR:=zz hR;have H1:=zz h1;have H2:=zz h2
  have L1:Hid (l1.length=n1):=zz (by have h:=l1'.1;rw [List.length_map] at h;exact h)
  have L2:Hid (l2.length=n2):=zz (by have h:=l2'.1;rw [List.length_map] at h;exact h)
  have k1:=l1'.2.1;have k2:=l1'.2.2;have k3:=l2'.2.1;have k4:=l2'.2.2
  obtain rfl:n1=n2:=by have :=hR.len;have :=L1.out;have :=L2.out;omega
  clear h1 h2 l1' l2' IH hR;go_enter Tryz.func34,Tryz.ntmps34
  go_wp2
  go_loopw [7,17] (fun _ i wr=>∃ k:Nat,k≤n1∧i=.int .i64 k∧Hid (Below w.heap.size w wr)) (fun _ i _=>n1 - (intOf i).toNat)
  case atStart=>exact ⟨0,Nat.zero_le _,rfl,zz (Below.refl _ _)⟩
  case round=>
    obtain ⟨k,hk,rfl,HB⟩:=hrel
    by_cases hlt:k<n1
    · have hltz:(k:Int)<(n1:Int):=by omega
      obtain ⟨b1,o1,x,px0,nx0,kx0,px1,nx1,kx1,rfl,bx,HX,x0,x1,x2,x3,x4,gx0,gx1⟩:=da_at (MemW.keepB H1.out HB.out) k (by have :=L1.out;omega)
      obtain ⟨b2,o2,y,py0,ny0,ky0,py1,ny1,ky1,rfl,by',HY,y0,y1,y2,y3,y4,gy0,gy1⟩:=da_at (MemW.keepB H2.out HB.out) k (by have :=L2.out;omega)
      have HC:=zz (HI.out x y (mem_of_at HX.out) (all2_at HR.out HX.out HY.out) px0 nx0 kx0 px1 nx1 kx1 py0 ny0 ky0 py1 ny1 ky1 ((wr.alloc (.cells #[.string x.name,.slice px0 nx0 kx0,.slice px1 nx1 kx1,.int .i64 x.l,.int .i64 x.c] 40)).alloc (.cells #[.string y.name,.slice py0 ny0 ky0,.slice py1 ny1 ky1,.int .i64 y.l,.int .i64 y.c] 40)) (MemW.alloc (MemW.alloc gx0 _) _) (MemW.alloc (MemW.alloc gx1 _) _) (MemW.alloc (MemW.alloc gy0 _) _) (MemW.alloc (MemW.alloc gy1 _) _));have bn1:b1≠wr.heap.size:=Nat.ne_of_lt bx
      have bn2:b2≠wr.heap.size:=Nat.ne_of_lt by'
      have HBA:=zz ((below_new wr (.cells #[.string x.name,.slice px0 nx0 kx0,.slice px1 nx1 kx1,.int .i64 x.l,.int .i64 x.c] 40)).alloc (below_new wr (.cells #[.string x.name,.slice px0 nx0 kx0,.slice px1 nx1 kx1,.int .i64 x.l,.int .i64 x.c] 40)).size (.cells #[.string y.name,.slice py0 ny0 ky0,.slice py1 ny1 ky1,.int .i64 y.l,.int .i64 y.c] 40));clear gx0 gx1 gy0 gy1
      go_wp2_with (fail)
      refine HC.out.mono ?_;rintro e w4 ⟨rfl,hb4⟩;have HB4:=zz (HB.out.trans (((HBA.out).trans (hb4.mono HBA.out.size)).mono HB.out.size));clear hb4
      go_wp2_with (fail)
      go_roundw
      case rel=>exact ⟨k+1,by omega,by go_num,HB4⟩
      case measure=>simp [intOf];omega
    · obtain rfl:k=n1:=by omega
      have hltz: ¬(k:Int)<(k:Int):=by omega
      go_wp2
      go_ret;exact ⟨rfl,HB.out⟩
theorem eqR {l1 l2:List Ru} (hR:All2 RuS l1 l2)
    (IH:∀ x y,x∈l1→RuS x y→∀ (px0:Option Addr) (nx0 kx0:Nat) (px1:Option Addr) (nx1 kx1:Nat) (px2:Option Addr) (nx2 kx2:Nat) (py0:Option Addr) (ny0 ky0:Nat) (py1:Option Addr) (ny1 ky1:Nat) (py2:Option Addr) (ny2 ky2:Nat) (w:World),MemW w (.s 6 (Ex.rows x.pats)) (.slice px0 nx0 kx0)→MemW w (.s 6 (Ex.rows x.guard)) (.slice px1 nx1 kx1)→MemW w (.s 6 (Ex.rows x.body.args)) (.slice px2 nx2 kx2)→MemW w (.s 6 (Ex.rows y.pats)) (.slice py0 ny0 ky0)→MemW w (.s 6 (Ex.rows y.guard)) (.slice py1 ny1 ky1)→MemW w (.s 6 (Ex.rows y.body.args)) (.slice py2 ny2 ky2)→Calls Tryz.prog 42 #[.agg #[.string x.name,.slice px0 nx0 kx0,.slice px1 nx1 kx1,.int .i64 x.body.kind,.string x.body.name,.int .i64 x.body.n,.slice px2 nx2 kx2,.int .i64 x.body.line,.int .i64 x.body.col,.int .i64 x.l,.int .i64 x.c],.agg #[.string y.name,.slice py0 ny0 ky0,.slice py1 ny1 ky1,.int .i64 y.body.kind,.string y.body.name,.int .i64 y.body.n,.slice py2 ny2 ky2,.int .i64 y.body.line,.int .i64 y.body.col,.int .i64 y.l,.int .i64 y.c]] w fun e w'=>e=.returned (.bool true)∧Below w.heap.size w w')
    {a1 a2:Option Addr} {n1 n2 c1 c2:Nat} (w:World) (h1:MemW w (.s 11 (l1.map Ru.row)) (.slice a1 n1 c1)) (h2:MemW w (.s 11 (l2.map Ru.row)) (.slice a2 n2 c2)):
    Calls Tryz.prog 41 #[.slice a1 n1 c1,.slice a2 n2 c2,.func (.func 42) #[] #[]] w fun e w'=>e=.returned (.bool true)∧Below w.heap.size w w':=by
  have l1':=h1.len;have l2':=h2.len;have HI:=zz IH;have HR:=zz hR;have H1:=zz h1;have H2:=zz h2
  have L1:Hid (l1.length=n1):=zz (by have h:=l1'.1;rw [List.length_map] at h;exact h)
  have L2:Hid (l2.length=n2):=zz (by have h:=l2'.1;rw [List.length_map] at h;exact h)
  have k1:=l1'.2.1;have k2:=l1'.2.2;have k3:=l2'.2.1;have k4:=l2'.2.2
  obtain rfl:n1=n2:=by have :=hR.len;have :=L1.out;have :=L2.out;omega
  clear h1 h2 l1' l2' IH hR;go_enter Tryz.func41,Tryz.ntmps41
  go_wp2
  go_loopw [7,17] (fun _ i wr=>∃ k:Nat,k≤n1∧i=.int .i64 k∧Hid (Below w.heap.size w wr)) (fun _ i _=>n1 - (intOf i).toNat)
  case atStart=>exact ⟨0,Nat.zero_le _,rfl,zz (Below.refl _ _)⟩
  case round=>
    obtain ⟨k,hk,rfl,HB⟩:=hrel
    by_cases hlt:k<n1
    · have hltz:(k:Int)<(n1:Int):=by omega
      obtain ⟨b1,o1,x,px0,nx0,kx0,px1,nx1,kx1,px2,nx2,kx2,rfl,bx,HX,x0,x1,x2,x3,x4,x5,x6,x7,x8,x9,x10,gx0,gx1,gx2⟩:=ru_at (MemW.keepB H1.out HB.out) k (by have :=L1.out;omega)
      obtain ⟨b2,o2,y,py0,ny0,ky0,py1,ny1,ky1,py2,ny2,ky2,rfl,by',HY,y0,y1,y2,y3,y4,y5,y6,y7,y8,y9,y10,gy0,gy1,gy2⟩:=ru_at (MemW.keepB H2.out HB.out) k (by have :=L2.out;omega)
      have HC:=zz (HI.out x y (mem_of_at HX.out) (all2_at HR.out HX.out HY.out) px0 nx0 kx0 px1 nx1 kx1 px2 nx2 kx2 py0 ny0 ky0 py1 ny1 ky1 py2 ny2 ky2 ((wr.alloc (.cells #[.string x.name,.slice px0 nx0 kx0,.slice px1 nx1 kx1,.int .i64 x.body.kind,.string x.body.name,.int .i64 x.body.n,.slice px2 nx2 kx2,.int .i64 x.body.line,.int .i64 x.body.col,.int .i64 x.l,.int .i64 x.c] 62)).alloc (.cells #[.string y.name,.slice py0 ny0 ky0,.slice py1 ny1 ky1,.int .i64 y.body.kind,.string y.body.name,.int .i64 y.body.n,.slice py2 ny2 ky2,.int .i64 y.body.line,.int .i64 y.body.col,.int .i64 y.l,.int .i64 y.c] 62)) (MemW.alloc (MemW.alloc gx0 _) _) (MemW.alloc (MemW.alloc gx1 _) _) (MemW.alloc (MemW.alloc gx2 _) _) (MemW.alloc (MemW.alloc gy0 _) _) (MemW.alloc (MemW.alloc gy1 _) _) (MemW.alloc (MemW.alloc gy2 _) _));have bn1:b1≠wr.heap.size:=Nat.ne_of_lt bx
      have bn2:b2≠wr.heap.size:=Nat.ne_of_lt by'
      have HBA:=zz ((below_new wr (.cells #[.string x.name,.slice px0 nx0 kx0,.slice px1 nx1 kx1,.int .i64 x.body.kind,.string x.body.name,.int .i64 x.body.n,.slice px2 nx2 kx2,.int .i64 x.body.line,.int .i64 x.body.col,.int .i64 x.l,.int .i64 x.c] 62)).alloc (below_new wr (.cells #[.string x.name,.slice px0 nx0 kx0,.slice px1 nx1 kx1,.int .i64 x.body.kind,.string x.body.name,.int .i64 x.body.n,.slice px2 nx2 kx2,.int .i64 x.body.line,.int .i64 x.body.col,.int .i64 x.l,.int .i64 x.c] 62)).size (.cells #[.string y.name,.slice py0 ny0 ky0,.slice py1 ny1 ky1,.int .i64 y.body.kind,.string y.body.name,.int .i64 y.body.n,.slice py2 ny2 ky2,.int .i64 y.body.line,.int .i64 y.body.col,.int .i64 y.l,.int .i64 y.c] 62));clear gx0 gx1 gx2 gy0 gy1 gy2
      go_wp2_with (fail)
      refine HC.out.mono ?_;rintro e w4 ⟨rfl,hb4⟩;have HB4:=zz (HB.out.trans (((HBA.out).trans (hb4.mono HBA.out.size)).mono HB.out.size));clear hb4
      go_wp2_with (fail)
      go_roundw
      case rel=>exact ⟨k+1,by omega,by go_num,HB4⟩
      case measure=>simp [intOf];omega
    · obtain rfl:k=n1:=by omega
      have hltz: ¬(k:Int)<(k:Int):=by omega
      go_wp2
      go_ret;exact ⟨rfl,HB.out⟩
end
section
open Go.RowKit
theorem all2_of {α β:Type} {R:α→β→Prop} :∀ (l:List α) (m:List β),l.length=m.length→(∀ i (h1:i<l.length) (h2:i<m.length),R l[i] m[i])→All2 R l m
  | [],[],_,_=>.nil
  | [],_::_,h,_=>by simp at h
  | _::_,[],h,_=>by simp at h
  | x::l,y::m,h,g=>.cons (g 0 (by simp) (by simp)) (all2_of l m (by simpa using h) fun i h1 h2=>by have :=g (i+1) (by simp;omega) (by simp;omega);simpa using this)
theorem all2_eq {α:Type} :∀ (l:List α),All2 (fun x y=>x=y) l l
  | []=>.nil
  | _::l=>.cons rfl (all2_eq l)
attribute [local go_sem] toList_beq
theorem same_ast (m:Nat):∀ (x y:Ex),SizeOf.sizeOf x≤m→SamE false x y→∀ (a:Option Addr) (n c:Nat) (a':Option Addr) (n' c':Nat) (w:World),MemW w (.s 6 (Ex.rows x.args)) (.slice a n c)→MemW w (.s 6 (Ex.rows y.args)) (.slice a' n' c')→
    Calls Tryz.prog 70 #[.agg #[.int .i64 x.kind,.string x.name,.int .i64 x.n,.slice a n c,.int .i64 x.line,.int .i64 x.col],.agg #[.int .i64 y.kind,.string y.name,.int .i64 y.n,.slice a' n' c',.int .i64 y.line,.int .i64 y.col]] w fun e w'=>e=.returned (.bool true)∧Below w.heap.size w w':=by
  induction m with
  | zero=>intro x y h;cases x;simp at h
  | succ m ih=>
  intro x y hm hs a n c a' n' c' w h1 h2
  cases hs with
  | mk k s nn xs ys l co l' co' hl ha hp=>
  have HE:=zz (fun (w2:World) (g1:MemW w2 (.s 6 (Ex.rows xs)) (.slice a n c)) (g2:MemW w2 (.s 6 (Ex.rows ys)) (.slice a' n' c'))=>eqE (all2_of xs ys hl ha) (fun x y hx hr=>ih x y (by have h3:=List.sizeOf_lt_of_mem hx;simp at hm;omega) hr) w2 g1 g2)
  have H1:Hid (MemW w (.s 6 (Ex.rows xs)) (.slice a n c)):=zz h1;have H2:Hid (MemW w (.s 6 (Ex.rows ys)) (.slice a' n' c')):=zz h2;clear ih hm ha hp h1 h2 hl;simp only [Ex.kind,Ex.name,Ex.n,Ex.line,Ex.col];go_enter Tryz.func70,Tryz.ntmps70
  go_wp2_with (fail)
  have HB:=zz ((below_new w (.cells #[.int .i64 k,.string s,.int .i64 nn,.slice a n c,.int .i64 l,.int .i64 co] 60)).alloc (by rw [World.size_alloc];omega) (.cells #[.int .i64 k,.string s,.int .i64 nn,.slice a' n' c',.int .i64 l',.int .i64 co'] 60));refine (HE.out _ (H1.out.keep HB.out) (H2.out.keep HB.out)).mono ?_;rintro e w4 ⟨rfl,hb4⟩;have HB4:=zz (HB.out.trans (hb4.mono HB.out.size));clear hb4
  go_wp2_with (fail)
  go_ret;exact ⟨rfl,HB4.out⟩
theorem same_typ (m:Nat):∀ (x:Tm),SizeOf.sizeOf x≤m→∀ (a:Option Addr) (n c:Nat) (a':Option Addr) (n' c':Nat) (w:World),MemW w (.s 4 (Tm.rows x.args)) (.slice a n c)→MemW w (.s 4 (Tm.rows x.args)) (.slice a' n' c')→
    Calls Tryz.prog 39 #[.agg #[.int .i64 x.kind,.string x.name,.int .i64 x.n,.slice a n c],.agg #[.int .i64 x.kind,.string x.name,.int .i64 x.n,.slice a' n' c']] w fun e w'=>e=.returned (.bool true)∧Below w.heap.size w w':=by
  induction m with
  | zero=>intro x h;cases x;simp at h
  | succ m ih=>
  intro x hm a n c a' n' c' w h1 h2
  cases x with
  | mk k s nn xs=>
  have HE:=zz (fun (w2:World) (g1:MemW w2 (.s 4 (Tm.rows xs)) (.slice a n c)) (g2:MemW w2 (.s 4 (Tm.rows xs)) (.slice a' n' c'))=>eqT (all2_eq xs) (fun x y hx hr=>by cases hr;exact ih x (by have h3:=List.sizeOf_lt_of_mem hx;simp at hm;omega)) w2 g1 g2)
  have H1:Hid (MemW w (.s 4 (Tm.rows xs)) (.slice a n c)):=zz h1;have H2:Hid (MemW w (.s 4 (Tm.rows xs)) (.slice a' n' c')):=zz h2;clear ih hm h1 h2;simp only [Tm.kind,Tm.name,Tm.n];go_enter Tryz.func39,Tryz.ntmps39
  go_wp2_with (fail)
  have HB:=zz ((below_new w (.cells #[.int .i64 k,.string s,.int .i64 nn,.slice a n c] 83)).alloc (by rw [World.size_alloc];omega) (.cells #[.int .i64 k,.string s,.int .i64 nn,.slice a' n' c'] 83));refine (HE.out _ (H1.out.keep HB.out) (H2.out.keep HB.out)).mono ?_;rintro e w4 ⟨rfl,hb4⟩;have HB4:=zz (HB.out.trans (hb4.mono HB.out.size));clear hb4
  go_wp2_with (fail)
  go_ret;exact ⟨rfl,HB4.out⟩
end
section
open Go.RowKit
theorem str_at {S:Nat→Prop} {w:World} {l:List ByteArray} {a:Option Addr} {m c:Nat} (h:Mem S w (.s 1 (l.map strRow)) (.slice a m c)) (i:Nat) (hi:i<l.length):
    ∃ b o x,a=some ⟨b,o,none⟩∧S b∧Hid (l[i]?=some x)∧w.cell? ⟨b,o+i,none⟩=some (.string x):=by
  obtain ⟨b,o,ha,hS,_,cs,h2,hc⟩:=Mem.at h i (by rw [List.length_map];exact hi);rw [List.getElem_map] at h2;unfold strRow at h2
  cases h2 with
  | cons h0 h2=>
  cases h2;cases mem_v h0;have c0:=hc 0 (by simp);rw [Nat.mul_one] at c0;exact ⟨b,o,l[i],ha,hS,zz (List.getElem?_eq_getElem hi),c0⟩
attribute [local go_sem] toList_beq neq_toListE
theorem eq_strs (l:List ByteArray) {a1 a2:Option Addr} {n1 n2 c1 c2:Nat} (w:World) (h1:MemW w (.s 1 (l.map strRow)) (.slice a1 n1 c1)) (h2:MemW w (.s 1 (l.map strRow)) (.slice a2 n2 c2)):
    Calls Tryz.prog 40 #[.slice a1 n1 c1,.slice a2 n2 c2] w fun e w'=>e=.returned (.bool true)∧Below w.heap.size w w':=by
  have l1':=h1.len;have l2':=h2.len;have H1:=zz h1;have H2:=zz h2
  have L1:Hid (l.length=n1):=zz (by have h:=l1'.1;rw [List.length_map] at h;exact h)
  have L2:Hid (l.length=n2):=zz (by have h:=l2'.1;rw [List.length_map] at h;exact h)
  have k1:=l1'.2.1;have k2:=l1'.2.2;have k3:=l2'.2.1;have k4:=l2'.2.2
  obtain rfl:n1=n2:=by have :=L1.out;have :=L2.out;omega
  clear h1 h2 l1' l2';go_enter Tryz.func40,Tryz.ntmps40
  go_wp2
  go_loopw [5,13] (fun _ i wr=>∃ k:Nat,k≤n1∧i=.int .i64 k∧Hid (∃ m,wr=w.drewN m)) (fun _ i _=>n1 - (intOf i).toNat)
  case atStart=>exact ⟨0,Nat.zero_le _,rfl,zz ⟨0,rfl⟩⟩
  case round=>
    obtain ⟨k,hk,rfl,⟨m,rfl⟩⟩:=hrel
    by_cases hlt:k<n1
    · have hltz:(k:Int)<(n1:Int):=by omega
      obtain ⟨b1,o1,x,rfl,bx,HX,x0⟩:=str_at H1.out k (by have :=L1.out;omega)
      obtain ⟨b2,o2,y,rfl,by',HY,y0⟩:=str_at H2.out k (by have :=L1.out;omega)
      have hxy:x=y:=Option.some.inj (HX.out.symm.trans HY.out);subst hxy
      go_wp2
      go_quiet (fail)
      go_wp2
      go_roundw
      case rel=>exact ⟨k+1,by omega,by go_num,zz ⟨_,rfl⟩⟩
      case measure=>simp [intOf];omega
    · obtain rfl:k=n1:=by omega
      have hltz: ¬(k:Int)<(k:Int):=by omega
      go_wp2
      go_ret;exact ⟨rfl,below_drewN (Below.refl _ _) m⟩
end
section
open Go.RowKit
attribute [local go_sem] toList_beq neq_toListE
theorem same_con (x y:Cn) (h:CnS x y) (a:Option Addr) (n c:Nat) (a':Option Addr) (n' c':Nat) (w:World) (h1:MemW w (.s 4 (Tm.rows x.types)) (.slice a n c)) (h2:MemW w (.s 4 (Tm.rows y.types)) (.slice a' n' c')):
    Calls Tryz.prog 37 #[.agg #[.string x.name,.slice a n c,.int .i64 x.l,.int .i64 x.c],.agg #[.string y.name,.slice a' n' c',.int .i64 y.l,.int .i64 y.c]] w fun e w'=>e=.returned (.bool true)∧Below w.heap.size w w':=by
  obtain ⟨e1,e2⟩:=h;rw [←e2] at h2;rw [←e1];have HE:=zz (fun (w2:World) (g1:MemW w2 (.s 4 (Tm.rows x.types)) (.slice a n c)) (g2:MemW w2 (.s 4 (Tm.rows x.types)) (.slice a' n' c'))=>eqT (all2_eq x.types) (fun x y _ hr=>by cases hr;exact same_typ _ x (Nat.le_refl _)) w2 g1 g2);have H1:=zz h1;have H2:=zz h2;clear h1 h2 e1 e2;go_enter Tryz.func37,Tryz.ntmps37
  go_wp2_with (fail)
  have HB:=zz ((below_new w (.cells #[.string x.name,.slice a n c,.int .i64 x.l,.int .i64 x.c] 75)).alloc (by rw [World.size_alloc];omega) (.cells #[.string x.name,.slice a' n' c',.int .i64 y.l,.int .i64 y.c] 75));refine (HE.out _ (H1.out.keep HB.out) (H2.out.keep HB.out)).mono ?_;rintro e w4 ⟨rfl,hb4⟩;have HB4:=zz (HB.out.trans (hb4.mono HB.out.size));clear hb4
  go_wp2_with (fail)
  go_ret;exact ⟨rfl,HB4.out⟩
theorem same_dat (x y:Da) (h:DaS x y) (a:Option Addr) (n c:Nat) (b:Option Addr) (m k:Nat) (a':Option Addr) (n' c':Nat) (b':Option Addr) (m' k':Nat) (w:World) (h1:MemW w (.s 1 (x.vars.map strRow)) (.slice a n c)) (g1:MemW w (.s 4 (x.cons.map Cn.row)) (.slice b m k)) (h2:MemW w (.s 1 (y.vars.map strRow)) (.slice a' n' c')) (g2:MemW w (.s 4 (y.cons.map Cn.row)) (.slice b' m' k')):
    Calls Tryz.prog 35 #[.agg #[.string x.name,.slice a n c,.slice b m k,.int .i64 x.l,.int .i64 x.c],.agg #[.string y.name,.slice a' n' c',.slice b' m' k',.int .i64 y.l,.int .i64 y.c]] w fun e w'=>e=.returned (.bool true)∧Below w.heap.size w w':=by
  obtain ⟨e1,e2,e3⟩:=h;rw [←e2] at h2;rw [←e1];have HE:=zz (fun (w2:World) (g1:MemW w2 (.s 4 (x.cons.map Cn.row)) (.slice b m k)) (g2:MemW w2 (.s 4 (y.cons.map Cn.row)) (.slice b' m' k'))=>eqC e3 (fun x y _ hr=>same_con x y hr) w2 g1 g2);have H1:=zz h1;have H2:=zz h2;have G1:=zz g1;have G2:=zz g2;clear h1 h2 g1 g2 e1 e2 e3;go_enter Tryz.func35,Tryz.ntmps35
  go_wp2_with (fail)
  have HB:=zz ((below_new w (.cells #[.string x.name,.slice a n c,.slice b m k,.int .i64 x.l,.int .i64 x.c] 40)).alloc (by rw [World.size_alloc];omega) (.cells #[.string x.name,.slice a' n' c',.slice b' m' k',.int .i64 y.l,.int .i64 y.c] 40));refine (HE.out _ (G1.out.keep HB.out) (G2.out.keep HB.out)).mono ?_;rintro e w4 ⟨rfl,hb4⟩;have HB4:=zz (HB.out.trans (hb4.mono HB.out.size));have HC:=zz hb4;clear hb4
  have hs4:w.heap.size+2≤w4.heap.size:=by have h:=HC.out.size;rw [World.size_alloc,World.size_alloc] at h;omega
  have B1:Bo w4 w.heap.size 40 #[.string x.name,.slice a n c,.slice b m k,.int .i64 x.l,.int .i64 x.c]:=((Bo.new w _ _).keep (below_new _ _)).keep HC.out
  have B2:Bo w4 (w.heap.size+1) 40 #[.string x.name,.slice a' n' c',.slice b' m' k',.int .i64 y.l,.int .i64 y.c]:=by
    have h:=(Bo.new (w.alloc (.cells #[.string x.name,.slice a n c,.slice b m k,.int .i64 x.l,.int .i64 x.c] 40)) 40 #[.string x.name,.slice a' n' c',.slice b' m' k',.int .i64 y.l,.int .i64 y.c]).keep HC.out;rw [World.size_alloc] at h;exact h
  have q1:=B1.c5z;have q2:=B2.c5z
  have n1:w.heap.size≠w.heap.size+1:=by omega
  have HS:=zz (fun (w5:World) (hb:Below w4.heap.size w4 w5)=>eq_strs x.vars w5 ((H1.out.keep HB4.out).keep hb) ((H2.out.keep HB4.out).keep hb));clear B1 B2 HC
  go_wp2_with (fail)
  refine (HS.out _ (Below.refl _ _)).mono ?_;rintro e w5 ⟨rfl,hb5⟩;have HB5:=zz (HB4.out.trans (hb5.mono HB4.out.size));clear hb5
  go_wp2_with (fail)
  go_ret;exact ⟨rfl,HB5.out⟩
end
end Go.Proofs.YtcoiagfeoonpbaaGreat
