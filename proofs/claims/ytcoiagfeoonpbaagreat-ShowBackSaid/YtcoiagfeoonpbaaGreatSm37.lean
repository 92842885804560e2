/-
  ast.SameRule: true on rules that are alike. No condition but how they lie.
-/
import Derived.Test.YtcoiagfeoonpbaaGreatSm36
set_option maxHeartbeats 20000000
set_option maxRecDepth 100000
namespace Go.Proofs.YtcoiagfeoonpbaaGreat
section
open Go.RowKit
attribute [local go_sem] toList_beq neq_toListE
theorem same_rul (x y:Ru) (h:RuS x y) (a:Option Addr) (n c:Nat) (b:Option Addr) (m k:Nat) (d:Option Addr) (p r:Nat) (a':Option Addr) (n' c':Nat) (b':Option Addr) (m' k':Nat) (d':Option Addr) (p' r':Nat) (w:World) (h1:MemW w (.s 6 (Ex.rows x.pats)) (.slice a n c)) (h2:MemW w (.s 6 (Ex.rows x.guard)) (.slice b m k)) (h3:MemW w (.s 6 (Ex.rows x.body.args)) (.slice d p r)) (g1:MemW w (.s 6 (Ex.rows y.pats)) (.slice a' n' c')) (g2:MemW w (.s 6 (Ex.rows y.guard)) (.slice b' m' k')) (g3:MemW w (.s 6 (Ex.rows y.body.args)) (.slice d' p' r')):
    Calls Tryz.prog 42 #[.agg #[.string x.name,.slice a n c,.slice b m k,.int .i64 x.body.kind,.string x.body.name,.int .i64 x.body.n,.slice d p r,.int .i64 x.body.line,.int .i64 x.body.col,.int .i64 x.l,.int .i64 x.c],.agg #[.string y.name,.slice a' n' c',.slice b' m' k',.int .i64 y.body.kind,.string y.body.name,.int .i64 y.body.n,.slice d' p' r',.int .i64 y.body.line,.int .i64 y.body.col,.int .i64 y.l,.int .i64 y.c]] w fun e w'=>e=.returned (.bool true)∧Below w.heap.size w w':=by
  obtain ⟨e1,e2,e3,e4⟩:=h;rw [←e1];have E1:=zz (fun (w2:World) (g1:MemW w2 (.s 6 (Ex.rows x.pats)) (.slice a n c)) (g2:MemW w2 (.s 6 (Ex.rows y.pats)) (.slice a' n' c'))=>eqE e2 (fun x y _ hr=>same_ast _ x y (Nat.le_refl _) hr) w2 g1 g2);have E2:=zz (fun (w2:World) (g1:MemW w2 (.s 6 (Ex.rows x.guard)) (.slice b m k)) (g2:MemW w2 (.s 6 (Ex.rows y.guard)) (.slice b' m' k'))=>eqE e3 (fun x y _ hr=>same_ast _ x y (Nat.le_refl _) hr) w2 g1 g2);have E3:=zz (fun (w2:World) (g1:MemW w2 (.s 6 (Ex.rows x.body.args)) (.slice d p r)) (g2:MemW w2 (.s 6 (Ex.rows y.body.args)) (.slice d' p' r'))=>same_ast _ x.body y.body (Nat.le_refl _) e4 d p r d' p' r' w2 g1 g2);have H1:=zz h1;have H2:=zz h2;have H3:=zz h3;have G1:=zz g1;have G2:=zz g2;have G3:=zz g3;clear h1 h2 h3 g1 g2 g3 e1 e2 e3 e4;go_enter Tryz.func42,Tryz.ntmps42
  go_wp2_with (fail)
  have HB:=zz ((below_new w (.cells #[.string x.name,.slice a n c,.slice b m k,.int .i64 x.body.kind,.string x.body.name,.int .i64 x.body.n,.slice d p r,.int .i64 x.body.line,.int .i64 x.body.col,.int .i64 x.l,.int .i64 x.c] 62)).alloc (by rw [World.size_alloc];omega) (.cells #[.string x.name,.slice a' n' c',.slice b' m' k',.int .i64 y.body.kind,.string y.body.name,.int .i64 y.body.n,.slice d' p' r',.int .i64 y.body.line,.int .i64 y.body.col,.int .i64 y.l,.int .i64 y.c] 62));refine (E1.out _ (H1.out.keep HB.out) (G1.out.keep HB.out)).mono ?_;rintro e w4 ⟨rfl,hb4⟩;have HB4:=zz (HB.out.trans (hb4.mono HB.out.size))
  have hs4:w.heap.size+2≤w4.heap.size:=by have h:=hb4.size;rw [World.size_alloc,World.size_alloc] at h;omega
  have B1:Bo w4 w.heap.size 62 #[.string x.name,.slice a n c,.slice b m k,.int .i64 x.body.kind,.string x.body.name,.int .i64 x.body.n,.slice d p r,.int .i64 x.body.line,.int .i64 x.body.col,.int .i64 x.l,.int .i64 x.c]:=((Bo.new w _ _).keep (below_new _ _)).keep hb4
  have B2:Bo w4 (w.heap.size+1) 62 #[.string x.name,.slice a' n' c',.slice b' m' k',.int .i64 y.body.kind,.string y.body.name,.int .i64 y.body.n,.slice d' p' r',.int .i64 y.body.line,.int .i64 y.body.col,.int .i64 y.l,.int .i64 y.c]:=by
    have h:=(Bo.new (w.alloc (.cells #[.string x.name,.slice a n c,.slice b m k,.int .i64 x.body.kind,.string x.body.name,.int .i64 x.body.n,.slice d p r,.int .i64 x.body.line,.int .i64 x.body.col,.int .i64 x.l,.int .i64 x.c] 62)) 62 #[.string x.name,.slice a' n' c',.slice b' m' k',.int .i64 y.body.kind,.string y.body.name,.int .i64 y.body.n,.slice d' p' r',.int .i64 y.body.line,.int .i64 y.body.col,.int .i64 y.l,.int .i64 y.c]).keep hb4;rw [World.size_alloc] at h;exact h
  have HB1:=zz B1;have HB2:=zz B2;have q1:=B1.c11z;have q2:=B2.c11z
  have n1:w.heap.size≠w.heap.size+1:=by omega
  clear B1 B2 hb4
  go_wp2_with (fail)
  refine (E2.out _ (H2.out.keep HB4.out) (G2.out.keep HB4.out)).mono ?_;rintro e w5 ⟨rfl,hb5⟩;have HB5:=zz (HB4.out.trans (hb5.mono HB4.out.size))
  have hs5:w.heap.size+2≤w5.heap.size:=by have h:=hb5.size;omega
  replace q1:=(HB1.out.keep hb5).c11z;replace q2:=(HB2.out.keep hb5).c11z;clear hb5
  go_wp2_with (fail)
  refine (E3.out _ (H3.out.keep HB5.out) (G3.out.keep HB5.out)).mono ?_;rintro e w6 ⟨rfl,hb6⟩;have HB6:=zz (HB5.out.trans (hb6.mono HB5.out.size));clear hb6
  go_wp2_with (fail)
  go_ret;exact ⟨rfl,HB6.out⟩
end
section
open Go.RowKit
theorem same_mod {da ds:List Da} {ra rs:List Ru} (hd:All2 DaS da ds) (hr:All2 RuS ra rs) (a:Option Addr) (n c:Nat) (b:Option Addr) (m k:Nat) (a':Option Addr) (n' c':Nat) (b':Option Addr) (m' k':Nat) (w:World) (h1:MemW w (.s 5 (da.map Da.row)) (.slice a n c)) (h2:MemW w (.s 11 (ra.map Ru.row)) (.slice b m k)) (g1:MemW w (.s 5 (ds.map Da.row)) (.slice a' n' c')) (g2:MemW w (.s 11 (rs.map Ru.row)) (.slice b' m' k')):
    Calls Tryz.prog 13 #[.agg #[.slice a n c,.slice b m k],.agg #[.slice a' n' c',.slice b' m' k']] w fun e w'=>e=.returned (.bool true)∧Below w.heap.size w w':=by
  have E1:=zz (fun (w2:World) (g1:MemW w2 (.s 5 (da.map Da.row)) (.slice a n c)) (g2:MemW w2 (.s 5 (ds.map Da.row)) (.slice a' n' c'))=>eqD hd (fun x y _ hr=>same_dat x y hr) w2 g1 g2);have E2:=zz (fun (w2:World) (g1:MemW w2 (.s 11 (ra.map Ru.row)) (.slice b m k)) (g2:MemW w2 (.s 11 (rs.map Ru.row)) (.slice b' m' k'))=>eqR hr (fun x y _ hr p1 n1 k1 p2 n2 k2 p3 n3 k3 q1 m1 l1 q2 m2 l2 q3 m3 l3 w i1 i2 i3 j1 j2 j3=>same_rul x y hr p1 n1 k1 p2 n2 k2 p3 n3 k3 q1 m1 l1 q2 m2 l2 q3 m3 l3 w i1 i2 i3 j1 j2 j3) w2 g1 g2);have H1:=zz h1;have H2:=zz h2;have G1:=zz g1;have G2:=zz g2;clear h1 h2 g1 g2 hd hr;go_enter Tryz.func13,Tryz.ntmps13
  go_wp2_with (fail)
  have HB:=zz ((below_new w (.cells #[.slice a n c,.slice b m k] 26)).alloc (by rw [World.size_alloc];omega) (.cells #[.slice a' n' c',.slice b' m' k'] 26));refine (E1.out _ (H1.out.keep HB.out) (G1.out.keep HB.out)).mono ?_;rintro e w4 ⟨rfl,hb4⟩;have HB4:=zz (HB.out.trans (hb4.mono HB.out.size))
  have hs4:w.heap.size+2≤w4.heap.size:=by have h:=hb4.size;rw [World.size_alloc,World.size_alloc] at h;omega
  have B1:Bo w4 w.heap.size 26 #[.slice a n c,.slice b m k]:=((Bo.new w _ _).keep (below_new _ _)).keep hb4
  have B2:Bo w4 (w.heap.size+1) 26 #[.slice a' n' c',.slice b' m' k']:=by
    have h:=(Bo.new (w.alloc (.cells #[.slice a n c,.slice b m k] 26)) 26 #[.slice a' n' c',.slice b' m' k']).keep hb4;rw [World.size_alloc] at h;exact h
  have q1:=B1.c2z;have q2:=B2.c2z
  have n1:w.heap.size≠w.heap.size+1:=by omega
  clear B1 B2 hb4
  go_wp2_with (fail)
  refine (E2.out _ (H2.out.keep HB4.out) (G2.out.keep HB4.out)).mono ?_;rintro e w5 ⟨rfl,hb5⟩;have HB5:=zz (HB4.out.trans (hb5.mono HB4.out.size));clear hb5
  go_wp2_with (fail)
  go_ret;exact ⟨rfl,HB5.out⟩
end
end Go.Proofs.YtcoiagfeoonpbaaGreat
