/-
  The module reader and its tokens: how they lie. Plain lemmas. No condition.
-/
import Derived.Test.YtcoiagfeoonpbaaGreatMp8
import Derived.Test.YtcoiagfeoonpbaaGreatMp3
set_option maxHeartbeats 20000000
set_option maxRecDepth 100000
namespace Go.Proofs.YtcoiagfeoonpbaaGreat
section
open Go.RowKit
def eB:Option (Int × Int)→Int
  | none=>0
  | some _=>1
def lB:Option (Int × Int)→Int
  | none=>0
  | some p=>p.1
def cB:Option (Int × Int)→Int
  | none=>0
  | some p=>p.2
theorem ok_eB (s:MS):(eB s.b==0)=s.ok:=by
  unfold MS.ok eB
  cases s.b <;> rfl
structure RS (ts:List Tk) (aL:Option Addr) (n cap q:Nat) (s:MS) (d:Int) (w:World):Prop where
  bo:Bo w q 51 #[.slice aL n cap,.int .i64 (s.i:Int),.int .i64 d,.int .i64 (eB s.b),.int .i64 (lB s.b),.int .i64 (cB s.b)]
  tk:Mem (· <q) w (.s 5 (tkRows ts)) (.slice aL n cap)
  sm:n≤1048576
section
variable {ts:List Tk} {aL:Option Addr} {n cap q:Nat} {s:MS} {d:Int} {w w':World}
theorem RS.lt (h:RS ts aL n cap q s d w):q<w.heap.size:=h.bo.lt
theorem RS.mem (h:RS ts aL n cap q s d w):MemW w (.s 5 (tkRows ts)) (.slice aL n cap):=h.tk.le (Nat.le_of_lt h.lt)
theorem RS.len (h:RS ts aL n cap q s d w):ts.length=n∧n≤9223372036854775807:=by
  have :=h.tk.len;rw [tkRows_len] at this;exact ⟨this.1,by omega⟩
theorem RS.keep (h:RS ts aL n cap q s d w) (e:Below w.heap.size w w'):RS ts aL n cap q s d w':=
  ⟨h.bo.keep e,h.tk.mono (fun _ e=>e) fun b f=>e.block b (Nat.lt_trans f h.lt),h.sm⟩
theorem RS.alloc (h:RS ts aL n cap q s d w) (o:Obj):RS ts aL n cap q s d (w.alloc o):=h.keep (below_new w o)
theorem RS.drew (h:RS ts aL n cap q s d w):RS ts aL n cap q s d w.drew:=h.keep (below_drew w)
theorem RS.of (h:RS ts aL n cap q s d w) {e:MS} {m:Int} (p:FarQ q w w') (f:Bo w' q 51 #[.slice aL n cap,.int .i64 (e.i:Int),.int .i64 m,.int .i64 (eB e.b),.int .i64 (lB e.b),.int .i64 (cB e.b)]):RS ts aL n cap q e m w':=
  ⟨f,h.tk.mono (fun _ f=>f) fun b o=>p.block b (Nat.lt_trans o h.lt) (Nat.ne_of_lt o),h.sm⟩
theorem RS.setI (h:RS ts aL n cap q s d w) {v:Int} {k:Nat} (e:v=(k:Int)):RS ts aL n cap q ⟨k,s.b⟩ d (w.setCell ⟨q,1,none⟩ (.int .i64 v)):=by subst e;exact h.of (FarQ.set _ _ _) (h.bo.set 1 _)
theorem RS.setD (h:RS ts aL n cap q s d w) {v k:Int} (b:v=k):RS ts aL n cap q s k (w.setCell ⟨q,2,none⟩ (.int .i64 v)):=by subst b;exact h.of (FarQ.set _ _ _) (h.bo.set 2 _)
theorem RS.off (h:RS ts aL n cap q s d w) {g:Nat} (e:q<g) (j:Nat) (v:Value):RS ts aL n cap q s d (w.setCell ⟨g,j,none⟩ v):=
  ⟨h.bo.far j v (Nat.ne_of_lt e),h.tk.mono (fun _ f=>f) fun b i=>heap_setCell_other w ⟨g,j,none⟩ b v (Nat.ne_of_lt (Nat.lt_trans i e)),h.sm⟩
theorem RS.grown {r:Option Nat} (h:RS ts aL n cap q s d w) (i:w.grownBy w' r) (m:∀ k,r=some k→q<k):RS ts aL n cap q s d w':=
  ⟨h.bo.grown i fun k o e=>by have :=m k o;omega,h.tk.mono (fun _ f=>f) fun b f=>i.block b (Nat.lt_trans f h.lt) (fun e=>by have :=m b e.symm;have :b<q:=f;omega),h.sm⟩
theorem krP (h:Hid (RS ts aL n cap q s d w)) (b:Below w.heap.size w w'):Hid (RS ts aL n cap q s d w'):=zz (h.out.keep b)
theorem kcR (h:Hid (RS ts aL n cap q s d w)):w.cell? ⟨q,0,none⟩=some (.slice aL n cap)∧w.cell? ⟨q,1,none⟩=some (.int .i64 (s.i:Int))∧w.cell? ⟨q,2,none⟩=some (.int .i64 d)∧w.cell? ⟨q,3,none⟩=some (.int .i64 (eB s.b))∧w.cell? ⟨q,4,none⟩=some (.int .i64 (lB s.b))∧w.cell? ⟨q,5,none⟩=some (.int .i64 (cB s.b))∧∀ i:Nat,w.frozen? ⟨q,i,none⟩=false:=h.out.bo.c6z
theorem rpA {o:Obj} (h:Hid (RS ts aL n cap q s d w)) (e:w.alloc o=w'):Hid (RS ts aL n cap q s d w'):=zz (e ▸ h.out.alloc o)
theorem rpD (h:Hid (RS ts aL n cap q s d w)) (e:w.drew=w'):Hid (RS ts aL n cap q s d w'):=zz (e ▸ h.out.drew)
theorem RS.setIE (h:RS ts aL n cap q s d w) {k:Nat} {v:Int} (e:w.setCell ⟨q,1,none⟩ (.int .i64 v)=w') (f:v=(k:Int)):RS ts aL n cap q ⟨k,s.b⟩ d w':=e ▸ h.setI f
theorem RS.setDE (h:RS ts aL n cap q s d w) {k v:Int} (e:w.setCell ⟨q,2,none⟩ (.int .i64 v)=w') (b:v=k):RS ts aL n cap q s k w':=e ▸ h.setD b
theorem rpO1 {g j:Nat} {b:Value} (h:Hid (RS ts aL n cap q s d w)) (e:(w.setCell ⟨g,j,none⟩ b)=w') (f:q<g:=by omega):Hid (RS ts aL n cap q s d w'):=zz (e ▸ (h.out.off f j b))
theorem rpO3 {g:Nat} {f i m:Value} (h:Hid (RS ts aL n cap q s d w)) (e:(((w.setCell ⟨g,0,none⟩ f).setCell ⟨g,1,none⟩ i).setCell ⟨g,2,none⟩ m)=w') (b:q<g:=by omega):Hid (RS ts aL n cap q s d w'):=zz (e ▸ (((h.out.off b 0 f).off b 1 i).off b 2 m))
theorem rpO4 {g:Nat} {f i m o:Value} (h:Hid (RS ts aL n cap q s d w)) (e:((((w.setCell ⟨g,0,none⟩ f).setCell ⟨g,1,none⟩ i).setCell ⟨g,2,none⟩ m).setCell ⟨g,3,none⟩ o)=w') (b:q<g:=by omega):Hid (RS ts aL n cap q s d w'):=zz (e ▸ ((((h.out.off b 0 f).off b 1 i).off b 2 m).off b 3 o))
theorem rpO5 {g:Nat} {f i m o p:Value} (h:Hid (RS ts aL n cap q s d w)) (e:(((((w.setCell ⟨g,0,none⟩ f).setCell ⟨g,1,none⟩ i).setCell ⟨g,2,none⟩ m).setCell ⟨g,3,none⟩ o).setCell ⟨g,4,none⟩ p)=w') (b:q<g:=by omega):Hid (RS ts aL n cap q s d w'):=zz (e ▸ (((((h.out.off b 0 f).off b 1 i).off b 2 m).off b 3 o).off b 4 p))
theorem rpO6 {g:Nat} {f i m o p r:Value} (h:Hid (RS ts aL n cap q s d w)) (e:((((((w.setCell ⟨g,0,none⟩ f).setCell ⟨g,1,none⟩ i).setCell ⟨g,2,none⟩ m).setCell ⟨g,3,none⟩ o).setCell ⟨g,4,none⟩ p).setCell ⟨g,5,none⟩ r)=w') (b:q<g:=by omega):Hid (RS ts aL n cap q s d w'):=zz (e ▸ ((((((h.out.off b 0 f).off b 1 i).off b 2 m).off b 3 o).off b 4 p).off b 5 r))
end
section
variable {w w' a:World} {q g j B:Nat} {t:TypeId}
theorem Bo.c4z {b e f m:Value} (h:Bo w q t #[b,e,f,m]):w.cell? ⟨q,0,none⟩=some b∧w.cell? ⟨q,1,none⟩=some e∧w.cell? ⟨q,2,none⟩=some f∧w.cell? ⟨q,3,none⟩=some m∧∀ i:Nat,w.frozen? ⟨q,i,none⟩=false:=⟨h.cell (j:=0) rfl,h.cell (j:=1) rfl,h.cell (j:=2) rfl,h.cell (j:=3) rfl,fun i=>Bo.frozen h i⟩
theorem Far.c4z {o p r u:Value} {Z:Nat→Prop} (h:w.cell? ⟨q,0,none⟩=some o∧w.cell? ⟨q,1,none⟩=some p∧w.cell? ⟨q,2,none⟩=some r∧w.cell? ⟨q,3,none⟩=some u∧∀ i:Nat,w.frozen? ⟨q,i,none⟩=false) (b:Far Z w w') (f: ¬Z q:=by intro e;rcases e with e | e <;> omega) (hq:q<w.heap.size:=by omega):w'.cell? ⟨q,0,none⟩=some o∧w'.cell? ⟨q,1,none⟩=some p∧w'.cell? ⟨q,2,none⟩=some r∧w'.cell? ⟨q,3,none⟩=some u∧∀ i:Nat,w'.frozen? ⟨q,i,none⟩=false:=
  ⟨(World.cell?_of_block (b.block q hq f)).trans h.1,(World.cell?_of_block (b.block q hq f)).trans h.2.1,(World.cell?_of_block (b.block q hq f)).trans h.2.2.1,(World.cell?_of_block (b.block q hq f)).trans h.2.2.2.1,fun i=>(by have e:=b.block q hq f;have m:=h.2.2.2.2 i;unfold World.frozen? at m ⊢;rw [e];exact m)⟩
theorem Bo.set4 {o p r u:Value} {b f i m:Value} (h:Bo w q t #[o,p,r,u]) (e:((((w.setCell ⟨q,0,none⟩ b).setCell ⟨q,1,none⟩ f).setCell ⟨q,2,none⟩ i).setCell ⟨q,3,none⟩ m)=w'):Bo w' q t #[b,f,i,m]:=e ▸ ((((h.set 0 b).set 1 f).set 2 i).set 3 m)
theorem Bo.far4 {f:Array Value} {i m o p:Value} (h:Bo w q t f) (e:((((w.setCell ⟨g,0,none⟩ i).setCell ⟨g,1,none⟩ m).setCell ⟨g,2,none⟩ o).setCell ⟨g,3,none⟩ p)=w') (b:q≠g):Bo w' q t f:=e ▸ ((((h.far 0 i b).far 1 m b).far 2 o b).far 3 p b)
theorem memSet4 {base:Nat} {x:At} {y:Value} {f i m o:Value} (h:Mem (Nw 0 base w.heap.size) w x y) (e:((((w.setCell ⟨g,0,none⟩ f).setCell ⟨g,1,none⟩ i).setCell ⟨g,2,none⟩ m).setCell ⟨g,3,none⟩ o)=w') (b:g<base):Mem (Nw 0 base w'.heap.size) w' x y:=e ▸ (memSet (memSet (memSet (memSet h b 0 f) b 1 i) b 2 m) b 3 o)
theorem FarB.setN4 {f i m o:Value} (h:FarB q B a w) (e:((((w.setCell ⟨g,0,none⟩ f).setCell ⟨g,1,none⟩ i).setCell ⟨g,2,none⟩ m).setCell ⟨g,3,none⟩ o)=w') (b:B≤g):FarB q B a w':=e ▸ ((((h.setN b 0 f).setN b 1 i).setN b 2 m).setN b 3 o)
theorem sizeS4 {b f h i:Value} (e:((((w.setCell ⟨g,0,none⟩ b).setCell ⟨g,1,none⟩ f).setCell ⟨g,2,none⟩ h).setCell ⟨g,3,none⟩ i)=w'):w'.heap.size=w.heap.size:=by rw [←e];simp only [World.setCell,Array.size_modify]
theorem bF4 {b:Array Value} {i m o p:Value} (h:Hid (Bo w q t b)) (e:((((w.setCell ⟨g,0,none⟩ i).setCell ⟨g,1,none⟩ m).setCell ⟨g,2,none⟩ o).setCell ⟨g,3,none⟩ p)=w') (f:q≠g:=by omega):Hid (Bo w' q t b):=zz (h.out.far4 e f)
theorem mS4 {base:Nat} {x:At} {y:Value} {f i m o:Value} (h:Hid (Mem (Nw 0 base w.heap.size) w x y)) (e:((((w.setCell ⟨g,0,none⟩ f).setCell ⟨g,1,none⟩ i).setCell ⟨g,2,none⟩ m).setCell ⟨g,3,none⟩ o)=w') (b:g<base:=by omega):Hid (Mem (Nw 0 base w'.heap.size) w' x y):=zz (memSet4 h.out e b)
theorem fN4 {f i m o:Value} (h:Hid (FarB q B a w)) (e:((((w.setCell ⟨g,0,none⟩ f).setCell ⟨g,1,none⟩ i).setCell ⟨g,2,none⟩ m).setCell ⟨g,3,none⟩ o)=w') (b:B≤g:=by omega):Hid (FarB q B a w'):=zz (h.out.setN4 e b)
theorem bS4 {o p r u:Value} {b f i m:Value} (h:Hid (Bo w q t #[o,p,r,u])) (e:((((w.setCell ⟨q,0,none⟩ b).setCell ⟨q,1,none⟩ f).setCell ⟨q,2,none⟩ i).setCell ⟨q,3,none⟩ m)=w'):Hid (Bo w' q t #[b,f,i,m]):=zz (h.out.set4 e)
theorem kc4 {b e f m:Value} (h:Hid (Bo w q t #[b,e,f,m])):w.cell? ⟨q,0,none⟩=some b∧w.cell? ⟨q,1,none⟩=some e∧w.cell? ⟨q,2,none⟩=some f∧w.cell? ⟨q,3,none⟩=some m∧∀ i:Nat,w.frozen? ⟨q,i,none⟩=false:=h.out.c4z
end
theorem Bo.c11z {w:World} {q:Nat} {t:TypeId} {b e m o p r u v x y f:Value} (h:Bo w q t #[b,e,m,o,p,r,u,v,x,y,f]):w.cell? ⟨q,0,none⟩=some b∧w.cell? ⟨q,1,none⟩=some e∧w.cell? ⟨q,2,none⟩=some m∧w.cell? ⟨q,3,none⟩=some o∧w.cell? ⟨q,4,none⟩=some p∧w.cell? ⟨q,5,none⟩=some r∧w.cell? ⟨q,6,none⟩=some u∧w.cell? ⟨q,7,none⟩=some v∧w.cell? ⟨q,8,none⟩=some x∧w.cell? ⟨q,9,none⟩=some y∧w.cell? ⟨q,10,none⟩=some f∧∀ i:Nat,w.frozen? ⟨q,i,none⟩=false:=⟨h.cell (j:=0) rfl,h.cell (j:=1) rfl,h.cell (j:=2) rfl,h.cell (j:=3) rfl,h.cell (j:=4) rfl,h.cell (j:=5) rfl,h.cell (j:=6) rfl,h.cell (j:=7) rfl,h.cell (j:=8) rfl,h.cell (j:=9) rfl,h.cell (j:=10) rfl,fun i=>Bo.frozen h i⟩
end
section
open Go.RowKit
def strRow (s:ByteArray):List At:=[.v (.string s)]
def Cn.row (c:Cn):List At:=[.v (.string c.name),.s 4 (Tm.rows c.types),.v (.int .i64 c.l),.v (.int .i64 c.c)]
def Da.row (d:Da):List At:=[.v (.string d.name),.s 1 (d.vars.map strRow),.s 4 (d.cons.map Cn.row),.v (.int .i64 d.l),.v (.int .i64 d.c)]
def Ru.row (r:Ru):List At:=[.v (.string r.name),.s 6 (Ex.rows r.pats),.s 6 (Ex.rows r.guard),.v (.int .i64 r.body.kind),.v (.string r.body.name),.v (.int .i64 r.body.n),.s 6 (Ex.rows r.body.args),.v (.int .i64 r.body.line),.v (.int .i64 r.body.col),.v (.int .i64 r.l),.v (.int .i64 r.c)]
def tmV (x:Tm) (a:Option Addr) (n c:Nat):Value:=.agg #[.int .i64 x.kind,.string x.name,.int .i64 x.n,.slice a n c]
def cnV (x:Cn) (a:Option Addr) (n c:Nat):Value:=.agg #[.string x.name,.slice a n c,.int .i64 x.l,.int .i64 x.c]
def daV (x:Da) (a:Option Addr) (n c:Nat) (a':Option Addr) (n' c':Nat):Value:=.agg #[.string x.name,.slice a n c,.slice a' n' c',.int .i64 x.l,.int .i64 x.c]
section
variable {S:Nat→Prop} {w:World}
theorem mem_slice {sz:Nat} {rs:List (List At)} {v:Value} (h:Mem S w (.s sz rs) v):∃ a n c,v=.slice a n c:=by
  cases h with
  | e a cap sz hc=>exact ⟨_,_,_,rfl⟩
  | s=>exact ⟨_,_,_,rfl⟩
theorem mem_v {x y:Value} (h:Mem S w (.v x) y):y=x:=by cases h;rfl
theorem cn_mem {x:Cn} {a:Option Addr} {n c:Nat} (h:Mem S w (.s 4 (Tm.rows x.types)) (.slice a n c)):All2 (Mem S w) x.row [.string x.name,.slice a n c,.int .i64 x.l,.int .i64 x.c]:=
  .cons (.v _ rfl) (.cons h (.cons (.v _ rfl) (.cons (.v _ rfl) .nil)))
theorem da_mem {x:Da} {a b:Option Addr} {n c e d:Nat} (h:Mem S w (.s 1 (x.vars.map strRow)) (.slice a n c)) (f:Mem S w (.s 4 (x.cons.map Cn.row)) (.slice b e d)):All2 (Mem S w) x.row [.string x.name,.slice a n c,.slice b e d,.int .i64 x.l,.int .i64 x.c]:=
  .cons (.v _ rfl) (.cons h (.cons f (.cons (.v _ rfl) (.cons (.v _ rfl) .nil))))
theorem ru_mem {x:Ru} {a d b:Option Addr} {n c f e m k:Nat} (h:Mem S w (.s 6 (Ex.rows x.pats)) (.slice a n c)) (g:Mem S w (.s 6 (Ex.rows x.guard)) (.slice d f e)) (i:Mem S w (.s 6 (Ex.rows x.body.args)) (.slice b m k)):
    All2 (Mem S w) x.row [.string x.name,.slice a n c,.slice d f e,.int .i64 x.body.kind,.string x.body.name,.int .i64 x.body.n,.slice b m k,.int .i64 x.body.line,.int .i64 x.body.col,.int .i64 x.l,.int .i64 x.c]:=
  .cons (.v _ rfl) (.cons h (.cons g (.cons (.v _ rfl) (.cons (.v _ rfl) (.cons (.v _ rfl) (.cons i (.cons (.v _ rfl) (.cons (.v _ rfl) (.cons (.v _ rfl) (.cons (.v _ rfl) .nil))))))))))
theorem str_mem {s:ByteArray} :All2 (Mem S w) (strRow s) [.string s]:=.cons (.v _ rfl) .nil
theorem tm_mem {x:Tm} {a:Option Addr} {n c:Nat} (h:Mem S w (.s 4 (Tm.rows x.args)) (.slice a n c)):All2 (Mem S w) x.row [.int .i64 x.kind,.string x.name,.int .i64 x.n,.slice a n c]:=by
  rw [Tm.row_eq];exact .cons (.v _ rfl) (.cons (.v _ rfl) (.cons (.v _ rfl) (.cons h .nil)))
theorem cn_cells {x:Cn} {b:List Value} (h:All2 (Mem S w) x.row b):∃ a n c,b=[.string x.name,.slice a n c,.int .i64 x.l,.int .i64 x.c]∧Mem S w (.s 4 (Tm.rows x.types)) (.slice a n c):=by
  unfold Cn.row at h
  cases h with | cons h0 h=>cases h with | cons h1 h=>cases h with | cons h2 h=>cases h with | cons h3 h=>cases h with | nil=>
  obtain ⟨a,n,c,rfl⟩:=mem_slice h1;exact ⟨a,n,c,by rw [mem_v h0,mem_v h2,mem_v h3],h1⟩
theorem da_cells {x:Da} {f:List Value} (h:All2 (Mem S w) x.row f):∃ a n c b e d,f=[.string x.name,.slice a n c,.slice b e d,.int .i64 x.l,.int .i64 x.c]∧Mem S w (.s 1 (x.vars.map strRow)) (.slice a n c)∧Mem S w (.s 4 (x.cons.map Cn.row)) (.slice b e d):=by
  unfold Da.row at h
  cases h with | cons h0 h=>cases h with | cons h1 h=>cases h with | cons h2 h=>cases h with | cons h3 h=>cases h with | cons h4 h=>cases h with | nil=>
  obtain ⟨a,n,c,rfl⟩:=mem_slice h1;obtain ⟨b,e,d,rfl⟩:=mem_slice h2;exact ⟨a,n,c,b,e,d,by rw [mem_v h0,mem_v h3,mem_v h4],h1,h2⟩
theorem ru_cells {x:Ru} {g:List Value} (h:All2 (Mem S w) x.row g):∃ a n c d f e b m k,g=[.string x.name,.slice a n c,.slice d f e,.int .i64 x.body.kind,.string x.body.name,.int .i64 x.body.n,.slice b m k,.int .i64 x.body.line,.int .i64 x.body.col,.int .i64 x.l,.int .i64 x.c]∧Mem S w (.s 6 (Ex.rows x.pats)) (.slice a n c)∧Mem S w (.s 6 (Ex.rows x.guard)) (.slice d f e)∧Mem S w (.s 6 (Ex.rows x.body.args)) (.slice b m k):=by
  unfold Ru.row at h
  cases h with | cons h0 h=>cases h with | cons h1 h=>cases h with | cons h2 h=>cases h with | cons h3 h=>cases h with | cons h4 h=>cases h with | cons h5 h=>cases h with | cons h6 h=>cases h with | cons h7 h=>cases h with | cons h8 h=>cases h with | cons h9 h=>cases h with | cons h10 h=>cases h with | nil=>
  obtain ⟨a,n,c,rfl⟩:=mem_slice h1;obtain ⟨d,f,e,rfl⟩:=mem_slice h2;obtain ⟨b,m,k,rfl⟩:=mem_slice h6;exact ⟨a,n,c,d,f,e,b,m,k,by rw [mem_v h0,mem_v h3,mem_v h4,mem_v h5,mem_v h7,mem_v h8,mem_v h9,mem_v h10],h1,h2,h6⟩
end
section
variable {w w':World} {base:Nat}
theorem row_new {t:TypeId} {sz:Nat} {r:List At} {a:Array Value} (d:All2 (Mem (Nw 0 base w.heap.size) w) r a.toList) (e:a.toList.length=sz) (b:base≤w.heap.size):OwnD 0 base t sz (w.alloc (.cells a t)) (.slice (some ⟨w.heap.size,0,none⟩) 1 1) [r]:=
  OwnD.built (css:=[a.toList]) (.cons ⟨e,d⟩ .nil) b 1 rfl (by decide) a (by simp)
theorem row_app {t:TypeId} {sz:Nat} {y:Value} {rs:List (List At)} {W:World} {r:List At} {a:Array Value} (h:OwnD 0 base t sz W y rs) (d:base≤W.heap.size) (f:W.heap.size≤w.heap.size) (e:All2 (Mem (Nw 0 W.heap.size w.heap.size) w) r a.toList) (g:a.toList.length=sz):
    Mem (fun b=>Nw 0 base (w.alloc (.cells a t)).heap.size b∧y.ownBlock≠some b) (w.alloc (.cells a t)) (.s sz [r]) (.slice (some ⟨w.heap.size,0,none⟩) 1 1):=
  h.apart (Nat.zero_le _) d (row_new e g f).mem
end
end
section
open Go.RowKit
theorem fail_ok {ts:List Tk} {s:MS} (h:s.ok=true):failS ts s=⟨s.i,some ((nowT ts s.i).l,(nowT ts s.i).c)⟩:=by unfold failS;rw [if_pos h]
theorem fail_no {ts:List Tk} {s:MS} (h:s.ok=false):failS ts s=s:=by unfold failS;rw [if_neg (by rw [h];decide)]
section
variable {ts:List Tk} {aL:Option Addr} {n cap q:Nat} {s:MS} {d:Int}
attribute [local go_sem] tk_pos
theorem mok_any (w:World) (a:RS ts aL n cap q s d w):
    Calls Tryz.prog 18 #[.pointer (some ⟨q,0,none⟩)] w fun e b=>e=.returned (.bool s.ok)∧w=b:=by
  have c3:=(kcR (zz a)).2.2.2.1;have f:=ok_eB s;have fz:=a.bo.frozen;clear a;go_enter Tryz.func18,Tryz.ntmps18
  go_wp2
  refine bodyPost_ret (results_tmp rfl _ _ _) rfl ?_;exact ⟨rfl,rfl⟩
theorem mfail_any (w:World) (hp:RS ts aL n cap q s d w):
    Calls Tryz.prog 54 #[.pointer (some ⟨q,0,none⟩)] w fun e w'=>e=.returned (.tuple #[])∧FarQ q w w'∧RS ts aL n cap q (failS ts s) d w':=by
  have HP:=zz hp;clear hp;go_enter Tryz.func54,Tryz.ntmps54
  go_wp2_with (fail)
  refine (mok_any _ HP.out).mono ?_;rintro _ _ ⟨rfl,rfl⟩
  cases hok:s.ok with
  | false =>
    go_wp2_with (fail)
    go_end0
    exact ⟨rfl,FarQ.refl _ _,by rw [fail_no hok];exact HP.out⟩
  | true =>
    go_wp2_with (fail)
    refine (mnow_any _ HP.out.bo HP.out.mem).mono ?_;rintro _ w2 ⟨rfl,hb⟩;have HB:=zz hb;have HP2:=krP HP hb;clear hb;simp only [tkV];have qc:=kcR HP2
    go_wp2_with (fail)
    go_end0
    exact ⟨rfl,(FarQ.of HB.out).trans ((FarQ.set _ _ _).trans ((FarQ.set _ _ _).trans (FarQ.set _ _ _))),by rw [fail_ok hok];exact HP2.out.of ((FarQ.set _ _ _).trans ((FarQ.set _ _ _).trans (FarQ.set _ _ _))) (((HP2.out.bo.set 3 _).set 4 _).set 5 _)⟩
theorem mis_any (k:Int) (x:ByteArray) (w:World) (hp:RS ts aL n cap q s d w):
    Calls Tryz.prog 21 #[.pointer (some ⟨q,0,none⟩),.int .i64 k,.string x] w fun e w'=>e=.returned (.bool (isS ts s k x))∧Below w.heap.size w w':=by
  have HP:=zz hp;clear hp;go_enter Tryz.func21,Tryz.ntmps21
  go_wp2_with (fail)
  refine (mnow_any _ HP.out.bo HP.out.mem).mono ?_;rintro _ w1 ⟨rfl,hb⟩;have HB1:=zz hb;have HP1:=zz ((krP HP hb).out.alloc (.cells #[.int .i64 (nowT ts s.i).k,.string (nowT ts s.i).s,.int .i64 (nowT ts s.i).n,.int .i64 (nowT ts s.i).l,.int .i64 (nowT ts s.i).c] 53));clear hb;simp only [tkV]
  go_wp2_with (fail)
  refine (mok_any _ HP1.out).mono ?_;rintro _ _ ⟨rfl,rfl⟩;have HE:Hid (Below w.heap.size w (w1.alloc (.cells #[.int .i64 (nowT ts s.i).k,.string (nowT ts s.i).s,.int .i64 (nowT ts s.i).n,.int .i64 (nowT ts s.i).l,.int .i64 (nowT ts s.i).c] 53))):=zz (HB1.out.trans ((below_new w1 _).mono HB1.out.size))
  cases hok:s.ok with
  | false =>
    go_wp2_with (fail)
    refine bodyPost_ret (results_tmp rfl _ _ _) rfl ?_;exact ⟨congrArg (fun b=>Ending.returned (.bool b)) (by unfold isS;rw [hok];rfl),HE.out⟩
  | true =>
    by_cases hk:(nowT ts s.i).k=k
    · subst hk
      have e1:((nowT ts s.i).k==(nowT ts s.i).k)=true:=by simp
      go_wp2_with (fail)
      refine bodyPost_ret (results_tmp rfl _ _ _) rfl ?_;refine ⟨congrArg (fun b=>Ending.returned (.bool b)) ?_,HE.out⟩;unfold isS isT;rw [hok,decide_eq_true rfl,Bool.true_and,Bool.true_and, ←ba_eq, ←toList_beq]
    · have e1:((nowT ts s.i).k==k)=false:=by simp [hk]
      go_wp2_with (fail)
      refine bodyPost_ret (results_tmp rfl _ _ _) rfl ?_;refine ⟨congrArg (fun b=>Ending.returned (.bool b)) ?_,HE.out⟩;unfold isS isT;rw [hok,decide_eq_false hk,Bool.false_and,Bool.true_and]
theorem mtake_any (k:Int) (x:ByteArray) (w:World) (hp:RS ts aL n cap q s d w) (hk1:k≠ -1):
    Calls Tryz.prog 20 #[.pointer (some ⟨q,0,none⟩),.int .i64 k,.string x] w fun e w'=>e=.returned (.tuple #[])∧FarQ q w w'∧RS ts aL n cap q (takeS ts s k x) d w':=by
  have HP:=zz hp;have hl:=hp.len;have hsm:=hp.sm;clear hp;go_enter Tryz.func20,Tryz.ntmps20
  go_wp2_with (fail)
  refine (mis_any k x _ HP.out).mono ?_;rintro _ w1 ⟨rfl,hb⟩;have HB1:=zz hb;have HP1:=krP HP hb;clear hb
  cases hi:isS ts s k x with
  | false =>
    go_wp2_with (fail)
    refine (mfail_any _ HP1.out).mono ?_;rintro _ w2 ⟨rfl,hf,hp⟩;have HF2:=zz hf;have HP2:=zz hp;clear hf hp
    go_wp2_with (fail)
    refine bodyPost_ret (results_none rfl _ _ _) rfl ?_;exact ⟨rfl,(FarQ.of HB1.out).trans HF2.out,by unfold takeS;rw [hi];exact HP2.out⟩
  | true =>
    have hlt:=isT_lt (isS_parts hi).2 hk1
    have hov:(s.i:Int)+1≤9223372036854775807:=by omega
    have qc:=kcR HP1
    go_wp2_with (fail)
    go_end0
    exact ⟨rfl,(FarQ.of HB1.out).trans (FarQ.set _ _ _),by unfold takeS;rw [hi];exact HP1.out.setI (by show _=((s.i+1:Nat):Int);omega)⟩
theorem mname_any (k:Int) (w:World) (a:RS ts aL n cap q s d w) (z:k≠ -1):
    Calls Tryz.prog 55 #[.pointer (some ⟨q,0,none⟩),.int .i64 k] w fun e p=>e=.returned (.string (nameS ts s k).1)∧FarQ q w p∧RS ts aL n cap q (nameS ts s k).2 d p:=by
  have h:=zz a;have C:=a.len;have G:=a.sm;clear a;go_enter Tryz.func55,Tryz.ntmps55
  go_wp2_with (fail)
  refine (mnow_any _ h.out.bo h.out.mem).mono ?_;rintro _ f ⟨rfl,j⟩;have g:=zz j;have b:=krP h j;have r:Hid (FarQ q w (f.alloc (.cells #[.int .i64 (nowT ts s.i).k,.string (nowT ts s.i).s,.int .i64 (nowT ts s.i).n,.int .i64 (nowT ts s.i).l,.int .i64 (nowT ts s.i).c] 53))):=zz (FarQ.of (g.out.trans ((below_new f _).mono g.out.size)));have u:=zz (b.out.alloc (.cells #[.int .i64 (nowT ts s.i).k,.string (nowT ts s.i).s,.int .i64 (nowT ts s.i).n,.int .i64 (nowT ts s.i).l,.int .i64 (nowT ts s.i).c] 53));have A:=b.out.lt;have B:q≠f.heap.size:=Nat.ne_of_lt A
  have F:f.heap.size≠q:=fun e=>B e.symm
  clear j;simp only [tkV]
  by_cases m:(nowT ts s.i).k=k
  · subst m
    have y:((nowT ts s.i).k != (nowT ts s.i).k)=false:=by simp
    have D:s.i<ts.length:=now_lt z
    have E:(s.i:Int)+1≤9223372036854775807:=by omega
    have H:=kcR b
    go_wp2_with (fail)
    refine bodyPost_ret (results_tmp rfl _ _ _) rfl ?_;unfold nameS;rw [if_pos rfl];exact ⟨rfl,(FarQ.of g.out).trans ((FarQ.set _ _ _).trans (FarQ.of (below_new _ _))),(b.out.setI (k:=s.i+1) (v:=(s.i:Int)+1) (by omega)).alloc _⟩
  · have y:((nowT ts s.i).k != k)=true:=by simp [m]
    go_wp2_with (fail)
    refine (mfail_any _ u.out).mono ?_;rintro _ I ⟨rfl,o,a⟩;have t:=zz o;have x:=zz a;clear o a
    go_wp2_with (fail)
    refine bodyPost_ret (results_tmp rfl _ _ _) rfl ?_;unfold nameS;rw [if_neg m];exact ⟨rfl,r.out.trans t.out,x.out⟩
theorem mstarts_any (w:World) (hp:RS ts aL n cap q s d w):
    Calls Tryz.prog 125 #[.pointer (some ⟨q,0,none⟩)] w fun e w'=>e=.returned (.bool (startsS ts s))∧Below w.heap.size w w':=by
  have HP:=zz hp;clear hp;go_enter Tryz.func125,Tryz.ntmps125
  go_wp2_with (fail)
  refine (mnow_any _ HP.out.bo HP.out.mem).mono ?_;rintro _ w1 ⟨rfl,hb⟩;have HB1:=zz hb;have HP1:=zz ((krP HP hb).out.alloc (.cells #[.int .i64 (nowT ts s.i).k,.string (nowT ts s.i).s,.int .i64 (nowT ts s.i).n,.int .i64 (nowT ts s.i).l,.int .i64 (nowT ts s.i).c] 53));clear hb;simp only [tkV]
  go_wp2_with (fail)
  refine (mok_any _ HP1.out).mono ?_;rintro _ _ ⟨rfl,rfl⟩;have HE:Hid (Below w.heap.size w (w1.alloc (.cells #[.int .i64 (nowT ts s.i).k,.string (nowT ts s.i).s,.int .i64 (nowT ts s.i).n,.int .i64 (nowT ts s.i).l,.int .i64 (nowT ts s.i).c] 53))):=zz (HB1.out.trans ((below_new w1 _).mono HB1.out.size))
  cases hok:s.ok with
  | false =>
    go_wp2_with (fail)
    refine bodyPost_ret (results_tmp rfl _ _ _) rfl ?_;exact ⟨congrArg (fun b=>Ending.returned (.bool b)) (by unfold startsS;rw [hok];rfl),HE.out⟩
  | true =>
    by_cases h2:(nowT ts s.i).k=2
    · have e1:((nowT ts s.i).k==2)=true:=by simp [h2]
      go_wp2_with (fail)
      refine bodyPost_ret (results_tmp rfl _ _ _) rfl ?_;exact ⟨congrArg (fun b=>Ending.returned (.bool b)) (by unfold startsS;simp [hok,h2]),HB1.out.trans ((below_new w1 _).mono HB1.out.size)⟩
    · have e1:((nowT ts s.i).k==2)=false:=by simp [h2]
      by_cases h3:(nowT ts s.i).k=3
      · have e2:((nowT ts s.i).k==3)=true:=by simp [h3]
        go_wp2_with (fail)
        refine bodyPost_ret (results_tmp rfl _ _ _) rfl ?_;exact ⟨congrArg (fun b=>Ending.returned (.bool b)) (by unfold startsS;simp [hok,h3]),HB1.out.trans ((below_new w1 _).mono HB1.out.size)⟩
      · have e2:((nowT ts s.i).k==3)=false:=by simp [h3]
        go_wp2_with (fail)
        refine (mis_any 6 wOpen _ HP1.out).mono ?_;rintro _ w3 ⟨rfl,hb⟩;have HB3:=zz (HE.out.trans (hb.mono HE.out.size));clear hb
        go_wp2_with (fail)
        refine bodyPost_ret (results_tmp rfl _ _ _) rfl ?_;exact ⟨congrArg (fun b=>Ending.returned (.bool b)) (by unfold startsS;simp [hok,h2,h3]),HB3.out⟩
end
end
section
open Go.RowKit
theorem str_ne {a b:ByteArray} (h: ¬a=b):(a.toList==b.toList)=false:=by
  rw [toList_beq];exact beq_eq_false_iff_ne.2 h
theorem binds_any (s:ByteArray) (w:World):
    Calls Tryz.prog 110 #[.string s] w fun e m=>e=.returned (.tuple #[.int .i64 (bindsE s:Nat),.bool (decide (0<bindsE s))])∧w=m:=by
  go_enter Tryz.func110,Tryz.ntmps110
  by_cases a:s=⟨#[63]⟩
  · subst a
    go_wp2
    refine bodyPost_ret (results_tmp2 rfl _ _ _) rfl ?_;exact ⟨rfl,rfl⟩
  have o:(s.toList==[63])=false:=by have h:=str_ne a;simpa using h
  by_cases b:s=⟨#[61,61]⟩
  · subst b
    go_wp2
    refine bodyPost_ret (results_tmp2 rfl _ _ _) rfl ?_;exact ⟨rfl,rfl⟩
  have p:(s.toList==[61,61])=false:=by have h:=str_ne b;simpa using h
  by_cases d:s=⟨#[60]⟩
  · subst d
    go_wp2
    refine bodyPost_ret (results_tmp2 rfl _ _ _) rfl ?_;exact ⟨rfl,rfl⟩
  have q:(s.toList==[60])=false:=by have h:=str_ne d;simpa using h
  by_cases f:s=⟨#[43]⟩
  · subst f
    go_wp2
    refine bodyPost_ret (results_tmp2 rfl _ _ _) rfl ?_;exact ⟨rfl,rfl⟩
  have r:(s.toList==[43])=false:=by have h:=str_ne f;simpa using h
  by_cases g:s=⟨#[45]⟩
  · subst g
    go_wp2
    refine bodyPost_ret (results_tmp2 rfl _ _ _) rfl ?_;exact ⟨rfl,rfl⟩
  have t:(s.toList==[45])=false:=by have h:=str_ne g;simpa using h
  by_cases i:s=⟨#[42]⟩
  · subst i
    go_wp2
    refine bodyPost_ret (results_tmp2 rfl _ _ _) rfl ?_;exact ⟨rfl,rfl⟩
  have u:(s.toList==[42])=false:=by have h:=str_ne i;simpa using h
  have j:bindsE s=0:=by
    unfold bindsE wOr;rw [if_neg a,if_neg (fun h=>h.elim b d),if_neg (fun h=>h.elim f g),if_neg i]
  rw [j]
  go_wp2
  refine bodyPost_ret (results_tmp2 rfl _ _ _) rfl ?_;exact ⟨rfl,rfl⟩
theorem starts_any (t:Tk) (w:World):
    Calls Tryz.prog 153 #[tkV t] w fun e q=>e=.returned (.bool (startsE t))∧Below w.heap.size w q:=by
  simp only [tkV];go_enter Tryz.func153,Tryz.ntmps153
  by_cases a:t.k=2
  · have j:(t.k==2)=true:=by simp [a]
    go_wp2
    refine bodyPost_ret (results_tmp rfl _ _ _) rfl ?_;exact ⟨congrArg (fun b=>Ending.returned (.bool b)) (by unfold startsE;simp [a]),below_new _ _⟩
  have j:(t.k==2)=false:=by simp [a]
  by_cases d:t.k=3
  · have m:(t.k==3)=true:=by simp [d]
    go_wp2
    refine bodyPost_ret (results_tmp rfl _ _ _) rfl ?_;exact ⟨congrArg (fun b=>Ending.returned (.bool b)) (by unfold startsE;simp [d]),below_new _ _⟩
  have m:(t.k==3)=false:=by simp [d]
  by_cases f:t.k=4
  · have o:(t.k==4)=true:=by simp [f]
    go_wp2
    refine bodyPost_ret (results_tmp rfl _ _ _) rfl ?_;exact ⟨congrArg (fun b=>Ending.returned (.bool b)) (by unfold startsE;simp [f]),below_new _ _⟩
  have o:(t.k==4)=false:=by simp [f]
  by_cases g:t.k=6
  · by_cases i:t.s=⟨#[40]⟩
    · have p:(t.s.toList==[40])=true:=by rw [i];simp
      go_wp2
      refine bodyPost_ret (results_tmp rfl _ _ _) rfl ?_;exact ⟨congrArg (fun b=>Ending.returned (.bool b)) (by unfold startsE;simp [g,i,wOpen]),below_new _ _⟩
    · have p:(t.s.toList==[40])=false:=by have h:=str_ne i;simpa using h
      go_wp2
      refine bodyPost_ret (results_tmp rfl _ _ _) rfl ?_;exact ⟨congrArg (fun b=>Ending.returned (.bool b)) (by unfold startsE;simp [g,i,wOpen]),below_new _ _⟩
  · have r:(t.k==6)=false:=by simp [g]
    go_wp2
    refine bodyPost_ret (results_tmp rfl _ _ _) rfl ?_;exact ⟨congrArg (fun b=>Ending.returned (.bool b)) (by unfold startsE;simp [a,d,f,g]),below_new _ _⟩
end
end Go.Proofs.YtcoiagfeoonpbaaGreat
