/-
  The document's Binds and Starts. No condition.
-/
import Derived.Test.YtcoiagfeoonpbaaGreatMp9
import Derived.Test.YtcoiagfeoonpbaaGreatMp8
set_option maxHeartbeats 20000000
set_option maxRecDepth 100000
namespace Go.Proofs.YtcoiagfeoonpbaaGreat
section
open Go.RowKit
theorem rbinds_any (s:ByteArray) (w:World):
    Calls Tryz.prog 118 #[.string s] w fun e m=>e=.returned (.int .i64 (bindsE s:Nat))∧w=m:=by
  go_enter Tryz.func118,Tryz.ntmps118
  by_cases a:s=⟨#[63]⟩
  · subst a
    go_wp2
    refine bodyPost_ret (results_tmp rfl _ _ _) rfl ?_;exact ⟨rfl,rfl⟩
  have o:(s.toList==[63])=false:=by have h:=str_ne a;simpa using h
  by_cases b:s=⟨#[61,61]⟩
  · subst b
    go_wp2
    refine bodyPost_ret (results_tmp rfl _ _ _) rfl ?_;exact ⟨rfl,rfl⟩
  have p:(s.toList==[61,61])=false:=by have h:=str_ne b;simpa using h
  by_cases d:s=⟨#[60]⟩
  · subst d
    go_wp2
    refine bodyPost_ret (results_tmp rfl _ _ _) rfl ?_;exact ⟨rfl,rfl⟩
  have q:(s.toList==[60])=false:=by have h:=str_ne d;simpa using h
  by_cases f:s=⟨#[43]⟩
  · subst f
    go_wp2
    refine bodyPost_ret (results_tmp rfl _ _ _) rfl ?_;exact ⟨rfl,rfl⟩
  have r:(s.toList==[43])=false:=by have h:=str_ne f;simpa using h
  by_cases g:s=⟨#[45]⟩
  · subst g
    go_wp2
    refine bodyPost_ret (results_tmp rfl _ _ _) rfl ?_;exact ⟨rfl,rfl⟩
  have t:(s.toList==[45])=false:=by have h:=str_ne g;simpa using h
  by_cases i:s=⟨#[42]⟩
  · subst i
    go_wp2
    refine bodyPost_ret (results_tmp rfl _ _ _) rfl ?_;exact ⟨rfl,rfl⟩
  have u:(s.toList==[42])=false:=by have h:=str_ne i;simpa using h
  have j:bindsE s=0:=by
    unfold bindsE wOr;rw [if_neg a,if_neg (fun h=>h.elim b d),if_neg (fun h=>h.elim f g),if_neg i]
  rw [j]
  go_wp2
  refine bodyPost_ret (results_tmp rfl _ _ _) rfl ?_;exact ⟨rfl,rfl⟩
theorem rstarts_any (t:Tk) (w:World):
    Calls Tryz.prog 149 #[tkV t] w fun e r=>e=.returned (.bool (startsE t))∧Below w.heap.size w r:=by
  simp only [tkV];go_enter Tryz.func149,Tryz.ntmps149
  by_cases a:t.k=2
  · have j:(t.k==2)=true:=by simp [a]
    go_wp2
    refine bodyPost_ret (results_tmp rfl _ _ _) rfl ?_;exact ⟨congrArg (fun b=>Ending.returned (.bool b)) (by unfold startsE;simp [a]),below_new _ _⟩
  have j:(t.k==2)=false:=by simp [a]
  by_cases d:t.k=3
  · have m:(t.k==3)=true:=by simp [d]
    go_wp2
    refine bodyPost_ret (results_tmp rfl _ _ _) rfl ?_;exact ⟨congrArg (fun b=>Ending.returned (.bool b)) (by unfold startsE;simp [d]),below_new _ _⟩
  have m:(t.k==3)=false:=by simp [d]
  by_cases f:t.k=4
  · have o:(t.k==4)=true:=by simp [f]
    go_wp2
    refine bodyPost_ret (results_tmp rfl _ _ _) rfl ?_;exact ⟨congrArg (fun b=>Ending.returned (.bool b)) (by unfold startsE;simp [f]),below_new _ _⟩
  have o:(t.k==4)=false:=by simp [f]
  by_cases g:t.k=6
  · have p:(t.k==6)=true:=by simp [g]
    by_cases i:t.s=⟨#[40]⟩
    · have q:(t.s.toList==[40])=true:=by rw [i];simp
      go_wp2
      refine bodyPost_ret (results_tmp rfl _ _ _) rfl ?_;exact ⟨congrArg (fun b=>Ending.returned (.bool b)) (by unfold startsE;simp [g,i,wOpen]),below_new _ _⟩
    · have q:(t.s.toList==[40])=false:=by have h:=str_ne i;simpa using h
      go_wp2
      refine bodyPost_ret (results_tmp rfl _ _ _) rfl ?_;exact ⟨congrArg (fun b=>Ending.returned (.bool b)) (by unfold startsE;simp [g,i,wOpen]),below_new _ _⟩
  · have p:(t.k==6)=false:=by simp [g]
    go_wp2
    refine bodyPost_ret (results_tmp rfl _ _ _) rfl ?_;exact ⟨congrArg (fun b=>Ending.returned (.bool b)) (by unfold startsE;simp [a,d,f,g]),below_new _ _⟩
end
section
open Go.RowKit
def NwS (A:Nat→Prop) (top b:Nat):Prop:=A b∧b<top
def Av (base g h:Nat) (b:Nat):Prop:=base≤b∧b≠g∧b≠h
def Bt (base top b:Nat):Prop:=base≤b∧b<top
section
variable {w w':World} {A:Nat→Prop} {x:At} {y:Value}
theorem memS_far {Z:Nat→Prop} (h:Mem (NwS A w.heap.size) w x y) (d:Far Z w w') (f:∀ b,A b→ ¬Z b):Mem (NwS A w'.heap.size) w' x y:=
  h.mono (fun _ a=>⟨a.1,Nat.lt_of_lt_of_le a.2 d.size⟩) fun b a=>d.block b a.2 (f b a.1)
theorem memS_keep (h:Mem (NwS A w.heap.size) w x y) (a:Below w.heap.size w w'):Mem (NwS A w'.heap.size) w' x y:=
  memS_far (Z:=fun _=>False) h (Far.of a) fun _ _ h=>h
theorem memS_alloc (h:Mem (NwS A w.heap.size) w x y) (o:Obj):Mem (NwS A (w.alloc o).heap.size) (w.alloc o) x y:=memS_keep h (below_new w o)
theorem memS_set {g:Nat} (h:Mem (NwS A w.heap.size) w x y) (d: ¬A g) (j:Nat) (v:Value):Mem (NwS A (w.setCell ⟨g,j,none⟩ v).heap.size) (w.setCell ⟨g,j,none⟩ v) x y:=
  memS_far (Z:=fun b=>b=g) h ((Far.refl (fun b=>b=g) w).setCell (p:=⟨g,j,none⟩) rfl v) fun b a e=>d (by have e:b=g:=e;rw [←e];exact a)
theorem memS_grown {r:Option Nat} (h:Mem (NwS A w.heap.size) w x y) (d:w.grownBy w' r) (f:∀ k,r=some k→ ¬A k):Mem (NwS A w'.heap.size) w' x y:=
  h.mono (fun _ a=>⟨a.1,Nat.lt_of_lt_of_le a.2 d.size⟩) fun b a=>d.block b a.2 fun e=>f b e.symm a.1
theorem memS_nw {base:Nat} (h:Mem (NwS A w.heap.size) w x y) (d:∀ b,A b→base≤b):Mem (Nw 0 base w.heap.size) w x y:=
  h.mono (fun b a=>by have :=d b a.1;have :=a.2;unfold Nw;omega) fun _ _=>rfl
theorem memS_av {base a g k:Nat} (h:Mem (Nw 0 a w.heap.size) w x y) (f:base≤a) (i:g<a∨w.heap.size≤g) (m:k<a∨w.heap.size≤k):Mem (NwS (Av base g k) w.heap.size) w x y:=
  h.mono (fun b d=>by unfold Nw at d;unfold NwS Av;omega) fun _ _=>rfl
theorem memS_bt {base a:Nat} (h:Mem (Nw 0 a w.heap.size) w x y) (f:base≤a):Mem (NwS (Bt base w.heap.size) w.heap.size) w x y:=
  h.mono (fun b d=>by unfold Nw at d;unfold NwS Bt;omega) fun _ _=>rfl
theorem bt_nw {base a g:Nat} (h:Mem (NwS (Bt a g) w.heap.size) w x y) (d:base≤a):Mem (Nw 0 base w.heap.size) w x y:=
  memS_nw h fun _b f=>Nat.le_trans d f.1
theorem av_nw {base a g k:Nat} (h:Mem (NwS (Av a g k) w.heap.size) w x y) (d:base≤a):Mem (Nw 0 base w.heap.size) w x y:=
  memS_nw h fun _b f=>Nat.le_trans d f.1
end
def OwnS (A:Nat→Prop) (base:Nat) (e:TypeId) (sz:Nat) (w:World) (y:Value) (rs:List (List At)):Prop:=
  ∃ css:List (List Value),w.ownsRow base e sz y rs.length css.flatten∧All2 (fun r cs=>cs.length=sz∧All2 (Mem (fun b=>NwS A w.heap.size b∧y.ownBlock≠some b) w) r cs) rs css
section
variable {A:Nat→Prop} {base sz:Nat} {e:TypeId} {w w':World} {y:Value} {rs:List (List At)}
theorem OwnS.farZ {Z:Nat→Prop} (h:OwnS A base e sz w y rs) (f:Far Z w w') (u:∀ b,A b→b<w.heap.size→ ¬Z b) (v:∀ b,base≤b→b<w.heap.size→ ¬Z b):OwnS A base e sz w' y rs:=by
  obtain ⟨css,i,d⟩:=h;refine ⟨css,⟨i.1,?_⟩,d.imp fun r cs ⟨hc,hm⟩=>⟨hc,hm.imp fun x B s=>s.mono (fun b ⟨a,d⟩=>⟨⟨a.1,Nat.lt_of_lt_of_le a.2 f.size⟩,d⟩) fun b ⟨a,_⟩=>f.block b a.2 (u b a.1 a.2)⟩⟩
  rcases i.2 with q | ⟨g,cap,p,rfl,a,o,rest⟩
  · exact .inl q
  · have m:=(Array.getElem?_eq_some_iff.1 o).1
    exact .inr ⟨g,cap,p,rfl,a,(f.block g m (v g a m)).trans o,rest⟩
theorem OwnS.keep (h:OwnS A base e sz w y rs) (a:Below w.heap.size w w'):OwnS A base e sz w' y rs:=h.farZ (Z:=fun _=>False) (Far.of a) (fun _ _ _ h=>h) fun _ _ _ h=>h
theorem OwnS.alloc (h:OwnS A base e sz w y rs) (o:Obj):OwnS A base e sz (w.alloc o) y rs:=h.keep (below_new w o)
theorem OwnS.set {g:Nat} (h:OwnS A base e sz w y rs) (d: ¬A g) (i:g<base) (j:Nat) (v:Value):OwnS A base e sz (w.setCell ⟨g,j,none⟩ v) y rs:=
  h.farZ ((Far.refl (fun b=>b=g) w).setCell (p:=⟨g,j,none⟩) rfl v) (fun b a _ e=>d (by have e:b=g:=e;rw [←e];exact a)) fun b f _ e=>by have :b=g:=e;omega
theorem OwnS.lt (h:OwnS A base e sz w y rs):∀ k,y.ownBlock=some k→base≤k∧k<w.heap.size:=by
  obtain ⟨css,a,_⟩:=h;exact a.lt
theorem OwnS.form (h:OwnS A base e sz w y rs):∃ a m cap,y=.slice a m cap∧m=rs.length∧m≤cap∧cap≤9223372036854775807:=by
  obtain ⟨css,b,_⟩:=h
  rcases b.2 with ⟨rfl,f⟩ | ⟨g,cap,o,rfl,p,q,i,d,r,s⟩
  · exact ⟨none,_,0,rfl,f.symm,by omega,by omega⟩
  · exact ⟨_,_,cap,rfl,rfl,i,by simpa [maxLen] using d⟩
theorem OwnS.mem (h:OwnS A base e sz w y rs):Mem (NwS (fun b=>A b∨base≤b) w.heap.size) w (.s sz rs) y:=by
  obtain ⟨css,v,m⟩:=h;have I:=m.len
  have p:∀ u∈css,u.length=sz:=fun u p=>by
    obtain ⟨i,a,rfl⟩:=List.getElem_of_mem p;exact (m.at i (by omega) a).1
  rcases v.2 with ⟨rfl,F⟩ | ⟨g,cap,H,rfl,o,E,G,D,J,K⟩
  · have :rs=[]:=List.eq_nil_of_length_eq_zero F
    subst this;exact .e none 0 sz (by decide)
  · refine .s g 0 rs.length cap sz rs (fun i j=>css.flatten.getD (i * sz+j) undef) rfl G (by simpa [maxLen] using D) ⟨.inr o,(Array.getElem?_eq_some_iff.1 E).1⟩ (fun i a=>?_) (fun i j a B=>?_) (fun i j a B=>?_)
    · have d:i<css.length:=by omega
      obtain ⟨r,f⟩:=m.at i a d;rw [f.len,r]
    · have d:i<css.length:=by omega
      obtain ⟨r,f⟩:=m.at i a d;have q:=flat_at sz css p i j d (by omega);have :=v.cells (g:=g) rfl (i * sz+j) _ q
      have C:(⟨g,0,none⟩:Addr).add (i * sz+j)=⟨g,i * sz+j,none⟩:=by unfold Addr.add;split <;> simp_all
      rw [C] at this
      rw [Nat.zero_add,this,List.getD_eq_getElem?_getD,q];rfl
    · have d:i<css.length:=by omega
      obtain ⟨r,f⟩:=m.at i a d
      have q:=flat_at sz css p i j d (by have :=f.len;omega)
      rw [List.getD_eq_getElem?_getD,q]
      exact (f.at j B (by have :=f.len;omega)).mono (fun b o=>⟨.inl o.1.1,o.1.2⟩) fun _ _=>rfl
theorem OwnS.nw {base0:Nat} (h:OwnS A base e sz w y rs) (d:∀ b,A b→base0≤b) (f:base0≤base):Mem (Nw 0 base0 w.heap.size) w (.s sz rs) y:=
  memS_nw h.mem fun b i=>i.elim (d b) fun a=>Nat.le_trans f a
theorem OwnS.same (h:OwnS A base e sz w y rs) (d:∀ b,base≤b→A b):Mem (NwS A w.heap.size) w (.s sz rs) y:=
  h.mem.mono (fun b a=>⟨a.1.elim id (d b),a.2⟩) fun _ _=>rfl
theorem OwnS.apart {v:Value} {x:At} (h:OwnS A base e sz w y rs) (d:∀ b,w.heap.size≤b→b<w'.heap.size→A b) (f:Mem (Nw 0 w.heap.size w'.heap.size) w' x v):Mem (fun b=>NwS A w'.heap.size b∧y.ownBlock≠some b) w' x v:=
  f.mono (fun b a=>by
    unfold Nw at a;refine ⟨⟨d b (by omega) a.2,a.2⟩,fun e=>?_⟩;have :=h.lt b e
    omega) fun _ _=>rfl
theorem OwnS.built {css:List (List Value)} (h:All2 (fun r a=>a.length=sz∧All2 (Mem (NwS A w.heap.size) w) r a) rs css) (o:base≤w.heap.size) (n:Nat) (s:rs.length=n) (m:n≤maxLen) (a:Array Value) (d:a.toList=css.flatten):
    OwnS A base e sz (w.alloc (.cells a e)) (.slice (some ⟨w.heap.size,0,none⟩) n n) rs:=by
  subst s
  have q:∀ a∈css,a.length=sz:=fun a d=>by
    obtain ⟨i,p,rfl⟩:=List.getElem_of_mem d
    exact (h.at i (by have :=h.len;omega) p).1
  have f:=flat_len sz css q;refine ⟨css,⟨by rw [f,h.len],.inr ⟨w.heap.size,rs.length,a,rfl,o,(MapKept.heap_alloc w _).1,Nat.le_refl _,m,?_,?_⟩⟩,h.imp fun r a ⟨hc,m⟩=>⟨hc,m.imp fun x v u=>u.mono (fun b ⟨h1,h3⟩=>⟨⟨h1,by rw [World.size_alloc];omega⟩,fun e=>by injection e with e;subst e;simp at h3⟩) fun b ⟨_,h1⟩=>(below_new w _).block b h1⟩⟩
  · rw [←Array.length_toList,d,f,h.len]
  · rw [d,List.take_of_length_le (by rw [f,h.len];exact Nat.le_refl _)]
end
section
variable {P:Program} {w:World} {t e:TypeId} {z:Value} {sz bytes:Nat}
theorem run_append_S (K:TypeId) {A:Nat→Prop} {base:Nat} (O:P.underlying t=some (.slice e)) (a6:(P.info? e).map (fun i=>(i.zero,i.size,i.bytes))=some (some z,sz,bytes)) (hz:z.cells.size=sz) (X:0<sz)
    {y:Value} {rs new:List (List At)} {a:Option Addr} {m c:Nat} (h:OwnS A base e sz w y rs) (a0:new≠[]) (Q:Mem (fun b=>NwS A w.heap.size b∧y.ownBlock≠some b) w (.s sz new) (.slice a m c)) (a3:(rs.length+new.length) * bytes≤140737488355328) (ab:rs.length+new.length≤4611686018427387904) (a2:base≤w.heap.size):
    ∃ v w',(Builtin.append_ #[t,t] K #[y,.slice a m c]).run P w=.ok v w'∧OwnS A base e sz w' v (rs++new)∧w.grownBy w' y.ownBlock∧(v.ownBlock=y.ownBlock∨∀ k,v.ownBlock=some k→w.heap.size≤k):=by
  obtain ⟨i,D,Y,J,Z⟩:=info_parts a6;have H:=Q.len;obtain ⟨q,E,G⟩:=Q.flat
  have a7:∀ L∈q,L.length=sz:=fun L S=>by
    obtain ⟨i,D,rfl⟩:=List.getElem_of_mem S
    exact (E.at i (by have :=E.len;omega) D).1
  have a5:=flat_len sz q a7
  have V:∀ u∈q.flatten,u.oneCell'=true:=fun u d=>by
    obtain ⟨L,S,d⟩:=List.mem_flatten.1 d;obtain ⟨k,p,rfl⟩:=List.getElem_of_mem S;obtain ⟨j,hj,rfl⟩:=List.getElem_of_mem d
    have h3:=(E.at k (by have :=E.len;omega) p).2
    exact (h3.at j (by have :=h3.len;omega) hj).one
  have ae:0<m:=by
    rw [←H.1];exact List.length_pos_iff.2 a0
  obtain ⟨f,rfl⟩:∃ f,a=some f:=by
    cases Q with
    | e=>exact absurd rfl a0
    | s b o n cap _ _ C hn a4 hc hS X G hm=>exact ⟨_,rfl⟩
  have M:q.flatten.length=m * sz:=by rw [a5, ←E.len,H.1]
  obtain ⟨css,B,h2⟩:=h
  have U:rs.length+m≤maxLen:=by rw [←H.1];unfold maxLen;omega
  have R:(rs.length+m) * bytes≤140737488355328:=by rw [←H.1];exact a3
  obtain ⟨v,w',N,ho,T,_⟩:=run_append_own (P:=P) w base t K e i z sz bytes O D Y J Z hz X y rs.length css.flatten B f m c q.flatten M (fun j u d=>G f rfl j u d) V U R a2
  have F:v.ownBlock=y.ownBlock∨∀ k,v.ownBlock=some k→w.heap.size≤k:=by
    rcases B.2 with ⟨rfl,hn⟩ | ⟨g,cap,aa,rfl,hb,ac,af,a4,X,ag⟩
    · have a1:w.ownsRow w.heap.size e sz (.slice none 0 0) rs.length css.flatten:=⟨B.1,.inl ⟨rfl,hn⟩⟩
      obtain ⟨v2,w2,I,a8,_,_⟩:=run_append_own (P:=P) w w.heap.size t K e i z sz bytes O D Y J Z hz ‹0<sz› _ rs.length css.flatten a1 f m c q.flatten M (fun j u d=>G f rfl j u d) V U R (Nat.le_refl _);have :=N.symm.trans I
      injection this with e1 e2
      subst e1
      exact .inr fun k p=>(a8.lt k p).1
    · by_cases a9:rs.length+m≤cap
      · obtain ⟨w2,I,_⟩:=run_append_fits (P:=P) w base t K e i sz O D J g rs.length cap css.flatten B f m c q.flatten M (fun j u d=>G f rfl j u d) V a9
        have :=N.symm.trans I
        injection this with e1 e2
        subst e1;exact .inl rfl
      · have I:=run_append_grow (P:=P) w t K e i z O D Y ⟨g,0,none⟩ rs.length cap css.flatten (by rw [J];exact B.1) (B.cells (g:=g) rfl) f m c q.flatten (by rw [J];exact M) (fun j u d=>G f rfl j u d) (by omega) (by unfold maxLen at U;omega) (growslice_fits (by omega) (by rw [Z];exact R))
        have :=N.symm.trans I
        injection this with e1 e2
        subst e1;refine .inr fun k p=>?_;simp only [Value.ownBlock,Option.some.injEq] at p
        omega
  refine ⟨v,w',N,⟨css++q,?_,(h2.app E).imp fun r L ⟨hc,hm⟩=>⟨hc,hm.imp fun x zz hx=>hx.mono (fun b ⟨⟨hb0,hb1⟩,hb2⟩=>⟨⟨hb0,Nat.lt_of_lt_of_le hb1 T.size⟩,fun p=>?_⟩) fun b ⟨⟨_,hb1⟩,hb2⟩=>T.block b hb1 fun e=>hb2 e.symm⟩⟩,T,F⟩
  · rw [List.length_append,List.flatten_append,H.1];exact ho
  · rcases F with F | F
    · rw [F] at p;exact hb2 p
    · have :=F b p;omega
theorem wpList_append_S {p:Array Oper} {rest:List Oper} {o:Oper} {d:Act} {Q:Exit→Act→World→Prop} (F:o.guard=none) (s x:Operand) {A:Nat→Prop} {base:Nat}
    (I:o.op=.call { callee:=.builtin .append,args:=#[s,x],argTypes:=#[t,t] }) (M:P.underlying t=some (.slice e)) (G:(P.info? e).map (fun i=>(i.zero,i.size,i.bytes))=some (some z,sz,bytes)) (O:z.cells.size=sz) (L:0<sz)
    {y:Value} {rs new:List (List At)} {a:Option Addr} {m c:Nat} (K:d.eval s=y) (N:d.eval x=.slice a m c) (h:OwnS A base e sz w y rs) (H:new≠[]) (B:Mem (fun b=>NwS A w.heap.size b∧y.ownBlock≠some b) w (.s sz new) (.slice a m c)) (E:(rs.length+new.length) * bytes≤140737488355328) (D:rs.length+new.length≤4611686018427387904) (C:base≤w.heap.size)
    (u:∀ f w',OwnS A base e sz w' f (rs++new)→w.grownBy w' y.ownBlock→wpList P p Q rest (d.put o.dst f) w'):wpList P p Q (o::rest) d w:=by
  obtain ⟨f,w',J,q,r,_⟩:=run_append_S o.type M G O L h H B E D C;refine wpList_plain F fun _ v=>?_;unfold Oper.wp execOp;simp only [I,resolve,invoke,builtin,Sem.run_bind,Sem.run_pure,Result.andThen_ok,List.map_toArray,List.map_cons,List.map_nil,K,N,J];exact v _ _ (u f w' q r)
end
def rawRow (k:Int) (s:ByteArray) (nn:Int) (sa:Option Addr) (sm sc:Nat) (u v:Int):List At:=[.v (.int .i64 k),.v (.string s),.v (.int .i64 nn),.v (.slice sa sm sc),.v (.int .i64 u),.v (.int .i64 v)]
theorem raw_all {S:Nat→Prop} {w:World} (k:Int) (s:ByteArray) (a:Int) (b:Option Addr) (f d:Nat) (u v:Int):All2 (Mem S w) (rawRow k s a b f d u v) [.int .i64 k,.string s,.int .i64 a,.slice b f d,.int .i64 u,.int .i64 v]:=
  .cons (.v _ rfl) (.cons (.v _ rfl) (.cons (.v _ rfl) (.cons (.v _ rfl) (.cons (.v _ rfl) (.cons (.v _ rfl) .nil)))))
section
variable {w W:World} {A:Nat→Prop} {base:Nat}
theorem builtRaw (k:Int) (s:ByteArray) (a:Int) (b:Option Addr) (f d:Nat) (u v:Int) (h:base≤w.heap.size):
    OwnS A base 60 6 (w.alloc (.cells #[.int .i64 k,.string s,.int .i64 a,.slice b f d,.int .i64 u,.int .i64 v] 60)) (.slice (some ⟨w.heap.size,0,none⟩) 1 1) [rawRow k s a b f d u v]:=
  OwnS.built (css:=[[.int .i64 k,.string s,.int .i64 a,.slice b f d,.int .i64 u,.int .i64 v]]) (.cons ⟨rfl,raw_all k s a b f d u v⟩ .nil) h 1 rfl (by decide) _ rfl
theorem builtS1 {x:Ex} {a:Option Addr} {m c:Nat} (h:Mem (NwS A w.heap.size) w (.s 6 (Ex.rows x.args)) (.slice a m c)) (b:base≤w.heap.size):
    OwnS A base 60 6 (w.alloc (.cells #[.int .i64 x.kind,.string x.name,.int .i64 x.n,.slice a m c,.int .i64 x.line,.int .i64 x.col] 60)) (.slice (some ⟨w.heap.size,0,none⟩) 1 1) (Ex.rows [x]):=by
  rw [Ex.rows_eq];exact OwnS.built (css:=[[.int .i64 x.kind,.string x.name,.int .i64 x.n,.slice a m c,.int .i64 x.line,.int .i64 x.col]]) (.cons ⟨rfl,row_ex x h⟩ .nil) b 1 rfl (by decide) _ rfl
theorem builtS2 {x y:Ex} {a b:Option Addr} {m c f d:Nat} (h:Mem (NwS A w.heap.size) w (.s 6 (Ex.rows x.args)) (.slice a m c)) (i:Mem (NwS A w.heap.size) w (.s 6 (Ex.rows y.args)) (.slice b f d)) (o:base≤w.heap.size):
    OwnS A base 60 6 (w.alloc (.cells #[.int .i64 x.kind,.string x.name,.int .i64 x.n,.slice a m c,.int .i64 x.line,.int .i64 x.col,.int .i64 y.kind,.string y.name,.int .i64 y.n,.slice b f d,.int .i64 y.line,.int .i64 y.col] 60)) (.slice (some ⟨w.heap.size,0,none⟩) 2 2) (Ex.rows [x,y]):=by
  rw [Ex.rows_eq];exact OwnS.built (css:=[[.int .i64 x.kind,.string x.name,.int .i64 x.n,.slice a m c,.int .i64 x.line,.int .i64 x.col],[.int .i64 y.kind,.string y.name,.int .i64 y.n,.slice b f d,.int .i64 y.line,.int .i64 y.col]]) (.cons ⟨rfl,row_ex x h⟩ (.cons ⟨rfl,row_ex y i⟩ .nil)) o 2 rfl (by decide) _ rfl
theorem builtS3 {x y z:Ex} {a b d:Option Addr} {m c o f p i:Nat} (h:Mem (NwS A w.heap.size) w (.s 6 (Ex.rows x.args)) (.slice a m c)) (q:Mem (NwS A w.heap.size) w (.s 6 (Ex.rows y.args)) (.slice b o f)) (r:Mem (NwS A w.heap.size) w (.s 6 (Ex.rows z.args)) (.slice d p i)) (u:base≤w.heap.size):
    OwnS A base 60 6 (w.alloc (.cells #[.int .i64 x.kind,.string x.name,.int .i64 x.n,.slice a m c,.int .i64 x.line,.int .i64 x.col,.int .i64 y.kind,.string y.name,.int .i64 y.n,.slice b o f,.int .i64 y.line,.int .i64 y.col,.int .i64 z.kind,.string z.name,.int .i64 z.n,.slice d p i,.int .i64 z.line,.int .i64 z.col] 60)) (.slice (some ⟨w.heap.size,0,none⟩) 3 3) (Ex.rows [x,y,z]):=by
  rw [Ex.rows_eq];exact OwnS.built (css:=[[.int .i64 x.kind,.string x.name,.int .i64 x.n,.slice a m c,.int .i64 x.line,.int .i64 x.col],[.int .i64 y.kind,.string y.name,.int .i64 y.n,.slice b o f,.int .i64 y.line,.int .i64 y.col],[.int .i64 z.kind,.string z.name,.int .i64 z.n,.slice d p i,.int .i64 z.line,.int .i64 z.col]]) (.cons ⟨rfl,row_ex x h⟩ (.cons ⟨rfl,row_ex y q⟩ (.cons ⟨rfl,row_ex z r⟩ .nil))) u 3 rfl (by decide) _ rfl
theorem newRowS {y:Value} {rs:List (List At)} {x:Ex} {a:Option Addr} {m c:Nat} (h:OwnS A base 60 6 W y rs) (i:∀ b,W.heap.size≤b→b<w.heap.size+1→A b) (q:W.heap.size≤w.heap.size) (p:Mem (Nw 0 W.heap.size w.heap.size) w (.s 6 (Ex.rows x.args)) (.slice a m c)) {g:Nat} (o:w.heap.size=g):
    Mem (fun b=>NwS A (w.alloc (.cells #[.int .i64 x.kind,.string x.name,.int .i64 x.n,.slice a m c,.int .i64 x.line,.int .i64 x.col] 60)).heap.size b∧y.ownBlock≠some b) (w.alloc (.cells #[.int .i64 x.kind,.string x.name,.int .i64 x.n,.slice a m c,.int .i64 x.line,.int .i64 x.col] 60)) (.s 6 (Ex.rows [x])) (.slice (some ⟨g,0,none⟩) 1 1):=by
  subst o;exact h.apart (fun b f d=>i b f (by rw [World.size_alloc] at d;exact d)) (builtE1 p q).mem
theorem rawRowS {y:Value} {rs:List (List At)} (h:OwnS A base 60 6 W y rs) (k:Int) (s:ByteArray) (a:Int) (d:Option Addr) (i f:Nat) (u v:Int) (q:A w.heap.size) (C:W.heap.size≤w.heap.size) {g:Nat} (B:w.heap.size=g):
    Mem (fun b=>NwS A (w.alloc (.cells #[.int .i64 k,.string s,.int .i64 a,.slice d i f,.int .i64 u,.int .i64 v] 60)).heap.size b∧y.ownBlock≠some b) (w.alloc (.cells #[.int .i64 k,.string s,.int .i64 a,.slice d i f,.int .i64 u,.int .i64 v] 60)) (.s 6 [rawRow k s a d i f u v]) (.slice (some ⟨g,0,none⟩) 1 1):=by
  subst B
  exact (builtRaw (A:=fun _=>False) (base:=w.heap.size) k s a d i f u v (Nat.le_refl _)).mem.mono (fun b r=>by
    have m:(False∨w.heap.size≤b)∧b<(w.alloc (.cells #[.int .i64 k,.string s,.int .i64 a,.slice d i f,.int .i64 u,.int .i64 v] 60)).heap.size:=r;have o:=m.2;rw [World.size_alloc] at o
    have p:b=w.heap.size:=by have :=m.1.resolve_left id;omega
    subst p;refine ⟨⟨q,m.2⟩,fun e=>?_⟩;have :=h.lt _ e
    omega) fun _ _=>rfl
end
section
variable {w w':World} {g j:Nat} {A:Nat→Prop}
theorem memS_set1 {x:At} {y:Value} {a:Value} (h:Mem (NwS A w.heap.size) w x y) (e:(w.setCell ⟨g,j,none⟩ a)=w') (b: ¬A g):Mem (NwS A w'.heap.size) w' x y:=e ▸ (memS_set h b j a)
theorem OwnS.set1 {base sz:Nat} {a:TypeId} {y:Value} {rs:List (List At)} {b:Value} (h:OwnS A base a sz w y rs) (e:(w.setCell ⟨g,j,none⟩ b)=w') (f: ¬A g) (d:g<base):OwnS A base a sz w' y rs:=e ▸ (h.set f d j b)
theorem memS_set2 {x:At} {y:Value} {b d:Value} (h:Mem (NwS A w.heap.size) w x y) (e:((w.setCell ⟨g,0,none⟩ b).setCell ⟨g,1,none⟩ d)=w') (a: ¬A g):Mem (NwS A w'.heap.size) w' x y:=e ▸ (memS_set (memS_set h a 0 b) a 1 d)
theorem OwnS.set2 {base sz:Nat} {a:TypeId} {y:Value} {rs:List (List At)} {f i:Value} (h:OwnS A base a sz w y rs) (e:((w.setCell ⟨g,0,none⟩ f).setCell ⟨g,1,none⟩ i)=w') (d: ¬A g) (b:g<base):OwnS A base a sz w' y rs:=e ▸ ((h.set d b 0 f).set d b 1 i)
theorem memS_set3 {x:At} {y:Value} {b d f:Value} (h:Mem (NwS A w.heap.size) w x y) (e:(((w.setCell ⟨g,0,none⟩ b).setCell ⟨g,1,none⟩ d).setCell ⟨g,2,none⟩ f)=w') (a: ¬A g):Mem (NwS A w'.heap.size) w' x y:=e ▸ (memS_set (memS_set (memS_set h a 0 b) a 1 d) a 2 f)
theorem OwnS.set3 {base sz:Nat} {d:TypeId} {y:Value} {rs:List (List At)} {f i m:Value} (h:OwnS A base d sz w y rs) (e:(((w.setCell ⟨g,0,none⟩ f).setCell ⟨g,1,none⟩ i).setCell ⟨g,2,none⟩ m)=w') (b: ¬A g) (a:g<base):OwnS A base d sz w' y rs:=e ▸ (((h.set b a 0 f).set b a 1 i).set b a 2 m)
theorem memS_set5 {x:At} {y:Value} {b d f i m:Value} (h:Mem (NwS A w.heap.size) w x y) (e:(((((w.setCell ⟨g,0,none⟩ b).setCell ⟨g,1,none⟩ d).setCell ⟨g,2,none⟩ f).setCell ⟨g,3,none⟩ i).setCell ⟨g,4,none⟩ m)=w') (a: ¬A g):Mem (NwS A w'.heap.size) w' x y:=e ▸ (memS_set (memS_set (memS_set (memS_set (memS_set h a 0 b) a 1 d) a 2 f) a 3 i) a 4 m)
theorem OwnS.set5 {base sz:Nat} {d:TypeId} {y:Value} {rs:List (List At)} {f i m o p:Value} (h:OwnS A base d sz w y rs) (e:(((((w.setCell ⟨g,0,none⟩ f).setCell ⟨g,1,none⟩ i).setCell ⟨g,2,none⟩ m).setCell ⟨g,3,none⟩ o).setCell ⟨g,4,none⟩ p)=w') (b: ¬A g) (a:g<base):OwnS A base d sz w' y rs:=e ▸ (((((h.set b a 0 f).set b a 1 i).set b a 2 m).set b a 3 o).set b a 4 p)
theorem memS_set6 {x:At} {y:Value} {b d f i m o:Value} (h:Mem (NwS A w.heap.size) w x y) (e:((((((w.setCell ⟨g,0,none⟩ b).setCell ⟨g,1,none⟩ d).setCell ⟨g,2,none⟩ f).setCell ⟨g,3,none⟩ i).setCell ⟨g,4,none⟩ m).setCell ⟨g,5,none⟩ o)=w') (a: ¬A g):Mem (NwS A w'.heap.size) w' x y:=e ▸ (memS_set (memS_set (memS_set (memS_set (memS_set (memS_set h a 0 b) a 1 d) a 2 f) a 3 i) a 4 m) a 5 o)
theorem OwnS.set6 {base sz:Nat} {d:TypeId} {y:Value} {rs:List (List At)} {f i m o p q:Value} (h:OwnS A base d sz w y rs) (e:((((((w.setCell ⟨g,0,none⟩ f).setCell ⟨g,1,none⟩ i).setCell ⟨g,2,none⟩ m).setCell ⟨g,3,none⟩ o).setCell ⟨g,4,none⟩ p).setCell ⟨g,5,none⟩ q)=w') (b: ¬A g) (a:g<base):OwnS A base d sz w' y rs:=e ▸ ((((((h.set b a 0 f).set b a 1 i).set b a 2 m).set b a 3 o).set b a 4 p).set b a 5 q)
theorem memS_allocE {x:At} {y:Value} {o:Obj} (h:Mem (NwS A w.heap.size) w x y) (e:w.alloc o=w'):Mem (NwS A w'.heap.size) w' x y:=e ▸ memS_alloc h o
theorem OwnS.allocE {base sz:Nat} {a:TypeId} {y:Value} {rs:List (List At)} {o:Obj} (h:OwnS A base a sz w y rs) (e:w.alloc o=w'):OwnS A base a sz w' y rs:=e ▸ h.alloc o
theorem memS_drewE {x:At} {y:Value} (h:Mem (NwS A w.heap.size) w x y) (e:w.drew=w'):Mem (NwS A w'.heap.size) w' x y:=e ▸ memS_keep h (below_drew _)
theorem OwnS.drewE {base sz:Nat} {a:TypeId} {y:Value} {rs:List (List At)} (h:OwnS A base a sz w y rs) (e:w.drew=w'):OwnS A base a sz w' y rs:=e ▸ h.keep (below_drew _)
theorem builtS1E {base:Nat} {x:Ex} {a:Option Addr} {f d:Nat} (m:Mem (NwS A w.heap.size) w (.s 6 (Ex.rows x.args)) (.slice a f d)) (e:w.alloc (.cells #[.int .i64 x.kind,.string x.name,.int .i64 x.n,.slice a f d,.int .i64 x.line,.int .i64 x.col] 60)=w') {b:Nat} (h:w.heap.size=b) (i:base≤w.heap.size):OwnS A base 60 6 w' (.slice (some ⟨b,0,none⟩) 1 1) (Ex.rows [x]):=e ▸ h ▸ builtS1 m i
theorem builtS2E {base:Nat} {x y:Ex} {a d:Option Addr} {i f m h:Nat} (q:Mem (NwS A w.heap.size) w (.s 6 (Ex.rows x.args)) (.slice a i f)) (r:Mem (NwS A w.heap.size) w (.s 6 (Ex.rows y.args)) (.slice d m h)) (e:w.alloc (.cells #[.int .i64 x.kind,.string x.name,.int .i64 x.n,.slice a i f,.int .i64 x.line,.int .i64 x.col,.int .i64 y.kind,.string y.name,.int .i64 y.n,.slice d m h,.int .i64 y.line,.int .i64 y.col] 60)=w') {b:Nat} (o:w.heap.size=b) (p:base≤w.heap.size):OwnS A base 60 6 w' (.slice (some ⟨b,0,none⟩) 2 2) (Ex.rows [x,y]):=e ▸ o ▸ builtS2 q r p
theorem builtS3E {base:Nat} {x y z:Ex} {a d f:Option Addr} {o h p i q m:Nat} (v:Mem (NwS A w.heap.size) w (.s 6 (Ex.rows x.args)) (.slice a o h)) (B:Mem (NwS A w.heap.size) w (.s 6 (Ex.rows y.args)) (.slice d p i)) (C:Mem (NwS A w.heap.size) w (.s 6 (Ex.rows z.args)) (.slice f q m)) (e:w.alloc (.cells #[.int .i64 x.kind,.string x.name,.int .i64 x.n,.slice a o h,.int .i64 x.line,.int .i64 x.col,.int .i64 y.kind,.string y.name,.int .i64 y.n,.slice d p i,.int .i64 y.line,.int .i64 y.col,.int .i64 z.kind,.string z.name,.int .i64 z.n,.slice f q m,.int .i64 z.line,.int .i64 z.col] 60)=w') {b:Nat} (r:w.heap.size=b) (u:base≤w.heap.size):OwnS A base 60 6 w' (.slice (some ⟨b,0,none⟩) 3 3) (Ex.rows [x,y,z]):=e ▸ r ▸ builtS3 v B C u
theorem yS1 {x:At} {y:Value} {b:Value} (h:Hid (Mem (NwS A w.heap.size) w x y)) (e:(w.setCell ⟨g,j,none⟩ b)=w') (a: ¬A g:=by first | (unfold Av;omega) | (unfold Bt;omega)):Hid (Mem (NwS A w'.heap.size) w' x y):=zz (memS_set1 h.out e a)
theorem sS1 {base sz:Nat} {a:TypeId} {y:Value} {rs:List (List At)} {d:Value} (h:Hid (OwnS A base a sz w y rs)) (e:(w.setCell ⟨g,j,none⟩ d)=w') (b: ¬A g:=by first | (unfold Av;omega) | (unfold Bt;omega)) (hb:g<base:=by omega):Hid (OwnS A base a sz w' y rs):=zz (h.out.set1 e b hb)
theorem yS2 {x:At} {y:Value} {b d:Value} (h:Hid (Mem (NwS A w.heap.size) w x y)) (e:((w.setCell ⟨g,0,none⟩ b).setCell ⟨g,1,none⟩ d)=w') (a: ¬A g:=by first | (unfold Av;omega) | (unfold Bt;omega)):Hid (Mem (NwS A w'.heap.size) w' x y):=zz (memS_set2 h.out e a)
theorem yS3 {x:At} {y:Value} {b d f:Value} (h:Hid (Mem (NwS A w.heap.size) w x y)) (e:(((w.setCell ⟨g,0,none⟩ b).setCell ⟨g,1,none⟩ d).setCell ⟨g,2,none⟩ f)=w') (a: ¬A g:=by first | (unfold Av;omega) | (unfold Bt;omega)):Hid (Mem (NwS A w'.heap.size) w' x y):=zz (memS_set3 h.out e a)
theorem yS5 {x:At} {y:Value} {b d f i m:Value} (h:Hid (Mem (NwS A w.heap.size) w x y)) (e:(((((w.setCell ⟨g,0,none⟩ b).setCell ⟨g,1,none⟩ d).setCell ⟨g,2,none⟩ f).setCell ⟨g,3,none⟩ i).setCell ⟨g,4,none⟩ m)=w') (a: ¬A g:=by first | (unfold Av;omega) | (unfold Bt;omega)):Hid (Mem (NwS A w'.heap.size) w' x y):=zz (memS_set5 h.out e a)
theorem yS6 {x:At} {y:Value} {b d f i m o:Value} (h:Hid (Mem (NwS A w.heap.size) w x y)) (e:((((((w.setCell ⟨g,0,none⟩ b).setCell ⟨g,1,none⟩ d).setCell ⟨g,2,none⟩ f).setCell ⟨g,3,none⟩ i).setCell ⟨g,4,none⟩ m).setCell ⟨g,5,none⟩ o)=w') (a: ¬A g:=by first | (unfold Av;omega) | (unfold Bt;omega)):Hid (Mem (NwS A w'.heap.size) w' x y):=zz (memS_set6 h.out e a)
theorem sS6 {base sz:Nat} {a:TypeId} {y:Value} {rs:List (List At)} {d f i m o p:Value} (h:Hid (OwnS A base a sz w y rs)) (e:((((((w.setCell ⟨g,0,none⟩ d).setCell ⟨g,1,none⟩ f).setCell ⟨g,2,none⟩ i).setCell ⟨g,3,none⟩ m).setCell ⟨g,4,none⟩ o).setCell ⟨g,5,none⟩ p)=w') (b: ¬A g:=by first | (unfold Av;omega) | (unfold Bt;omega)) (hb:g<base:=by omega):Hid (OwnS A base a sz w' y rs):=zz (h.out.set6 e b hb)
theorem yA {x:At} {y:Value} {o:Obj} (h:Hid (Mem (NwS A w.heap.size) w x y)) (e:w.alloc o=w'):Hid (Mem (NwS A w'.heap.size) w' x y):=zz (memS_allocE h.out e)
theorem sA {base sz:Nat} {a:TypeId} {y:Value} {rs:List (List At)} {o:Obj} (h:Hid (OwnS A base a sz w y rs)) (e:w.alloc o=w'):Hid (OwnS A base a sz w' y rs):=zz (h.out.allocE e)
theorem yD {x:At} {y:Value} (h:Hid (Mem (NwS A w.heap.size) w x y)) (e:w.drew=w'):Hid (Mem (NwS A w'.heap.size) w' x y):=zz (memS_drewE h.out e)
theorem sD {base sz:Nat} {a:TypeId} {y:Value} {rs:List (List At)} (h:Hid (OwnS A base a sz w y rs)) (e:w.drew=w'):Hid (OwnS A base a sz w' y rs):=zz (h.out.drewE e)
theorem kY {x:At} {y:Value} (h:Hid (Mem (NwS A w.heap.size) w x y)) (a:Below w.heap.size w w'):Hid (Mem (NwS A w'.heap.size) w' x y):=zz (memS_keep h.out a)
theorem kS {base sz:Nat} {a:TypeId} {y:Value} {rs:List (List At)} (h:Hid (OwnS A base a sz w y rs)) (b:Below w.heap.size w w'):Hid (OwnS A base a sz w' y rs):=zz (h.out.keep b)
end
end
section
open Go.RowKit
attribute [local go_sem] tk_pos
section
variable {ts:List Tk} {aL:Option Addr} {n cap q:Nat}
def letE (ts:List Tk) (f i d:Nat) (l c:Int):Option Rd1:=
 if (nowT ts i).k≠2 then some (badT ts i) else
 if isT ts (i+1) 5 wFree then
  takeT ts (i+2) 5 wIn (andT (readE ts f .expr (i+3) d) fun x j=>some (.ok (.mk 8 (nowT ts i).s 0 [x] l c) j))
 else takeT ts (i+1) 6 wEq (andT (readE ts f .expr (i+2) d) fun x j=>
  takeT ts j 5 wIn (andT (readE ts f .expr (j+1) d) fun y k=>some (.ok (.mk 7 (nowT ts i).s 0 [x,y] l c) k)))
theorem let_reads {f i U:Nat} {l c:Int} {r:Rd1} (u:letE ts f i U l c=some r) (w:World) (hd:U≤40) (H:AllR ts aL n cap q (f+1)) (C:PS ts aL n cap q i (U:Int) w):
  Calls Tryz.prog 135 #[.pointer (some ⟨q,0,none⟩),.agg #[.int .i64 l,.int .i64 c]] w (Ans ts aL n cap q r U w):=by
 have g:=zz C;have b7:=C.lt;have m:=zz (FarB.refl q w.heap.size w);clear C;go_enter Tryz.func135,Tryz.ntmps135
 go_wp2_with (fail)
 generalize a:World.alloc w _=b1;have ad:=sizeA a;replace g:=pA g a;replace m:=fA m a;have ah:=nB a (w.heap.size);clear a;generalize a:World.alloc b1 _=w1;have ae:=sizeA a;replace g:=pA g a;replace m:=fA m a;replace ah:=bA ah a;have p:=nB a (w.heap.size+1);clear a
 have ba:w1.heap.size=w.heap.size+2:=by omega
 clear ad ae;have pc:=kc2 ah;unfold letE at u
 by_cases hk:(nowT ts i).k=2
 rotate_left
 ·
  rw [if_pos hk] at u;cases u;refine wp_region_held_drew (S:=fun w'=>Far (fun b=>b=q) (w1) w') (by kernel_rfl) (Far.of (below_drew _)) (fun ar=>?_);refine takeA 0 (v:=?_) rfl ?_ ?_;rotate_left
  · (intro w W;replace pc:=Far.c2z pc W (by intro e;have e:_=q:=e;omega);go_simp;try rfl)
  (try simp only [pu]);refine takeA 2 (v:=?_) rfl ?_ ?_;rotate_left
  · (intro w W;replace pc:=Far.c2z pc W (by intro e;have e:_=q:=e;omega);go_simp;try rfl)
  (try simp only [pu]);refine twoL 1 4 rfl rfl (by kernel_rfl) (by rfl) (by rfl) (fun K d=>?_) (fun K d=>?_)
  ·
   go_simp;refine (name_bad _ g.out.drew hk).mono ?_;rintro _ y ⟨rfl,J⟩
   go_wp2_with (fail)
   exact ⟨rfl,rfl,FarB.out (m.out.drew.below J),(g.out.drew.keep J).any⟩
  ·
   go_simp;refine d.out _ _ ?_ (fun aj=>?_);· exact Far.trans (Far.of (below_new _ _)) (Far.of (below_drew _))
   clear d K;clear pc;generalize a:(w1.alloc (.cells #[.int .i64 0,.string ⟨#[]⟩,.int .i64 0,.slice none 0 0,.int .i64 0,.int .i64 0] 60))=al at *;replace g:=pA g a;replace m:=fA m a;clear a;generalize a:(al.drew)=w2 at *;replace g:=pD g a;replace m:=fD m a;clear a;refine callA 1 rfl fun K d=>?_;go_simp;refine (name_bad _ g.out hk).mono ?_;rintro _ y ⟨rfl,J⟩
   go_wp2_with (fail)
   exact ⟨rfl,rfl,FarB.out (m.out.below J),(g.out.keep J).any⟩
 rw [if_neg (fun h=>h hk)] at u;refine wp_region_held_drew (S:=fun w'=>Far (fun b=>b=q) (w1) w') (by kernel_rfl) (Far.of (below_drew _)) (fun ar=>?_);refine takeA 0 (v:=?_) rfl ?_ ?_;rotate_left
 · (intro w W;replace pc:=Far.c2z pc W (by intro e;have e:_=q:=e;omega);go_simp;try rfl)
 (try simp only [pu]);refine takeA 2 (v:=?_) rfl ?_ ?_;rotate_left
 · (intro w W;replace pc:=Far.c2z pc W (by intro e;have e:_=q:=e;omega);go_simp;try rfl)
 (try simp only [pu]);refine twoL 1 4 rfl rfl (by kernel_rfl) (by rfl) (by rfl) (fun K d=>?_) (fun K d=>?_)
 ·
  go_simp;refine (name_ok _ g.out.drew hk).mono ?_;rintro _ a2 ⟨rfl,o,C⟩;have bd:w1.heap.size≤a2.heap.size:=o.size;replace o:FarQ q w1 a2:=(FarQ.of (below_drew _)).trans o;replace p:=qB p o;replace m:=qF m o;replace g:=zz C;clear C;go_simp;refine d.out _ _ ?_ (fun aj=>?_);· exact o
  clear d K;refine takeA 3 (v:=?_) rfl ?_ ?_;rotate_left
  · (intro w W;go_simp;try rfl)
  (try simp only [pu]);refine callA 4 rfl fun K d=>?_;go_simp;refine d.out _ _ ?_ (fun am=>?_);· exact Far.trans aj (Far.of (below_new _ _))
  clear d K;refine callA 5 rfl fun K d=>?_;clear pc;go_simp;refine d.out _ _ ?_ (fun au=>?_);· exact Far.trans aj (Far.of (below_new _ _))
  clear d K;refine wpAnyH_done (by kernel_rfl) ?_ _;generalize a:World.alloc a2 _=w2;have b0:=sizeA a;replace g:=pA g a;replace m:=fA m a;replace p:=bA p a;have t:=nB a (a2.heap.size);clear a;clear ah;have I:=iq_1_0_0 q w a2 w2
  go_wp2_with (fail)
  rcases a8:isT ts (i+1) 5 wFree
  rotate_left
  ·
   simp only [a8,if_true] at u;refine (is_any 5 wFree _ g.out).mono ?_;rintro _ w3 ⟨rfl,J⟩;have o:=FarQ.of (q:=q) J;replace p:=qB p o;replace t:=qB t o;replace m:=qF m o;have aw:=o.size;replace g:=kP g J;clear o J;rw [a8]
   have av:((i:Int)+1)+1≤9223372036854775807:=by have h1:=isT_lt a8 (by decide);have :=g.out.len;omega
   clear I;have qc:=kcP g;have I:=iq_1_0_0 q w a2 w3
   go_wp2_with (fail)
   clear qc;generalize a:World.setCell w3 _ _=w4;have bg:=sizeS1 a;replace g:=zz (g.out.setIE (k:=(i+2)) a (by omega));replace m:=zz (m.out.setQE a);replace p:=bF1 p a;replace t:=bF1 t a;clear a;clear I;have I:=iq_1_0_0 q w a2 w4
   rcases Y:isT ts (i+2) 5 wIn
   ·
    first | simp only [Y,Bool.false_eq_true,if_false] at u | simp only [takeT,Y,Bool.false_eq_true,if_false] at u
    cases u;refine (take_bad 5 wIn _ g.out Y).mono ?_;rintro _ E ⟨rfl,J⟩;have o:=FarQ.of (q:=q) J;have R:=(g.out.keep J).any
    go_wp2_with (fail)
    exact ⟨rfl,rfl,FarB.out (m.out.farq o),R⟩
   first | simp only [Y,if_true] at u | simp only [takeT,Y,if_true] at u
   refine (take_ok 5 wIn _ g.out Y (by decide)).mono ?_;rintro _ E ⟨rfl,o,C⟩;replace p:=qB p o;replace t:=qB t o;replace m:=qF m o;have ao:=o.size;replace g:=zz C;clear o C;clear I;have A:=kc6 t;have I:=iq_1_0_0 q w a2 E
   go_wp2_with (fail)
   refine wp_region_held_drew (S:=fun w'=>Far (fun b=>b=q∨b=a2.heap.size) (E) w') (by kernel_rfl) (Far.of (below_drew _)) (fun a7=>?_);refine takeA 0 (v:=?_) rfl ?_ ?_;rotate_left
   · (intro w W;go_simp;try rfl)
   (try simp only [pu]);refine takeA 2 (v:=?_) rfl ?_ ?_;rotate_left
   · (intro w W;go_simp;try rfl)
   (try simp only [pu])
   rcases T:readE ts f .expr (i+3) U with _ | ⟨y,k⟩ | ⟨l_,c_⟩
   · (rw [T] at u;cases u)
   rotate_left
   ·
    rw [T] at u
    first | simp only at u | simp only [andT] at u
    cases u;refine twoL 1 3 rfl rfl (by kernel_rfl) (by rfl) (by rfl) (fun K d=>?_) (fun K d=>?_)
    ·
     go_simp;refine d.out _ _ ?_ (fun ab=>?_);· exact a7
     clear d K;refine callA 3 rfl fun K d=>?_;go_simp;refine ((H.ex f (Nat.lt_succ_self f)) (i+3) U _ _ hd T g.out.drew).mono ?_;rintro e ag ⟨rfl,o,R⟩
     go_wp2_with (fail)
     exact ⟨rfl,rfl,FarB.out (m.out.drew.farq o),R⟩
    ·
     go_simp;refine ((H.ex f (Nat.lt_succ_self f)) (i+3) U _ _ hd T g.out.drew).mono ?_;rintro e ag ⟨rfl,o,R⟩
     go_wp2_with (fail)
     exact ⟨rfl,rfl,FarB.out (m.out.drew.farq o),R⟩
   rw [T] at u
   first | simp only at u | simp only [andT] at u
   refine twoL 1 3 rfl rfl (by kernel_rfl) (by rfl) (by rfl) (fun K d=>?_) (fun K d=>?_)
   ·
    go_simp;refine d.out _ _ ?_ (fun ab=>?_);· exact a7
    clear d K;refine callA 3 rfl fun K d=>?_;have Q:Hid (OwnD 0 (E.heap.size) 60 6 E (.slice none 0 0) (Ex.rows [])):=zz (OwnD.nil _ _ _ _ _);go_simp;refine ((H.ex f (Nat.lt_succ_self f)) (i+3) U _ _ hd T g.out.drew).mono ?_;rintro e L ⟨ay,my,cy,rfl,o,C,X⟩;have af:E.heap.size≤L.heap.size:=o.size;replace o:FarQ q E L:=(FarQ.of (below_drew _)).trans o;replace p:=qB p o;replace t:=qB t o;replace m:=qF m o;replace g:=zz C;have P:Hid (Mem (Nw 0 E.heap.size _) _ _ _):=zz X;clear C X;simp only [exV];go_simp;refine d.out _ _ ?_ (fun a3=>?_);· exact (Far.mono o (fun b e=>.inl e))
    clear d K;refine callA 4 rfl fun K d=>?_;go_simp;refine d.out _ _ ?_ (fun a0=>?_);· exact Far.trans a3 (Far.of (below_new _ _))
    clear d K;refine callA 5 rfl fun K d=>?_;refine wp_append_D2 _ _ (by rfl) Tryz.underlying58 info_ex rfl (by decide) (by rfl) (by rfl) (OwnD.nil 0 (E.heap.size) 60 6 _) (newRow Q.out (by omega) (by omega) P.out) (by simp only [Ex.rows_len,List.length_cons,List.length_nil];omega) (by simp only [Ex.rows_len,List.length_cons,List.length_nil];omega) (by rw [World.size_alloc];omega) (fun v9 D G z=>?_);obtain ⟨M,O,N,rfl⟩:=G.form';refine d.out _ _ ?_ (fun a1=>?_);· exact Far.trans a0 ((grownFar z).mono (fun b e=>by cases e))
    clear d K
    have aa:L.heap.size+1≤D.heap.size:=by have h:=z.size;rw [World.size_alloc] at h;exact h
    replace g:=rP g z rfl;replace m:=rF m z rfl;replace p:=rB p z rfl;replace t:=rB t z rfl;have B:Hid (OwnD 0 (E.heap.size) 60 6 D (.slice M O N) (Ex.rows [y])):=zz (by rw [show ([y]:List Ex)=[]++[y] from rfl,Ex.rows_app];exact G);clear G z P Q;refine takeA 6 (v:=?_) rfl ?_ ?_;rotate_left
    · (intro w W;go_simp;try rfl)
    (try simp only [pu]);refine callA 7 rfl fun K d=>?_;clear A;clear I;have A:=kc6 t;have I:=iq_1_0_0 q w a2 D;go_simp;refine d.out _ _ ?_ (fun a4=>?_);· exact Far.setCell a1 (.inr rfl) _
    clear d K;refine wpAnyH_done (by kernel_rfl) ?_ _;clear A;generalize a:World.setCell D _ _=F;replace g:=pO1 g a;replace m:=fN1 m a;replace p:=bF1 p a;replace t:=s6_3 t a;replace B:=oS1 B a;clear a;clear I;have rc:=kc6 p;have A:=kc6 t
    go_wp2_with (fail)
    clear rc A;generalize a:World.setCell _ ⟨(w.heap.size+1),5,none⟩ _=w7;replace g:=pO6 g a;replace m:=fN6 m a;replace p:=bS6 p a;replace B:=oS6 B a;clear a;cases u;have Z:=kc6 p;refine bodyPost_ret (v:=.agg #[.int .i64 8,.string (nowT ts i).s,.int .i64 0,.slice M O N,.int .i64 l,.int .i64 c]) (by clear g m p t B;simp [results,Tryz.results135,go_sem,Z]) rfl ?_;exact ⟨_,_,_,rfl,m.out.out,g.out,memNw B.out.mem (by omega)⟩
   ·
    have Q:Hid (OwnD 0 (E.heap.size) 60 6 E (.slice none 0 0) (Ex.rows [])):=zz (OwnD.nil _ _ _ _ _);go_simp;refine ((H.ex f (Nat.lt_succ_self f)) (i+3) U _ _ hd T g.out.drew).mono ?_;rintro e L ⟨ay,my,cy,rfl,o,C,X⟩;have af:E.heap.size≤L.heap.size:=o.size;replace o:FarQ q E L:=(FarQ.of (below_drew _)).trans o;replace p:=qB p o;replace t:=qB t o;replace m:=qF m o;replace g:=zz C;have P:Hid (Mem (Nw 0 E.heap.size _) _ _ _):=zz X;clear C X;simp only [exV];go_simp;refine d.out _ _ ?_ (fun a3=>?_);· exact (Far.mono o (fun b e=>.inl e))
    clear d K;refine twoL 1 4 rfl rfl (by kernel_rfl) (by rfl) (by rfl) (fun K d=>?_) (fun K d=>?_)
    ·
     clear A;clear I;have A:=kc6 t;go_simp;refine d.out _ _ ?_ (fun a0=>?_);· exact a3
     clear d K;refine callA 4 rfl fun K d=>?_;go_simp;refine d.out _ _ ?_ (fun a1=>?_);· exact Far.trans a0 (Far.of (below_new _ _))
     clear d K;refine callA 5 rfl fun K d=>?_;refine wp_append_D2 _ _ (by rfl) Tryz.underlying58 info_ex rfl (by decide) (by rfl) (by rfl) (OwnD.nil 0 (E.heap.size) 60 6 _) (newRow Q.out (by omega) (by omega) P.out) (by simp only [Ex.rows_len,List.length_cons,List.length_nil];omega) (by simp only [Ex.rows_len,List.length_cons,List.length_nil];omega) (by rw [World.size_alloc];omega) (fun v9 D G z=>?_);obtain ⟨M,O,N,rfl⟩:=G.form';refine d.out _ _ ?_ (fun a4=>?_);· exact Far.trans a1 ((grownFar z).mono (fun b e=>by cases e))
     clear d K
     have aa:L.heap.size+1≤D.heap.size:=by have h:=z.size;rw [World.size_alloc] at h;exact h
     replace g:=rP g z rfl;replace m:=rF m z rfl;replace p:=rB p z rfl;replace t:=rB t z rfl;have B:Hid (OwnD 0 (E.heap.size) 60 6 D (.slice M O N) (Ex.rows [y])):=zz (by rw [show ([y]:List Ex)=[]++[y] from rfl,Ex.rows_app];exact G);clear G z P Q;refine takeA 6 (v:=?_) rfl ?_ ?_;rotate_left
     · (intro w W;go_simp;try rfl)
     (try simp only [pu]);refine callA 7 rfl fun K d=>?_;clear A;have A:=kc6 t;have I:=iq_1_0_0 q w a2 D;go_simp;refine d.out _ _ ?_ (fun ac=>?_);· exact Far.setCell a4 (.inr rfl) _
     clear d K;refine wpAnyH_done (by kernel_rfl) ?_ _;clear A;generalize a:World.setCell D _ _=F;replace g:=pO1 g a;replace m:=fN1 m a;replace p:=bF1 p a;replace t:=s6_3 t a;replace B:=oS1 B a;clear a;clear I;have rc:=kc6 p;have A:=kc6 t
     go_wp2_with (fail)
     clear rc A;generalize a:World.setCell _ ⟨(w.heap.size+1),5,none⟩ _=w7;replace g:=pO6 g a;replace m:=fN6 m a;replace p:=bS6 p a;replace B:=oS6 B a;clear a;cases u;have Z:=kc6 p;refine bodyPost_ret (v:=.agg #[.int .i64 8,.string (nowT ts i).s,.int .i64 0,.slice M O N,.int .i64 l,.int .i64 c]) (by clear g m p t B;simp [results,Tryz.results135,go_sem,Z]) rfl ?_;exact ⟨_,_,_,rfl,m.out.out,g.out,memNw B.out.mem (by omega)⟩
    ·
     go_simp;refine d.out _ _ ?_ (fun a0=>?_);· exact Far.trans a3 (Far.of (below_new _ _))
     clear d K;clear A;clear I;have A:=kc6 t;have I:=iq_1_0_0 q w a2 L;refine callA 1 rfl fun K d=>?_;go_simp;refine d.out _ _ ?_ (fun a1=>?_);· exact a0
     clear d K;refine callA 5 rfl fun K d=>?_;refine wp_append_D2 _ _ (by rfl) Tryz.underlying58 info_ex rfl (by decide) (by rfl) (by rfl) (OwnD.nil 0 (E.heap.size) 60 6 _) (newRow Q.out (by omega) (by omega) P.out) (by simp only [Ex.rows_len,List.length_cons,List.length_nil];omega) (by simp only [Ex.rows_len,List.length_cons,List.length_nil];omega) (by rw [World.size_alloc];omega) (fun v9 D G z=>?_);obtain ⟨M,O,N,rfl⟩:=G.form';refine d.out _ _ ?_ (fun a4=>?_);· exact Far.trans a1 ((grownFar z).mono (fun b e=>by cases e))
     clear d K
     have aa:L.heap.size+1≤D.heap.size:=by have h:=z.size;rw [World.size_alloc] at h;exact h
     replace g:=rP g z rfl;replace m:=rF m z rfl;replace p:=rB p z rfl;replace t:=rB t z rfl;have B:Hid (OwnD 0 (E.heap.size) 60 6 D (.slice M O N) (Ex.rows [y])):=zz (by rw [show ([y]:List Ex)=[]++[y] from rfl,Ex.rows_app];exact G);clear G z P Q;refine takeA 6 (v:=?_) rfl ?_ ?_;rotate_left
     · (intro w W;go_simp;try rfl)
     (try simp only [pu]);refine callA 7 rfl fun K d=>?_;clear A;clear I;have A:=kc6 t;have I:=iq_1_0_0 q w a2 D;go_simp;refine d.out _ _ ?_ (fun ac=>?_);· exact Far.setCell a4 (.inr rfl) _
     clear d K;refine wpAnyH_done (by kernel_rfl) ?_ _;clear A;generalize a:World.setCell D _ _=F;replace g:=pO1 g a;replace m:=fN1 m a;replace p:=bF1 p a;replace t:=s6_3 t a;replace B:=oS1 B a;clear a;clear I;have rc:=kc6 p;have A:=kc6 t
     go_wp2_with (fail)
     clear rc A;generalize a:World.setCell _ ⟨(w.heap.size+1),5,none⟩ _=w7;replace g:=pO6 g a;replace m:=fN6 m a;replace p:=bS6 p a;replace B:=oS6 B a;clear a;cases u;have Z:=kc6 p;refine bodyPost_ret (v:=.agg #[.int .i64 8,.string (nowT ts i).s,.int .i64 0,.slice M O N,.int .i64 l,.int .i64 c]) (by clear g m p t B;simp [results,Tryz.results135,go_sem,Z]) rfl ?_;exact ⟨_,_,_,rfl,m.out.out,g.out,memNw B.out.mem (by omega)⟩
  simp only [a8,Bool.false_eq_true,if_false] at u;refine (is_any 5 wFree _ g.out).mono ?_;rintro _ w3 ⟨rfl,J⟩;have o:=FarQ.of (q:=q) J;replace p:=qB p o;replace t:=qB t o;replace m:=qF m o;have aw:=o.size;replace g:=kP g J;clear o J;rw [a8];clear I;have I:=iq_1_0_0 q w a2 w3
  go_wp2_with (fail)
  rcases a5:isT ts (i+1) 6 wEq
  ·
   first | simp only [a5,Bool.false_eq_true,if_false] at u | simp only [takeT,a5,Bool.false_eq_true,if_false] at u
   cases u;refine (take_bad 6 wEq _ g.out a5).mono ?_;rintro _ w4 ⟨rfl,J⟩;have o:=FarQ.of (q:=q) J;have R:=(g.out.keep J).any
   go_wp2_with (fail)
   exact ⟨rfl,rfl,FarB.out (m.out.farq o),R⟩
  first | simp only [a5,if_true] at u | simp only [takeT,a5,if_true] at u
  refine (take_ok 6 wEq _ g.out a5 (by decide)).mono ?_;rintro _ w4 ⟨rfl,o,C⟩;replace p:=qB p o;replace t:=qB t o;replace m:=qF m o;have an:=o.size;replace g:=zz C;clear o C;clear I;have I:=iq_1_0_0 q w a2 w4
  go_wp2_with (fail)
  rcases hx:readE ts f .expr (i+2) U with _ | ⟨x,j⟩ | ⟨l_,c_⟩
  · (rw [hx] at u;cases u)
  rotate_left
  ·
   rw [hx] at u
   first | simp only at u | simp only [andT] at u
   cases u;refine ((H.ex f (Nat.lt_succ_self f)) (i+2) U _ _ hd hx g.out).mono ?_;rintro _ E ⟨rfl,o,R⟩
   go_wp2_with (fail)
   exact ⟨rfl,rfl,FarB.out (m.out.farq o),R⟩
  rw [hx] at u
  first | simp only at u | simp only [andT] at u
  refine ((H.ex f (Nat.lt_succ_self f)) (i+2) U _ _ hd hx g.out).mono ?_;rintro _ E ⟨ax,mx,cx,rfl,o,C,X⟩;replace p:=qB p o;replace t:=qB t o;replace m:=qF m o;have ao:=o.size;replace g:=zz C;have a6:=zz X;clear o C X;simp only [exV];clear I;have A:=kc6 t;have I:=iq_1_0_0 q w a2 E
  go_wp2_with (fail)
  clear A;generalize a:World.setCell E _ _=b2;have ad:=sizeS1 a;replace g:=pO1 g a;replace m:=fN1 m a;replace p:=bF1 p a;replace t:=s6_0 t a;replace a6:=mS1 a6 a;clear a;generalize a:World.setCell b2 _ _=b3;have ae:=sizeS1 a;replace g:=pO1 g a;replace m:=fN1 m a;replace p:=bF1 p a;replace t:=s6_3 t a;replace a6:=mS1 a6 a;clear a;generalize a:World.alloc b3 _=F;have ak:=sizeA a;have ai:=zz (builtE1E (base:=w4.heap.size) (memNw a6.out (by omega)) a (b:=E.heap.size) (by omega) (by omega));replace g:=pA g a;replace m:=fA m a;replace p:=bA p a;replace t:=bA t a;have V:=ai;clear ai;clear a
  have bb:F.heap.size=E.heap.size+1:=by omega
  clear ad ae ak;clear I;have I:=iq_1_0_0 q w a2 F
  rcases Y:isT ts j 5 wIn
  ·
   first | simp only [Y,Bool.false_eq_true,if_false] at u | simp only [takeT,Y,Bool.false_eq_true,if_false] at u
   cases u;refine (take_bad 5 wIn _ g.out Y).mono ?_;rintro _ w7 ⟨rfl,J⟩;have o:=FarQ.of (q:=q) J;have R:=(g.out.keep J).any
   go_wp2_with (fail)
   exact ⟨rfl,rfl,FarB.out (m.out.farq o),R⟩
  first | simp only [Y,if_true] at u | simp only [takeT,Y,if_true] at u
  refine (take_ok 5 wIn _ g.out Y (by decide)).mono ?_;rintro _ w7 ⟨rfl,o,C⟩;replace p:=qB p o;replace t:=qB t o;replace V:=qO V o;replace m:=qF m o;have b8:=o.size;replace g:=zz C;clear o C;clear I;have A:=kc6 t;have I:=iq_1_0_0 q w a2 w7
  go_wp2_with (fail)
  refine wp_region_held_drew (S:=fun w'=>Far (fun b=>b=q∨b=a2.heap.size∨b=E.heap.size) (w7) w') (by kernel_rfl) (Far.of (below_drew _)) (fun a7=>?_);refine takeA 0 (v:=?_) rfl ?_ ?_;rotate_left
  · (intro w W;go_simp;try rfl)
  (try simp only [pu]);refine takeA 2 (v:=?_) rfl ?_ ?_;rotate_left
  · (intro w W;go_simp;try rfl)
  (try simp only [pu])
  rcases T:readE ts f .expr (j+1) U with _ | ⟨y,k⟩ | ⟨l_,c_⟩
  · (rw [T] at u;cases u)
  rotate_left
  ·
   rw [T] at u
   first | simp only at u | simp only [andT] at u
   cases u;refine twoL 1 3 rfl rfl (by kernel_rfl) (by rfl) (by rfl) (fun K d=>?_) (fun K d=>?_)
   ·
    go_simp;refine d.out _ _ ?_ (fun ab=>?_);· exact a7
    clear d K;refine callA 3 rfl fun K d=>?_;go_simp;refine ((H.ex f (Nat.lt_succ_self f)) (j+1) U _ _ hd T g.out.drew).mono ?_;rintro e ag ⟨rfl,o,R⟩
    go_wp2_with (fail)
    exact ⟨rfl,rfl,FarB.out (m.out.drew.farq o),R⟩
   ·
    go_simp;refine ((H.ex f (Nat.lt_succ_self f)) (j+1) U _ _ hd T g.out.drew).mono ?_;rintro e ag ⟨rfl,o,R⟩
    go_wp2_with (fail)
    exact ⟨rfl,rfl,FarB.out (m.out.drew.farq o),R⟩
  rw [T] at u
  first | simp only at u | simp only [andT] at u
  refine twoL 1 3 rfl rfl (by kernel_rfl) (by rfl) (by rfl) (fun K d=>?_) (fun K d=>?_)
  ·
   go_simp;refine d.out _ _ ?_ (fun ab=>?_);· exact a7
   clear d K;refine callA 3 rfl fun K d=>?_;have Q:Hid (OwnD 0 (w4.heap.size) 60 6 w7 (.slice (some ⟨E.heap.size,0,none⟩) 1 1) (Ex.rows [x])):=V;go_simp;refine ((H.ex f (Nat.lt_succ_self f)) (j+1) U _ _ hd T g.out.drew).mono ?_;rintro e L ⟨ay,my,cy,rfl,o,C,X⟩;have af:w7.heap.size≤L.heap.size:=o.size;replace o:FarQ q w7 L:=(FarQ.of (below_drew _)).trans o;replace p:=qB p o;replace t:=qB t o;replace V:=qO V o;replace m:=qF m o;replace g:=zz C;have P:Hid (Mem (Nw 0 w7.heap.size _) _ _ _):=zz X;clear C X;simp only [exV];go_simp;refine d.out _ _ ?_ (fun a3=>?_);· exact (Far.mono o (fun b e=>.inl e))
   clear d K;refine callA 4 rfl fun K d=>?_;go_simp;refine d.out _ _ ?_ (fun a0=>?_);· exact Far.trans a3 (Far.of (below_new _ _))
   clear d K;refine callA 5 rfl fun K d=>?_;refine wp_append_D2 _ _ (by rfl) Tryz.underlying58 info_ex rfl (by decide) (by rfl) (by rfl) (V.out.alloc _) (newRow Q.out (by omega) (by omega) P.out) (by simp only [Ex.rows_len,List.length_cons,List.length_nil];omega) (by simp only [Ex.rows_len,List.length_cons,List.length_nil];omega) (by rw [World.size_alloc];omega) (fun v9 D G z=>?_);obtain ⟨M,O,N,rfl⟩:=G.form';refine d.out _ _ ?_ (fun a1=>?_);· exact Far.trans a0 ((grownFar z).mono (fun b e=>.inr (.inr (by have e:some (E.heap.size)=some b:=e;cases e;rfl))))
   clear d K
   have aa:L.heap.size+1≤D.heap.size:=by have h:=z.size;rw [World.size_alloc] at h;exact h
   replace g:=gP E.heap.size g z rfl;replace m:=gF E.heap.size m z rfl;replace p:=gB E.heap.size p z rfl;replace t:=gB E.heap.size t z rfl;have B:Hid (OwnD 0 (w4.heap.size) 60 6 D (.slice M O N) (Ex.rows [x,y])):=zz (by rw [show ([x,y]:List Ex)=[x]++[y] from rfl,Ex.rows_app];exact G);clear G z P Q V;refine takeA 6 (v:=?_) rfl ?_ ?_;rotate_left
   · (intro w W;go_simp;try rfl)
   (try simp only [pu]);refine callA 7 rfl fun K d=>?_;clear A;clear I;have A:=kc6 t;have I:=iq_1_0_0 q w a2 D;go_simp;refine d.out _ _ ?_ (fun a4=>?_);· exact Far.setCell a1 (.inr (.inl rfl)) _
   clear d K;refine wpAnyH_done (by kernel_rfl) ?_ _;clear A;generalize a:World.setCell D _ _=w8;replace g:=pO1 g a;replace m:=fN1 m a;replace p:=bF1 p a;replace t:=s6_3 t a;replace B:=oS1 B a;clear a;clear I;have rc:=kc6 p;have A:=kc6 t
   go_wp2_with (fail)
   clear rc A;generalize a:World.setCell _ ⟨(w.heap.size+1),5,none⟩ _=D;replace g:=pO6 g a;replace m:=fN6 m a;replace p:=bS6 p a;replace B:=oS6 B a;clear a;cases u;have Z:=kc6 p;refine bodyPost_ret (v:=.agg #[.int .i64 7,.string (nowT ts i).s,.int .i64 0,.slice M O N,.int .i64 l,.int .i64 c]) (by clear g m p t B;simp [results,Tryz.results135,go_sem,Z]) rfl ?_;exact ⟨_,_,_,rfl,m.out.out,g.out,memNw B.out.mem (by omega)⟩
  ·
   have Q:Hid (OwnD 0 (w4.heap.size) 60 6 w7 (.slice (some ⟨E.heap.size,0,none⟩) 1 1) (Ex.rows [x])):=V;go_simp;refine ((H.ex f (Nat.lt_succ_self f)) (j+1) U _ _ hd T g.out.drew).mono ?_;rintro e L ⟨ay,my,cy,rfl,o,C,X⟩;have af:w7.heap.size≤L.heap.size:=o.size;replace o:FarQ q w7 L:=(FarQ.of (below_drew _)).trans o;replace p:=qB p o;replace t:=qB t o;replace V:=qO V o;replace m:=qF m o;replace g:=zz C;have P:Hid (Mem (Nw 0 w7.heap.size _) _ _ _):=zz X;clear C X;simp only [exV];go_simp;refine d.out _ _ ?_ (fun a3=>?_);· exact (Far.mono o (fun b e=>.inl e))
   clear d K;refine twoL 1 4 rfl rfl (by kernel_rfl) (by rfl) (by rfl) (fun K d=>?_) (fun K d=>?_)
   ·
    clear A;clear I;have A:=kc6 t;go_simp;refine d.out _ _ ?_ (fun a0=>?_);· exact a3
    clear d K;refine callA 4 rfl fun K d=>?_;go_simp;refine d.out _ _ ?_ (fun a1=>?_);· exact Far.trans a0 (Far.of (below_new _ _))
    clear d K;refine callA 5 rfl fun K d=>?_;refine wp_append_D2 _ _ (by rfl) Tryz.underlying58 info_ex rfl (by decide) (by rfl) (by rfl) (V.out.alloc _) (newRow Q.out (by omega) (by omega) P.out) (by simp only [Ex.rows_len,List.length_cons,List.length_nil];omega) (by simp only [Ex.rows_len,List.length_cons,List.length_nil];omega) (by rw [World.size_alloc];omega) (fun v9 D G z=>?_);obtain ⟨M,O,N,rfl⟩:=G.form';refine d.out _ _ ?_ (fun a4=>?_);· exact Far.trans a1 ((grownFar z).mono (fun b e=>.inr (.inr (by have e:some (E.heap.size)=some b:=e;cases e;rfl))))
    clear d K
    have aa:L.heap.size+1≤D.heap.size:=by have h:=z.size;rw [World.size_alloc] at h;exact h
    replace g:=gP E.heap.size g z rfl;replace m:=gF E.heap.size m z rfl;replace p:=gB E.heap.size p z rfl;replace t:=gB E.heap.size t z rfl;have B:Hid (OwnD 0 (w4.heap.size) 60 6 D (.slice M O N) (Ex.rows [x,y])):=zz (by rw [show ([x,y]:List Ex)=[x]++[y] from rfl,Ex.rows_app];exact G);clear G z P Q V;refine takeA 6 (v:=?_) rfl ?_ ?_;rotate_left
    · (intro w W;go_simp;try rfl)
    (try simp only [pu]);refine callA 7 rfl fun K d=>?_;clear A;have A:=kc6 t;have I:=iq_1_0_0 q w a2 D;go_simp;refine d.out _ _ ?_ (fun ac=>?_);· exact Far.setCell a4 (.inr (.inl rfl)) _
    clear d K;refine wpAnyH_done (by kernel_rfl) ?_ _;clear A;generalize a:World.setCell D _ _=w8;replace g:=pO1 g a;replace m:=fN1 m a;replace p:=bF1 p a;replace t:=s6_3 t a;replace B:=oS1 B a;clear a;clear I;have rc:=kc6 p;have A:=kc6 t
    go_wp2_with (fail)
    clear rc A;generalize a:World.setCell _ ⟨(w.heap.size+1),5,none⟩ _=D;replace g:=pO6 g a;replace m:=fN6 m a;replace p:=bS6 p a;replace B:=oS6 B a;clear a;cases u;have Z:=kc6 p;refine bodyPost_ret (v:=.agg #[.int .i64 7,.string (nowT ts i).s,.int .i64 0,.slice M O N,.int .i64 l,.int .i64 c]) (by clear g m p t B;simp [results,Tryz.results135,go_sem,Z]) rfl ?_;exact ⟨_,_,_,rfl,m.out.out,g.out,memNw B.out.mem (by omega)⟩
   ·
    go_simp;refine d.out _ _ ?_ (fun a0=>?_);· exact Far.trans a3 (Far.of (below_new _ _))
    clear d K;clear A;clear I;have A:=kc6 t;have I:=iq_1_0_0 q w a2 L;refine callA 1 rfl fun K d=>?_;go_simp;refine d.out _ _ ?_ (fun a1=>?_);· exact a0
    clear d K;refine callA 5 rfl fun K d=>?_;refine wp_append_D2 _ _ (by rfl) Tryz.underlying58 info_ex rfl (by decide) (by rfl) (by rfl) (V.out.alloc _) (newRow Q.out (by omega) (by omega) P.out) (by simp only [Ex.rows_len,List.length_cons,List.length_nil];omega) (by simp only [Ex.rows_len,List.length_cons,List.length_nil];omega) (by rw [World.size_alloc];omega) (fun v9 D G z=>?_);obtain ⟨M,O,N,rfl⟩:=G.form';refine d.out _ _ ?_ (fun a4=>?_);· exact Far.trans a1 ((grownFar z).mono (fun b e=>.inr (.inr (by have e:some (E.heap.size)=some b:=e;cases e;rfl))))
    clear d K
    have aa:L.heap.size+1≤D.heap.size:=by have h:=z.size;rw [World.size_alloc] at h;exact h
    replace g:=gP E.heap.size g z rfl;replace m:=gF E.heap.size m z rfl;replace p:=gB E.heap.size p z rfl;replace t:=gB E.heap.size t z rfl;have B:Hid (OwnD 0 (w4.heap.size) 60 6 D (.slice M O N) (Ex.rows [x,y])):=zz (by rw [show ([x,y]:List Ex)=[x]++[y] from rfl,Ex.rows_app];exact G);clear G z P Q V;refine takeA 6 (v:=?_) rfl ?_ ?_;rotate_left
    · (intro w W;go_simp;try rfl)
    (try simp only [pu]);refine callA 7 rfl fun K d=>?_;clear A;clear I;have A:=kc6 t;have I:=iq_1_0_0 q w a2 D;go_simp;refine d.out _ _ ?_ (fun ac=>?_);· exact Far.setCell a4 (.inr (.inl rfl)) _
    clear d K;refine wpAnyH_done (by kernel_rfl) ?_ _;clear A;generalize a:World.setCell D _ _=w8;replace g:=pO1 g a;replace m:=fN1 m a;replace p:=bF1 p a;replace t:=s6_3 t a;replace B:=oS1 B a;clear a;clear I;have rc:=kc6 p;have A:=kc6 t
    go_wp2_with (fail)
    clear rc A;generalize a:World.setCell _ ⟨(w.heap.size+1),5,none⟩ _=D;replace g:=pO6 g a;replace m:=fN6 m a;replace p:=bS6 p a;replace B:=oS6 B a;clear a;cases u;have Z:=kc6 p;refine bodyPost_ret (v:=.agg #[.int .i64 7,.string (nowT ts i).s,.int .i64 0,.slice M O N,.int .i64 l,.int .i64 c]) (by clear g m p t B;simp [results,Tryz.results135,go_sem,Z]) rfl ?_;exact ⟨_,_,_,rfl,m.out.out,g.out,memNw B.out.mem (by omega)⟩
 ·
  go_simp;refine d.out _ _ ?_ (fun aj=>?_);· exact Far.trans (Far.of (below_new _ _)) (Far.of (below_drew _))
  clear d K;clear pc;generalize a:(w1.alloc (.cells #[.int .i64 0,.string ⟨#[]⟩,.int .i64 0,.slice none 0 0,.int .i64 0,.int .i64 0] 60))=al at *;have ad:=sizeA a;replace g:=pA g a;replace m:=fA m a;replace p:=bA p a;have t:=nB a (w.heap.size+2);clear a;generalize a:(al.drew)=w2 at *;have ae:=sizeD a;replace g:=pD g a;replace m:=fD m a;replace p:=bD p a;replace t:=bD t a;clear a
  have b0:w2.heap.size=w.heap.size+3:=by omega
  clear ad ae;refine callA 1 rfl fun K d=>?_;go_simp;refine (name_ok _ g.out hk).mono ?_;rintro _ b6 ⟨rfl,o,C⟩;have be:w2.heap.size≤b6.heap.size:=o.size;replace p:=qB p o;replace t:=qB t o;replace m:=qF m o;replace g:=zz C;clear C;go_simp;refine d.out _ _ ?_ (fun am=>?_);· exact Far.trans aj o
  clear d K;refine takeA 3 (v:=?_) rfl ?_ ?_;rotate_left
  · (intro w W;go_simp;try rfl)
  (try simp only [pu]);refine callA 5 rfl fun K d=>?_;have A:=kc6 t;go_simp;refine d.out _ _ ?_ (fun au=>?_);· exact (by repeat' (first | with_reducible exact am | with_reducible refine Far.setNew ?_ (by omega) _ _))
  clear d K;refine wpAnyH_done (by kernel_rfl) ?_ _;clear A;generalize a:World.setCell _ ⟨(w.heap.size+2),5,none⟩ _=w3;have bf:=sizeS6 a;replace g:=pO6 g a;replace m:=fN6 m a;replace p:=bF6 p a;replace t:=bS6 t a;clear a;clear ah
  go_wp2_with (fail)
  rcases a8:isT ts (i+1) 5 wFree
  rotate_left
  ·
   simp only [a8,if_true] at u;refine (is_any 5 wFree _ g.out).mono ?_;rintro _ w4 ⟨rfl,J⟩;have o:=FarQ.of (q:=q) J;replace p:=qB p o;replace t:=qB t o;replace m:=qF m o;have an:=o.size;replace g:=kP g J;clear o J;rw [a8]
   have av:((i:Int)+1)+1≤9223372036854775807:=by have h1:=isT_lt a8 (by decide);have :=g.out.len;omega
   have qc:=kcP g
   go_wp2_with (fail)
   clear qc;generalize a:World.setCell w4 _ _=E;have bh:=sizeS1 a;replace g:=zz (g.out.setIE (k:=(i+2)) a (by omega));replace m:=zz (m.out.setQE a);replace p:=bF1 p a;replace t:=bF1 t a;clear a
   rcases Y:isT ts (i+2) 5 wIn
   ·
    first | simp only [Y,Bool.false_eq_true,if_false] at u | simp only [takeT,Y,Bool.false_eq_true,if_false] at u
    cases u;refine (take_bad 5 wIn _ g.out Y).mono ?_;rintro _ F ⟨rfl,J⟩;have o:=FarQ.of (q:=q) J;have R:=(g.out.keep J).any
    go_wp2_with (fail)
    exact ⟨rfl,rfl,FarB.out (m.out.farq o),R⟩
   first | simp only [Y,if_true] at u | simp only [takeT,Y,if_true] at u
   refine (take_ok 5 wIn _ g.out Y (by decide)).mono ?_;rintro _ F ⟨rfl,o,C⟩;replace p:=qB p o;replace t:=qB t o;replace m:=qF m o;have az:=o.size;replace g:=zz C;clear o C;have A:=kc6 t
   go_wp2_with (fail)
   refine wp_region_held_drew (S:=fun w'=>Far (fun b=>b=q∨b=(w.heap.size+2)) (F) w') (by kernel_rfl) (Far.of (below_drew _)) (fun a7=>?_);refine takeA 0 (v:=?_) rfl ?_ ?_;rotate_left
   · (intro w W;go_simp;try rfl)
   (try simp only [pu]);refine takeA 2 (v:=?_) rfl ?_ ?_;rotate_left
   · (intro w W;go_simp;try rfl)
   (try simp only [pu])
   rcases T:readE ts f .expr (i+3) U with _ | ⟨y,k⟩ | ⟨l_,c_⟩
   · (rw [T] at u;cases u)
   rotate_left
   ·
    rw [T] at u
    first | simp only at u | simp only [andT] at u
    cases u;refine twoL 1 3 rfl rfl (by kernel_rfl) (by rfl) (by rfl) (fun K d=>?_) (fun K d=>?_)
    ·
     go_simp;refine d.out _ _ ?_ (fun ab=>?_);· exact a7
     clear d K;refine callA 3 rfl fun K d=>?_;go_simp;refine ((H.ex f (Nat.lt_succ_self f)) (i+3) U _ _ hd T g.out.drew).mono ?_;rintro e ag ⟨rfl,o,R⟩
     go_wp2_with (fail)
     exact ⟨rfl,rfl,FarB.out (m.out.drew.farq o),R⟩
    ·
     go_simp;refine ((H.ex f (Nat.lt_succ_self f)) (i+3) U _ _ hd T g.out.drew).mono ?_;rintro e ag ⟨rfl,o,R⟩
     go_wp2_with (fail)
     exact ⟨rfl,rfl,FarB.out (m.out.drew.farq o),R⟩
   rw [T] at u
   first | simp only at u | simp only [andT] at u
   refine twoL 1 3 rfl rfl (by kernel_rfl) (by rfl) (by rfl) (fun K d=>?_) (fun K d=>?_)
   ·
    go_simp;refine d.out _ _ ?_ (fun ab=>?_);· exact a7
    clear d K;refine callA 3 rfl fun K d=>?_;have Q:Hid (OwnD 0 (F.heap.size) 60 6 F (.slice none 0 0) (Ex.rows [])):=zz (OwnD.nil _ _ _ _ _);go_simp;refine ((H.ex f (Nat.lt_succ_self f)) (i+3) U _ _ hd T g.out.drew).mono ?_;rintro e L ⟨ay,my,cy,rfl,o,C,X⟩;have af:F.heap.size≤L.heap.size:=o.size;replace o:FarQ q F L:=(FarQ.of (below_drew _)).trans o;replace p:=qB p o;replace t:=qB t o;replace m:=qF m o;replace g:=zz C;have P:Hid (Mem (Nw 0 F.heap.size _) _ _ _):=zz X;clear C X;simp only [exV];go_simp;refine d.out _ _ ?_ (fun a3=>?_);· exact (Far.mono o (fun b e=>.inl e))
    clear d K;refine callA 4 rfl fun K d=>?_;go_simp;refine d.out _ _ ?_ (fun a0=>?_);· exact Far.trans a3 (Far.of (below_new _ _))
    clear d K;refine callA 5 rfl fun K d=>?_;refine wp_append_D2 _ _ (by rfl) Tryz.underlying58 info_ex rfl (by decide) (by rfl) (by rfl) (OwnD.nil 0 (F.heap.size) 60 6 _) (newRow Q.out (by omega) (by omega) P.out) (by simp only [Ex.rows_len,List.length_cons,List.length_nil];omega) (by simp only [Ex.rows_len,List.length_cons,List.length_nil];omega) (by rw [World.size_alloc];omega) (fun v9 D G z=>?_);obtain ⟨M,O,N,rfl⟩:=G.form';refine d.out _ _ ?_ (fun a1=>?_);· exact Far.trans a0 ((grownFar z).mono (fun b e=>by cases e))
    clear d K
    have aa:L.heap.size+1≤D.heap.size:=by have h:=z.size;rw [World.size_alloc] at h;exact h
    replace g:=rP g z rfl;replace m:=rF m z rfl;replace p:=rB p z rfl;replace t:=rB t z rfl;have B:Hid (OwnD 0 (F.heap.size) 60 6 D (.slice M O N) (Ex.rows [y])):=zz (by rw [show ([y]:List Ex)=[]++[y] from rfl,Ex.rows_app];exact G);clear G z P Q;refine takeA 6 (v:=?_) rfl ?_ ?_;rotate_left
    · (intro w W;go_simp;try rfl)
    (try simp only [pu]);refine callA 7 rfl fun K d=>?_;clear A;have A:=kc6 t;go_simp;refine d.out _ _ ?_ (fun a4=>?_);· exact Far.setCell a1 (.inr rfl) _
    clear d K;refine wpAnyH_done (by kernel_rfl) ?_ _;clear A;generalize a:World.setCell D _ _=w7;replace g:=pO1 g a;replace m:=fN1 m a;replace p:=bF1 p a;replace t:=s6_3 t a;replace B:=oS1 B a;clear a;have rc:=kc6 p;have A:=kc6 t
    go_wp2_with (fail)
    clear rc A;generalize a:World.setCell _ ⟨(w.heap.size+1),5,none⟩ _=w8;replace g:=pO6 g a;replace m:=fN6 m a;replace p:=bS6 p a;replace B:=oS6 B a;clear a;cases u;have Z:=kc6 p;refine bodyPost_ret (v:=.agg #[.int .i64 8,.string (nowT ts i).s,.int .i64 0,.slice M O N,.int .i64 l,.int .i64 c]) (by clear g m p t B;simp [results,Tryz.results135,go_sem,Z]) rfl ?_;exact ⟨_,_,_,rfl,m.out.out,g.out,memNw B.out.mem (by omega)⟩
   ·
    have Q:Hid (OwnD 0 (F.heap.size) 60 6 F (.slice none 0 0) (Ex.rows [])):=zz (OwnD.nil _ _ _ _ _);go_simp;refine ((H.ex f (Nat.lt_succ_self f)) (i+3) U _ _ hd T g.out.drew).mono ?_;rintro e L ⟨ay,my,cy,rfl,o,C,X⟩;have af:F.heap.size≤L.heap.size:=o.size;replace o:FarQ q F L:=(FarQ.of (below_drew _)).trans o;replace p:=qB p o;replace t:=qB t o;replace m:=qF m o;replace g:=zz C;have P:Hid (Mem (Nw 0 F.heap.size _) _ _ _):=zz X;clear C X;simp only [exV];go_simp;refine d.out _ _ ?_ (fun a3=>?_);· exact (Far.mono o (fun b e=>.inl e))
    clear d K;refine twoL 1 4 rfl rfl (by kernel_rfl) (by rfl) (by rfl) (fun K d=>?_) (fun K d=>?_)
    ·
     clear A;have A:=kc6 t;go_simp;refine d.out _ _ ?_ (fun a0=>?_);· exact a3
     clear d K;refine callA 4 rfl fun K d=>?_;go_simp;refine d.out _ _ ?_ (fun a1=>?_);· exact Far.trans a0 (Far.of (below_new _ _))
     clear d K;refine callA 5 rfl fun K d=>?_;refine wp_append_D2 _ _ (by rfl) Tryz.underlying58 info_ex rfl (by decide) (by rfl) (by rfl) (OwnD.nil 0 (F.heap.size) 60 6 _) (newRow Q.out (by omega) (by omega) P.out) (by simp only [Ex.rows_len,List.length_cons,List.length_nil];omega) (by simp only [Ex.rows_len,List.length_cons,List.length_nil];omega) (by rw [World.size_alloc];omega) (fun v9 D G z=>?_);obtain ⟨M,O,N,rfl⟩:=G.form';refine d.out _ _ ?_ (fun a4=>?_);· exact Far.trans a1 ((grownFar z).mono (fun b e=>by cases e))
     clear d K
     have aa:L.heap.size+1≤D.heap.size:=by have h:=z.size;rw [World.size_alloc] at h;exact h
     replace g:=rP g z rfl;replace m:=rF m z rfl;replace p:=rB p z rfl;replace t:=rB t z rfl;have B:Hid (OwnD 0 (F.heap.size) 60 6 D (.slice M O N) (Ex.rows [y])):=zz (by rw [show ([y]:List Ex)=[]++[y] from rfl,Ex.rows_app];exact G);clear G z P Q;refine takeA 6 (v:=?_) rfl ?_ ?_;rotate_left
     · (intro w W;go_simp;try rfl)
     (try simp only [pu]);refine callA 7 rfl fun K d=>?_;clear A;have A:=kc6 t;go_simp;refine d.out _ _ ?_ (fun ac=>?_);· exact Far.setCell a4 (.inr rfl) _
     clear d K;refine wpAnyH_done (by kernel_rfl) ?_ _;clear A;generalize a:World.setCell D _ _=w7;replace g:=pO1 g a;replace m:=fN1 m a;replace p:=bF1 p a;replace t:=s6_3 t a;replace B:=oS1 B a;clear a;have rc:=kc6 p;have A:=kc6 t
     go_wp2_with (fail)
     clear rc A;generalize a:World.setCell _ ⟨(w.heap.size+1),5,none⟩ _=w8;replace g:=pO6 g a;replace m:=fN6 m a;replace p:=bS6 p a;replace B:=oS6 B a;clear a;cases u;have Z:=kc6 p;refine bodyPost_ret (v:=.agg #[.int .i64 8,.string (nowT ts i).s,.int .i64 0,.slice M O N,.int .i64 l,.int .i64 c]) (by clear g m p t B;simp [results,Tryz.results135,go_sem,Z]) rfl ?_;exact ⟨_,_,_,rfl,m.out.out,g.out,memNw B.out.mem (by omega)⟩
    ·
     go_simp;refine d.out _ _ ?_ (fun a0=>?_);· exact Far.trans a3 (Far.of (below_new _ _))
     clear d K;clear A;have A:=kc6 t;have I:=iq_12_0 q w L;refine callA 1 rfl fun K d=>?_;go_simp;refine d.out _ _ ?_ (fun a1=>?_);· exact a0
     clear d K;refine callA 5 rfl fun K d=>?_;refine wp_append_D2 _ _ (by rfl) Tryz.underlying58 info_ex rfl (by decide) (by rfl) (by rfl) (OwnD.nil 0 (F.heap.size) 60 6 _) (newRow Q.out (by omega) (by omega) P.out) (by simp only [Ex.rows_len,List.length_cons,List.length_nil];omega) (by simp only [Ex.rows_len,List.length_cons,List.length_nil];omega) (by rw [World.size_alloc];omega) (fun v9 D G z=>?_);obtain ⟨M,O,N,rfl⟩:=G.form';refine d.out _ _ ?_ (fun a4=>?_);· exact Far.trans a1 ((grownFar z).mono (fun b e=>by cases e))
     clear d K
     have aa:L.heap.size+1≤D.heap.size:=by have h:=z.size;rw [World.size_alloc] at h;exact h
     replace g:=rP g z rfl;replace m:=rF m z rfl;replace p:=rB p z rfl;replace t:=rB t z rfl;have B:Hid (OwnD 0 (F.heap.size) 60 6 D (.slice M O N) (Ex.rows [y])):=zz (by rw [show ([y]:List Ex)=[]++[y] from rfl,Ex.rows_app];exact G);clear G z P Q;refine takeA 6 (v:=?_) rfl ?_ ?_;rotate_left
     · (intro w W;go_simp;try rfl)
     (try simp only [pu]);refine callA 7 rfl fun K d=>?_;clear A;clear I;have A:=kc6 t;go_simp;refine d.out _ _ ?_ (fun ac=>?_);· exact Far.setCell a4 (.inr rfl) _
     clear d K;refine wpAnyH_done (by kernel_rfl) ?_ _;clear A;generalize a:World.setCell D _ _=w7;replace g:=pO1 g a;replace m:=fN1 m a;replace p:=bF1 p a;replace t:=s6_3 t a;replace B:=oS1 B a;clear a;have rc:=kc6 p;have A:=kc6 t
     go_wp2_with (fail)
     clear rc A;generalize a:World.setCell _ ⟨(w.heap.size+1),5,none⟩ _=w8;replace g:=pO6 g a;replace m:=fN6 m a;replace p:=bS6 p a;replace B:=oS6 B a;clear a;cases u;have Z:=kc6 p;refine bodyPost_ret (v:=.agg #[.int .i64 8,.string (nowT ts i).s,.int .i64 0,.slice M O N,.int .i64 l,.int .i64 c]) (by clear g m p t B;simp [results,Tryz.results135,go_sem,Z]) rfl ?_;exact ⟨_,_,_,rfl,m.out.out,g.out,memNw B.out.mem (by omega)⟩
  simp only [a8,Bool.false_eq_true,if_false] at u;refine (is_any 5 wFree _ g.out).mono ?_;rintro _ w4 ⟨rfl,J⟩;have o:=FarQ.of (q:=q) J;replace p:=qB p o;replace t:=qB t o;replace m:=qF m o;have an:=o.size;replace g:=kP g J;clear o J;rw [a8]
  go_wp2_with (fail)
  rcases a5:isT ts (i+1) 6 wEq
  ·
   first | simp only [a5,Bool.false_eq_true,if_false] at u | simp only [takeT,a5,Bool.false_eq_true,if_false] at u
   cases u;refine (take_bad 6 wEq _ g.out a5).mono ?_;rintro _ E ⟨rfl,J⟩;have o:=FarQ.of (q:=q) J;have R:=(g.out.keep J).any
   go_wp2_with (fail)
   exact ⟨rfl,rfl,FarB.out (m.out.farq o),R⟩
  first | simp only [a5,if_true] at u | simp only [takeT,a5,if_true] at u
  refine (take_ok 6 wEq _ g.out a5 (by decide)).mono ?_;rintro _ E ⟨rfl,o,C⟩;replace p:=qB p o;replace t:=qB t o;replace m:=qF m o;have ao:=o.size;replace g:=zz C;clear o C
  go_wp2_with (fail)
  rcases hx:readE ts f .expr (i+2) U with _ | ⟨x,j⟩ | ⟨l_,c_⟩
  · (rw [hx] at u;cases u)
  rotate_left
  ·
   rw [hx] at u
   first | simp only at u | simp only [andT] at u
   cases u;refine ((H.ex f (Nat.lt_succ_self f)) (i+2) U _ _ hd hx g.out).mono ?_;rintro _ F ⟨rfl,o,R⟩
   go_wp2_with (fail)
   exact ⟨rfl,rfl,FarB.out (m.out.farq o),R⟩
  rw [hx] at u
  first | simp only at u | simp only [andT] at u
  refine ((H.ex f (Nat.lt_succ_self f)) (i+2) U _ _ hd hx g.out).mono ?_;rintro _ F ⟨ax,mx,cx,rfl,o,C,X⟩;replace p:=qB p o;replace t:=qB t o;replace m:=qF m o;have az:=o.size;replace g:=zz C;have a6:=zz X;clear o C X;simp only [exV];have A:=kc6 t;have I:=iq_12_0 q w F
  go_wp2_with (fail)
  clear A;generalize a:World.setCell F _ _=b4;have ad:=sizeS1 a;replace g:=pO1 g a;replace m:=fN1 m a;replace p:=bF1 p a;replace t:=s6_0 t a;replace a6:=mS1 a6 a;clear a;generalize a:World.setCell b4 _ _=b5;have ae:=sizeS1 a;replace g:=pO1 g a;replace m:=fN1 m a;replace p:=bF1 p a;replace t:=s6_3 t a;replace a6:=mS1 a6 a;clear a;generalize a:World.alloc b5 _=w7;have ak:=sizeA a;have ai:=zz (builtE1E (base:=E.heap.size) (memNw a6.out (by omega)) a (b:=F.heap.size) (by omega) (by omega));replace g:=pA g a;replace m:=fA m a;replace p:=bA p a;replace t:=bA t a;have V:=ai;clear ai;clear a
  have bc:w7.heap.size=F.heap.size+1:=by omega
  clear ad ae ak;clear I
  rcases Y:isT ts j 5 wIn
  ·
   first | simp only [Y,Bool.false_eq_true,if_false] at u | simp only [takeT,Y,Bool.false_eq_true,if_false] at u
   cases u;refine (take_bad 5 wIn _ g.out Y).mono ?_;rintro _ w8 ⟨rfl,J⟩;have o:=FarQ.of (q:=q) J;have R:=(g.out.keep J).any
   go_wp2_with (fail)
   exact ⟨rfl,rfl,FarB.out (m.out.farq o),R⟩
  first | simp only [Y,if_true] at u | simp only [takeT,Y,if_true] at u
  refine (take_ok 5 wIn _ g.out Y (by decide)).mono ?_;rintro _ w8 ⟨rfl,o,C⟩;replace p:=qB p o;replace t:=qB t o;replace V:=qO V o;replace m:=qF m o;have b9:=o.size;replace g:=zz C;clear o C;have A:=kc6 t
  go_wp2_with (fail)
  refine wp_region_held_drew (S:=fun w'=>Far (fun b=>b=q∨b=(w.heap.size+2)∨b=F.heap.size) (w8) w') (by kernel_rfl) (Far.of (below_drew _)) (fun a7=>?_);refine takeA 0 (v:=?_) rfl ?_ ?_;rotate_left
  · (intro w W;go_simp;try rfl)
  (try simp only [pu]);refine takeA 2 (v:=?_) rfl ?_ ?_;rotate_left
  · (intro w W;go_simp;try rfl)
  (try simp only [pu])
  rcases T:readE ts f .expr (j+1) U with _ | ⟨y,k⟩ | ⟨l_,c_⟩
  · (rw [T] at u;cases u)
  rotate_left
  ·
   rw [T] at u
   first | simp only at u | simp only [andT] at u
   cases u;refine twoL 1 3 rfl rfl (by kernel_rfl) (by rfl) (by rfl) (fun K d=>?_) (fun K d=>?_)
   ·
    go_simp;refine d.out _ _ ?_ (fun ab=>?_);· exact a7
    clear d K;refine callA 3 rfl fun K d=>?_;go_simp;refine ((H.ex f (Nat.lt_succ_self f)) (j+1) U _ _ hd T g.out.drew).mono ?_;rintro e ag ⟨rfl,o,R⟩
    go_wp2_with (fail)
    exact ⟨rfl,rfl,FarB.out (m.out.drew.farq o),R⟩
   ·
    go_simp;refine ((H.ex f (Nat.lt_succ_self f)) (j+1) U _ _ hd T g.out.drew).mono ?_;rintro e ag ⟨rfl,o,R⟩
    go_wp2_with (fail)
    exact ⟨rfl,rfl,FarB.out (m.out.drew.farq o),R⟩
  rw [T] at u
  first | simp only at u | simp only [andT] at u
  refine twoL 1 3 rfl rfl (by kernel_rfl) (by rfl) (by rfl) (fun K d=>?_) (fun K d=>?_)
  ·
   go_simp;refine d.out _ _ ?_ (fun ab=>?_);· exact a7
   clear d K;refine callA 3 rfl fun K d=>?_;have Q:Hid (OwnD 0 (E.heap.size) 60 6 w8 (.slice (some ⟨F.heap.size,0,none⟩) 1 1) (Ex.rows [x])):=V;go_simp;refine ((H.ex f (Nat.lt_succ_self f)) (j+1) U _ _ hd T g.out.drew).mono ?_;rintro e L ⟨ay,my,cy,rfl,o,C,X⟩;have af:w8.heap.size≤L.heap.size:=o.size;replace o:FarQ q w8 L:=(FarQ.of (below_drew _)).trans o;replace p:=qB p o;replace t:=qB t o;replace V:=qO V o;replace m:=qF m o;replace g:=zz C;have P:Hid (Mem (Nw 0 w8.heap.size _) _ _ _):=zz X;clear C X;simp only [exV];go_simp;refine d.out _ _ ?_ (fun a3=>?_);· exact (Far.mono o (fun b e=>.inl e))
   clear d K;refine callA 4 rfl fun K d=>?_;go_simp;refine d.out _ _ ?_ (fun a0=>?_);· exact Far.trans a3 (Far.of (below_new _ _))
   clear d K;refine callA 5 rfl fun K d=>?_;refine wp_append_D2 _ _ (by rfl) Tryz.underlying58 info_ex rfl (by decide) (by rfl) (by rfl) (V.out.alloc _) (newRow Q.out (by omega) (by omega) P.out) (by simp only [Ex.rows_len,List.length_cons,List.length_nil];omega) (by simp only [Ex.rows_len,List.length_cons,List.length_nil];omega) (by rw [World.size_alloc];omega) (fun v9 D G z=>?_);obtain ⟨M,O,N,rfl⟩:=G.form';refine d.out _ _ ?_ (fun a1=>?_);· exact Far.trans a0 ((grownFar z).mono (fun b e=>.inr (.inr (by have e:some (F.heap.size)=some b:=e;cases e;rfl))))
   clear d K
   have aa:L.heap.size+1≤D.heap.size:=by have h:=z.size;rw [World.size_alloc] at h;exact h
   replace g:=gP F.heap.size g z rfl;replace m:=gF F.heap.size m z rfl;replace p:=gB F.heap.size p z rfl;replace t:=gB F.heap.size t z rfl;have B:Hid (OwnD 0 (E.heap.size) 60 6 D (.slice M O N) (Ex.rows [x,y])):=zz (by rw [show ([x,y]:List Ex)=[x]++[y] from rfl,Ex.rows_app];exact G);clear G z P Q V;refine takeA 6 (v:=?_) rfl ?_ ?_;rotate_left
   · (intro w W;go_simp;try rfl)
   (try simp only [pu]);refine callA 7 rfl fun K d=>?_;clear A;have A:=kc6 t;go_simp;refine d.out _ _ ?_ (fun a4=>?_);· exact Far.setCell a1 (.inr (.inl rfl)) _
   clear d K;refine wpAnyH_done (by kernel_rfl) ?_ _;clear A;generalize a:World.setCell D _ _=ap;replace g:=pO1 g a;replace m:=fN1 m a;replace p:=bF1 p a;replace t:=s6_3 t a;replace B:=oS1 B a;clear a;have rc:=kc6 p;have A:=kc6 t
   go_wp2_with (fail)
   clear rc A;generalize a:World.setCell _ ⟨(w.heap.size+1),5,none⟩ _=aq;replace g:=pO6 g a;replace m:=fN6 m a;replace p:=bS6 p a;replace B:=oS6 B a;clear a;cases u;have Z:=kc6 p;refine bodyPost_ret (v:=.agg #[.int .i64 7,.string (nowT ts i).s,.int .i64 0,.slice M O N,.int .i64 l,.int .i64 c]) (by clear g m p t B;simp [results,Tryz.results135,go_sem,Z]) rfl ?_;exact ⟨_,_,_,rfl,m.out.out,g.out,memNw B.out.mem (by omega)⟩
  ·
   have Q:Hid (OwnD 0 (E.heap.size) 60 6 w8 (.slice (some ⟨F.heap.size,0,none⟩) 1 1) (Ex.rows [x])):=V;go_simp;refine ((H.ex f (Nat.lt_succ_self f)) (j+1) U _ _ hd T g.out.drew).mono ?_;rintro e L ⟨ay,my,cy,rfl,o,C,X⟩;have af:w8.heap.size≤L.heap.size:=o.size;replace o:FarQ q w8 L:=(FarQ.of (below_drew _)).trans o;replace p:=qB p o;replace t:=qB t o;replace V:=qO V o;replace m:=qF m o;replace g:=zz C;have P:Hid (Mem (Nw 0 w8.heap.size _) _ _ _):=zz X;clear C X;simp only [exV];go_simp;refine d.out _ _ ?_ (fun a3=>?_);· exact (Far.mono o (fun b e=>.inl e))
   clear d K;refine twoL 1 4 rfl rfl (by kernel_rfl) (by rfl) (by rfl) (fun K d=>?_) (fun K d=>?_)
   ·
    clear A;have A:=kc6 t;go_simp;refine d.out _ _ ?_ (fun a0=>?_);· exact a3
    clear d K;refine callA 4 rfl fun K d=>?_;go_simp;refine d.out _ _ ?_ (fun a1=>?_);· exact Far.trans a0 (Far.of (below_new _ _))
    clear d K;refine callA 5 rfl fun K d=>?_;refine wp_append_D2 _ _ (by rfl) Tryz.underlying58 info_ex rfl (by decide) (by rfl) (by rfl) (V.out.alloc _) (newRow Q.out (by omega) (by omega) P.out) (by simp only [Ex.rows_len,List.length_cons,List.length_nil];omega) (by simp only [Ex.rows_len,List.length_cons,List.length_nil];omega) (by rw [World.size_alloc];omega) (fun v9 D G z=>?_);obtain ⟨M,O,N,rfl⟩:=G.form';refine d.out _ _ ?_ (fun a4=>?_);· exact Far.trans a1 ((grownFar z).mono (fun b e=>.inr (.inr (by have e:some (F.heap.size)=some b:=e;cases e;rfl))))
    clear d K
    have aa:L.heap.size+1≤D.heap.size:=by have h:=z.size;rw [World.size_alloc] at h;exact h
    replace g:=gP F.heap.size g z rfl;replace m:=gF F.heap.size m z rfl;replace p:=gB F.heap.size p z rfl;replace t:=gB F.heap.size t z rfl;have B:Hid (OwnD 0 (E.heap.size) 60 6 D (.slice M O N) (Ex.rows [x,y])):=zz (by rw [show ([x,y]:List Ex)=[x]++[y] from rfl,Ex.rows_app];exact G);clear G z P Q V;refine takeA 6 (v:=?_) rfl ?_ ?_;rotate_left
    · (intro w W;go_simp;try rfl)
    (try simp only [pu]);refine callA 7 rfl fun K d=>?_;clear A;have A:=kc6 t;go_simp;refine d.out _ _ ?_ (fun ac=>?_);· exact Far.setCell a4 (.inr (.inl rfl)) _
    clear d K;refine wpAnyH_done (by kernel_rfl) ?_ _;clear A;generalize a:World.setCell D _ _=ap;replace g:=pO1 g a;replace m:=fN1 m a;replace p:=bF1 p a;replace t:=s6_3 t a;replace B:=oS1 B a;clear a;have rc:=kc6 p;have A:=kc6 t
    go_wp2_with (fail)
    clear rc A;generalize a:World.setCell _ ⟨(w.heap.size+1),5,none⟩ _=aq;replace g:=pO6 g a;replace m:=fN6 m a;replace p:=bS6 p a;replace B:=oS6 B a;clear a;cases u;have Z:=kc6 p;refine bodyPost_ret (v:=.agg #[.int .i64 7,.string (nowT ts i).s,.int .i64 0,.slice M O N,.int .i64 l,.int .i64 c]) (by clear g m p t B;simp [results,Tryz.results135,go_sem,Z]) rfl ?_;exact ⟨_,_,_,rfl,m.out.out,g.out,memNw B.out.mem (by omega)⟩
   ·
    go_simp;refine d.out _ _ ?_ (fun a0=>?_);· exact Far.trans a3 (Far.of (below_new _ _))
    clear d K;clear A;have A:=kc6 t;have I:=iq_12_0 q w L;refine callA 1 rfl fun K d=>?_;go_simp;refine d.out _ _ ?_ (fun a1=>?_);· exact a0
    clear d K;refine callA 5 rfl fun K d=>?_;refine wp_append_D2 _ _ (by rfl) Tryz.underlying58 info_ex rfl (by decide) (by rfl) (by rfl) (V.out.alloc _) (newRow Q.out (by omega) (by omega) P.out) (by simp only [Ex.rows_len,List.length_cons,List.length_nil];omega) (by simp only [Ex.rows_len,List.length_cons,List.length_nil];omega) (by rw [World.size_alloc];omega) (fun v9 D G z=>?_);obtain ⟨M,O,N,rfl⟩:=G.form';refine d.out _ _ ?_ (fun a4=>?_);· exact Far.trans a1 ((grownFar z).mono (fun b e=>.inr (.inr (by have e:some (F.heap.size)=some b:=e;cases e;rfl))))
    clear d K
    have aa:L.heap.size+1≤D.heap.size:=by have h:=z.size;rw [World.size_alloc] at h;exact h
    replace g:=gP F.heap.size g z rfl;replace m:=gF F.heap.size m z rfl;replace p:=gB F.heap.size p z rfl;replace t:=gB F.heap.size t z rfl;have B:Hid (OwnD 0 (E.heap.size) 60 6 D (.slice M O N) (Ex.rows [x,y])):=zz (by rw [show ([x,y]:List Ex)=[x]++[y] from rfl,Ex.rows_app];exact G);clear G z P Q V;refine takeA 6 (v:=?_) rfl ?_ ?_;rotate_left
    · (intro w W;go_simp;try rfl)
    (try simp only [pu]);refine callA 7 rfl fun K d=>?_;clear A;clear I;have A:=kc6 t;go_simp;refine d.out _ _ ?_ (fun ac=>?_);· exact Far.setCell a4 (.inr (.inl rfl)) _
    clear d K;refine wpAnyH_done (by kernel_rfl) ?_ _;clear A;generalize a:World.setCell D _ _=ap;replace g:=pO1 g a;replace m:=fN1 m a;replace p:=bF1 p a;replace t:=s6_3 t a;replace B:=oS1 B a;clear a;have rc:=kc6 p;have A:=kc6 t
    go_wp2_with (fail)
    clear rc A;generalize a:World.setCell _ ⟨(w.heap.size+1),5,none⟩ _=aq;replace g:=pO6 g a;replace m:=fN6 m a;replace p:=bS6 p a;replace B:=oS6 B a;clear a;cases u;have Z:=kc6 p;refine bodyPost_ret (v:=.agg #[.int .i64 7,.string (nowT ts i).s,.int .i64 0,.slice M O N,.int .i64 l,.int .i64 c]) (by clear g m p t B;simp [results,Tryz.results135,go_sem,Z]) rfl ?_;exact ⟨_,_,_,rfl,m.out.out,g.out,memNw B.out.mem (by omega)⟩
end
end
section
open Go.RowKit
def upD (q:Nat):Deferred:= { target:=.fn (.func 133) #[],args:=#[.pointer (some ⟨q,0,none⟩)] }
section
variable (ts:List Tk) (aL:Option Addr) (n cap q:Nat)
def DoorBad (r:Rd1) (W:World) (chain:List PanicEntry) (ds:List Deferred) (w':World):Prop:=
  ∃ l c,r=.bad l c∧chain=faultV l c∧(ds=[]∨ds=[upD q])∧FarQ q W w'∧∃ i' d':Int,Bo w' q 162 #[.slice aL n cap,.int .i64 i',.int .i64 d']
def doorQ (fn:Func) (r:Rd1) (deep:Nat) (W:World) (e:Exit) (a:Act) (w':World):Prop:=
  match e with
  | .panic chain=>DoorBad aL n cap q r W chain a.defers w'
  | e=>bodyPostD Tryz.prog fn (Ans ts aL n cap q r deep W) e a w'
end
section
variable {ts:List Tk} {aL:Option Addr} {n cap q:Nat}
theorem doorQ_mono (fn:Func) (r:Rd1) (deep:Nat) (W:World) (e:Exit) (a:Act) (w':World) (h:doorQ ts aL n cap q fn r deep W e a w'):bodyPostD Tryz.prog fn (Ans ts aL n cap q r deep W) e a w':=by
  cases e with
  | panic chain =>
    obtain ⟨l,c,rfl,rfl,hd,hf,i',d',hb⟩:=h
    show Leaves Tryz.prog fn a.tmps _ a.defers (.panicking (faultV l c)) w'
    rcases hd with hd | hd
    · rw [hd]
      exact ⟨rfl,hf,i',d',hb⟩
    · rw [hd]
      refine leaves_cons (f:=133) (args:=#[.pointer (some ⟨q,0,none⟩)]) (by simp) (by simp [go_sem]) ?_;refine (up_any _ w' hb).mono ?_;rintro e u' w'' ⟨rfl,rfl,rfl⟩;exact ⟨rfl,hf.trans (FarQ.set _ _ _),i',_,hb.set 2 _⟩
  | _=>exact h
theorem door_plain {e:Func} {r:Rd1} {d:Nat} {W:World} {b:Array Value} {a:World} (h:∃ v,(results e b).run Tryz.prog a=.ok v a∧Ans ts aL n cap q r d W (.returned v) a):
    doorQ ts aL n cap q e r d W .ret { tmps:=b,defers:=[] } a:=h
theorem door_up {g:Func} {r:Rd1} {i:Nat} {W:World} {d:Array Value} {a:World} {m b:Int} (j:Bo a q 162 #[.slice aL n cap,.int .i64 m,.int .i64 b])
    (h:∃ v,(results g d).run Tryz.prog (a.setCell ⟨q,2,none⟩ (.int .i64 (wrap64 (b - 1))))=.ok v (a.setCell ⟨q,2,none⟩ (.int .i64 (wrap64 (b - 1))))∧Ans ts aL n cap q r i W (.returned v) (a.setCell ⟨q,2,none⟩ (.int .i64 (wrap64 (b - 1))))):
    doorQ ts aL n cap q g r i W .ret { tmps:=d,defers:=[upD q] } a:=by
  show Leaves Tryz.prog g d _ [upD q] .returning a
  refine leaves_cons (f:=133) (args:=#[.pointer (some ⟨q,0,none⟩)]) (by simp) (by simp [go_sem]) ?_;refine (up_any _ a j).mono ?_;rintro e o p ⟨rfl,rfl,rfl⟩;exact h
theorem wrap_up {a:Nat} (h:a≤40):wrap64 (((a+1:Nat):Int) - 1)=(a:Int):=by
  have e:((a+1:Nat):Int) - 1=(a:Int):=by omega
  rw [e]
  unfold wrap64;omega
end
end
end Go.Proofs.YtcoiagfeoonpbaaGreat
