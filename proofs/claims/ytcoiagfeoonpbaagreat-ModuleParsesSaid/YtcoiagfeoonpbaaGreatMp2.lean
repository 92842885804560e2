/-
  Trees in memory: rows of cells whose slices lead to further rows. What is kept when memory grows; a slice that the call itself builds out of such rows. Plain lemmas. No condition.
-/
import Derived.Test.YtcoiagfeoonpbaaGreatMp0
import Derived.OwnWalk
import Derived.Deep.AppendSrc
set_option maxHeartbeats 20000000
set_option maxRecDepth 100000
namespace Go.Proofs.YtcoiagfeoonpbaaGreat
section
open Go.RowKit
inductive At where
  | v (x:Value)
  | s (sz:Nat) (rs:List (List At))
inductive All2 {α β:Type} (R:α→β→Prop):List α→List β→Prop
  | nil:All2 R [] []
  | cons {a:α} {b:β} {l:List α} {m:List β} (h:R a b) (t:All2 R l m):All2 R (a::l) (b::m)
section
variable {α β:Type} {R:α→β→Prop}
theorem All2.len {l:List α} {m:List β} (h:All2 R l m):l.length=m.length:=by
  induction h with
  | nil=>rfl
  | cons _ _ ih=>simp [ih]
theorem All2.at {l:List α} {m:List β} (h:All2 R l m):∀ (i:Nat) (h1:i<l.length) (h2:i<m.length),R l[i] m[i]:=by
  induction h with
  | nil=>intro i h1;simp at h1
  | cons h t ih =>
    intro i h1 h2
    cases i with
    | zero=>exact h
    | succ i=>exact ih i (by simpa using h1) (by simpa using h2)
theorem All2.of {l:List α} {m:List β} (hl:l.length=m.length) (h:∀ (i:Nat) (h1:i<l.length) (h2:i<m.length),R l[i] m[i]):All2 R l m:=by
  induction l generalizing m with
  | nil =>
    cases m with
    | nil=>exact .nil
    | cons b m=>simp at hl
  | cons a l ih =>
    cases m with
    | nil=>simp at hl
    | cons b m=>exact .cons (h 0 (by simp) (by simp)) (ih (by simpa using hl) fun i h1 h2=>h (i+1) (by simpa using h1) (by simpa using h2))
theorem All2.imp {R':α→β→Prop} {l:List α} {m:List β} (h:All2 R l m) (d:∀ a b,R a b→R' a b):All2 R' l m:=by
  induction h with
  | nil=>exact .nil
  | cons h _ ih=>exact .cons (d _ _ h) ih
theorem All2.app {l a:List α} {m b:List β} (h:All2 R l m) (d:All2 R a b):All2 R (l++a) (m++b):=by
  induction h with
  | nil=>exact d
  | cons h _ ih=>exact .cons h ih
end
theorem flat_at (sz:Nat) (css:List (List Value)) (h:∀ cs∈css,cs.length=sz) (i j:Nat) (hi:i<css.length) (hj:j<(css[i]).length):css.flatten[i * sz+j]?=some (css[i])[j]:=by
  induction css generalizing i with
  | nil=>simp at hi
  | cons c css ih =>
    have hc:=h c (List.mem_cons_self ..)
    cases i with
    | zero =>
      simp only [List.getElem_cons_zero] at hj ⊢;rw [List.flatten_cons,Nat.zero_mul,Nat.zero_add,List.getElem?_append_left hj,List.getElem?_eq_getElem hj]
    | succ i =>
      simp only [List.getElem_cons_succ] at hj ⊢;rw [List.flatten_cons,List.getElem?_append_right (by rw [hc,Nat.succ_mul];omega),hc,show (i+1) * sz+j - sz=i * sz+j by rw [Nat.succ_mul];omega];exact ih (fun cs hcs=>h cs (List.mem_cons_of_mem _ hcs)) i (by simpa using hi) hj
theorem flat_len (sz:Nat) (css:List (List Value)) (h:∀ cs∈css,cs.length=sz):css.flatten.length=css.length * sz:=by
  induction css with
  | nil=>simp
  | cons c css ih=>rw [List.flatten_cons,List.length_append,ih fun cs a=>h cs (List.mem_cons_of_mem _ a),h c (List.mem_cons_self ..),List.length_cons,Nat.succ_mul];omega
inductive Mem (S:Nat→Prop) (w:World):At→Value→Prop
  | v (x:Value) (h1:x.oneCell'=true):Mem S w (.v x) x
  | e (a:Option Addr) (cap sz:Nat) (hc:cap≤9223372036854775807):Mem S w (.s sz []) (.slice a 0 cap)
  | s (b o n cap sz : Nat) (rs : List (List At)) (C : Nat → Nat → Value) (hn : rs.length = n) (hcap : n ≤ cap) (hc : cap ≤ 9223372036854775807) (hS : S b)
      (hsz:∀ i (h:i<rs.length),(rs[i]).length=sz)
      (hcell:∀ i j,i<n→j<sz→w.cell? ⟨b,o+i * sz+j,none⟩=some (C i j))
      (hm:∀ i j (hi:i<rs.length) (hj:j<(rs[i]).length),Mem S w ((rs[i])[j]) (C i j)):Mem S w (.s sz rs) (.slice (some ⟨b,o,none⟩) n cap)
theorem Mem.mono {S S':Nat→Prop} {w w':World} {x:At} {y:Value} (h:Mem S w x y) (hS:∀ b,S b→S' b) (hw:∀ b,S b→w'.heap[b]?=w.heap[b]?):Mem S' w' x y:=by
  induction h with
  | v x h1=>exact .v x h1
  | e a cap sz hc=>exact .e a cap sz hc
  | s b o n cap sz rs C hn hcap hc hSb hsz hcell hm ih =>
    exact .s b o n cap sz rs C hn hcap hc (hS b hSb) hsz (fun i j hi hj=>(World.cell?_of_block (hw b hSb)).trans (hcell i j hi hj)) ih
theorem Mem.keep {B B':Nat} {w w':World} {x:At} {y:Value} (h:Mem (· <B) w x y) (d:B≤B') (f:Below B w w'):Mem (· <B') w' x y:=
  h.mono (fun _ a=>Nat.lt_of_lt_of_le a d) fun b a=>f.block b a
theorem Mem.le {B B':Nat} {w:World} {x:At} {y:Value} (h:Mem (· <B) w x y) (a:B≤B'):Mem (· <B') w x y:=h.keep a (Below.refl _ _)
theorem Mem.val {S:Nat→Prop} {w:World} {x y:Value} (h:Mem S w (.v x) y):y=x:=by cases h;rfl
def MemW (w:World) (x:At) (y:Value):Prop:=Mem (· <w.heap.size) w x y
theorem MemW.keep {w w':World} {x:At} {y:Value} (h:MemW w x y) (a:Below w.heap.size w w'):MemW w' x y:=Mem.keep h a.size a
theorem MemW.alloc {w:World} {x:At} {y:Value} (h:MemW w x y) (o:Obj):MemW (w.alloc o) x y:=h.keep (below_new w o)
theorem below_drew {B:Nat} (w:World):Below B w w.drew:=below_drewN (Below.refl B w) 1
theorem Mem.drew {S:Nat→Prop} {w:World} {x:At} {y:Value} (h:Mem S w x y):Mem S w.drew x y:=h.mono (fun _ a=>a) fun _ _=>rfl
theorem MemW.drew {w:World} {x:At} {y:Value} (h:MemW w x y):MemW w.drew x y:=h.keep (below_drew w)
theorem Below.toD {w a b:World} (h:Below w.heap.size w a) (k:Below a.drew.heap.size a.drew b):Below w.heap.size w b:=h.trans (((below_drew a).trans k).mono h.size)
theorem Below.one {a b:World} (k:Below a.drew.heap.size a.drew b):Below a.heap.size a b:=(below_drew a).trans k
theorem Mem.parts {S:Nat→Prop} {w:World} {sz:Nat} {rs:List (List At)} {y:Value} (h:Mem S w (.s sz rs) y):
    ∃ a n cap,y=.slice a n cap∧rs.length=n∧n≤cap∧cap≤9223372036854775807:=by
  cases h with
  | e a cap _ hc=>exact ⟨a,0,cap,rfl,rfl,Nat.zero_le _,hc⟩
  | s b o n cap _ _ C hn hcap hc hS hsz hcell hm=>exact ⟨_,n,cap,rfl,hn,hcap,hc⟩
theorem Mem.at {S:Nat→Prop} {w:World} {sz:Nat} {rs:List (List At)} {a:Option Addr} {n cap:Nat} (h:Mem S w (.s sz rs) (.slice a n cap)) (i:Nat) (hi:i<rs.length):
    ∃ b o,a=some ⟨b,o,none⟩∧S b∧(rs[i]).length=sz∧∃ cs:List Value,All2 (Mem S w) rs[i] cs∧∀ j (hj:j<cs.length),w.cell? ⟨b,o+i * sz+j,none⟩=some cs[j]:=by
  cases h with
  | e a cap _ hc=>simp at hi
  | s b o n cap _ _ C hn hcap hc hS hsz hcell hm =>
    refine ⟨b,o,rfl,hS,hsz i hi,(List.range sz).map (C i),All2.of (by simp [hsz i hi]) (fun j h1 h2=>by simpa using hm i j hi h1),fun j hj=>?_⟩
    simp at hj
    simpa using hcell i j (by omega) hj
theorem Mem.len {S:Nat→Prop} {w:World} {sz:Nat} {rs:List (List At)} {a:Option Addr} {n cap:Nat} (h:Mem S w (.s sz rs) (.slice a n cap)):rs.length=n∧n≤cap∧cap≤9223372036854775807:=by
  obtain ⟨d,g,f,e,b⟩:=h.parts;cases e;exact b
theorem Mem.drop {S:Nat→Prop} {w:World} {sz:Nat} {rs:List (List At)} {b o n cap:Nat} (k:Nat) (hk:k≤n) (h:Mem S w (.s sz rs) (.slice (some ⟨b,o,none⟩) n cap)):Mem S w (.s sz (rs.drop k)) (.slice (some ⟨b,o+k * sz,none⟩) (n - k) (cap - k)):=by
  cases h with
  | e a cap _ hc =>
    rw [List.drop_nil]
    obtain rfl:k=0:=by omega
    exact .e _ _ _ (by omega)
  | s _ _ _ _ _ _ C hn hcap hc hS hsz hcell hm =>
    refine .s b (o+k * sz) (n - k) (cap - k) sz _ (fun i j=>C (k+i) j) (by simp [hn]) (by omega) (by omega) hS (fun i hi=>?_) (fun i j hi hj=>?_) (fun i j hi hj=>?_)
    · rw [List.getElem_drop];exact hsz (k+i) (by simp at hi;omega)
    · rw [←hcell (k+i) j (by omega) hj];congr 2;rw [Nat.add_mul];omega
    · have hki:k+i<rs.length:=by simp at hi;omega
      have e:(rs.drop k)[i]=rs[k+i]:=List.getElem_drop ..
      have hj':j<rs[k+i].length:=by rw [←e];exact hj
      have :=hm (k+i) j hki hj'
      simpa [e] using this
theorem Mem.take {S:Nat→Prop} {w:World} {sz:Nat} {rs:List (List At)} {a:Option Addr} {n cap:Nat} (k:Nat) (hk:k≤n) (h:Mem S w (.s sz rs) (.slice a n cap)) (cap':Nat) (h1:k≤cap') (h2:cap'≤cap):Mem S w (.s sz (rs.take k)) (.slice a k cap'):=by
  cases h with
  | e a cap _ hc =>
    rw [List.take_nil]
    obtain rfl:k=0:=by omega
    exact .e _ _ _ (by omega)
  | s b o _ _ _ _ C hn hcap hc hS hsz hcell hm =>
    refine .s b o k cap' sz _ C (by simp;omega) h1 (by omega) hS (fun i hi=>?_) (fun i j hi hj=>hcell i j (by omega) hj) (fun i j hi hj=>?_)
    · rw [List.getElem_take];exact hsz i (by simp at hi;omega)
    · have hki:i<rs.length:=by simp at hi;omega
      have e:(rs.take k)[i]=rs[i]:=List.getElem_take ..
      have hj':j<rs[i].length:=by rw [←e];exact hj
      have :=hm i j hki hj'
      simpa [e] using this
theorem Mem.one {S:Nat→Prop} {w:World} {x:At} {y:Value} (h:Mem S w x y):y.oneCell'=true:=by
  cases h with
  | v x h1=>exact h1
  | e=>rfl
  | s=>rfl
theorem Mem.flat {S:Nat→Prop} {w:World} {sz:Nat} {rs:List (List At)} {a:Option Addr} {n cap:Nat} (h:Mem S w (.s sz rs) (.slice a n cap)):
    ∃ css:List (List Value),All2 (fun r cs=>cs.length=sz∧All2 (Mem S w) r cs) rs css∧∀ ad,a=some ad→∀ (j:Nat) u,css.flatten[j]?=some u→w.cell? (ad.add j)=some u:=by
  cases h with
  | e a cap _ hc=>exact ⟨[],.nil,fun _ _ j u hu=>by simp at hu⟩
  | s b o n cap _ _ C hn hcap hc hS hsz hcell hm =>
    have hl:∀ cs∈(List.range n).map (fun i=>(List.range sz).map (C i)),cs.length=sz:=fun cs hcs=>by
      obtain ⟨i,_,rfl⟩:=List.mem_map.1 hcs;simp
    refine ⟨(List.range n).map fun i=>(List.range sz).map (C i),All2.of (by simp [hn]) fun i h1 h2=>⟨by simp,All2.of (by simp [hsz i h1]) fun j h3 h4=>by simpa using hm i j h1 h3⟩,fun ad ha j u hu=>?_⟩;cases ha;have hj:=(List.getElem?_eq_some_iff.1 hu).1;rw [flat_len sz _ hl] at hj;simp only [List.length_map,List.length_range] at hj
    have hpos:0<sz:=by
      rcases Nat.eq_zero_or_pos sz with h0 | h0
      · subst h0;omega
      · exact h0
    have hi:j / sz<n:=Nat.div_lt_of_lt_mul (by rw [Nat.mul_comm];exact hj);have hjm:j % sz<sz:=Nat.mod_lt _ hpos
    have e:j / sz * sz+j % sz=j:=by rw [Nat.mul_comm];exact Nat.div_add_mod j sz
    have hf:=flat_at sz _ hl (j / sz) (j % sz) (by simpa using hi) (by simpa using hjm);rw [e,hu] at hf
    simp at hf
    have hadd:(⟨b,o,none⟩:Addr).add j=⟨b,o+j,none⟩:=by unfold Addr.add;split <;> simp_all
    rw [hadd,hf, ←hcell (j / sz) (j % sz) hi hjm,Nat.add_assoc,e]
def Nw (B base top:Nat) (b:Nat):Prop:=(b<B∨base≤b)∧b<top
def OwnD (B base:Nat) (e:TypeId) (sz:Nat) (w:World) (y:Value) (rs:List (List At)):Prop:=
  ∃ css:List (List Value),w.ownsRow base e sz y rs.length css.flatten∧All2 (fun r cs=>cs.length=sz∧All2 (Mem (fun b=>Nw B base w.heap.size b∧y.ownBlock≠some b) w) r cs) rs css
theorem OwnD.nil (B base:Nat) (e:TypeId) (sz:Nat) (w:World):OwnD B base e sz w (.slice none 0 0) []:=⟨[],World.ownsRow_nil w base e sz,.nil⟩
theorem OwnD.grown {B base:Nat} {e:TypeId} {sz:Nat} {w w':World} {y:Value} {rs:List (List At)} (h:OwnD B base e sz w y rs) (s:w.heap.size≤w'.heap.size) (i:∀ k,k<w.heap.size→w'.heap[k]?=w.heap[k]?):OwnD B base e sz w' y rs:=by
  obtain ⟨css,a,d⟩:=h;refine ⟨css,⟨a.1,?_⟩,d.imp fun r cs ⟨hc,hm⟩=>⟨hc,hm.imp fun x u p=>p.mono (fun b ⟨⟨a,h3⟩,d⟩=>⟨⟨a,by omega⟩,d⟩) fun b ⟨⟨_,a⟩,_⟩=>i b a⟩⟩
  rcases a.2 with o | ⟨g,cap,j,rfl,m,f,rest⟩
  · exact .inl o
  · exact .inr ⟨g,cap,j,rfl,m,(i g (Array.getElem?_eq_some_iff.1 f).1).trans f,rest⟩
theorem OwnD.keep {B base:Nat} {e:TypeId} {sz:Nat} {w w':World} {y:Value} {rs:List (List At)} (h:OwnD B base e sz w y rs) (a:Below w.heap.size w w'):OwnD B base e sz w' y rs:=h.grown a.size fun k b=>a.block k b
theorem OwnD.alloc {B base:Nat} {e:TypeId} {sz:Nat} {w:World} {y:Value} {rs:List (List At)} (h:OwnD B base e sz w y rs) (o:Obj):OwnD B base e sz (w.alloc o) y rs:=h.keep (below_new w o)
theorem OwnD.lt {B base:Nat} {e:TypeId} {sz:Nat} {w:World} {y:Value} {rs:List (List At)} (h:OwnD B base e sz w y rs):∀ k,y.ownBlock=some k→base≤k∧k<w.heap.size:=by
  obtain ⟨css,a,_⟩:=h;exact a.lt
theorem OwnD.form {B base:Nat} {e:TypeId} {sz:Nat} {w:World} {y:Value} {rs:List (List At)} (h:OwnD B base e sz w y rs):∃ a cap,y=.slice a rs.length cap∧rs.length≤cap∧cap≤9223372036854775807:=by
  obtain ⟨css,b,_⟩:=h
  rcases b.2 with ⟨rfl,f⟩ | ⟨g,cap,j,rfl,m,o,i,d,p,r⟩
  · exact ⟨none,0,by rw [f],by omega,by omega⟩
  · exact ⟨_,cap,rfl,i,by simpa [maxLen] using d⟩
theorem OwnD.mem {B base:Nat} {e:TypeId} {sz:Nat} {w:World} {y:Value} {rs:List (List At)} (h:OwnD B base e sz w y rs):Mem (Nw B base w.heap.size) w (.s sz rs) y:=by
  obtain ⟨css,v,m⟩:=h;have H:=m.len
  have o:∀ cs∈css,cs.length=sz:=fun cs o=>by
    obtain ⟨i,a,rfl⟩:=List.getElem_of_mem o;exact (m.at i (by omega) a).1
  rcases v.2 with ⟨rfl,E⟩ | ⟨g,cap,G,rfl,u,D,F,C,I,J⟩
  · have :rs=[]:=List.eq_nil_of_length_eq_zero E
    subst this;exact .e none 0 sz (by decide)
  · refine .s g 0 rs.length cap sz rs (fun i j=>css.flatten.getD (i * sz+j) undef) rfl F (by simpa [maxLen] using C) ⟨.inr u,(Array.getElem?_eq_some_iff.1 D).1⟩ (fun i a=>?_) (fun i j a x=>?_) (fun i j a x=>?_)
    · have d:i<css.length:=by omega
      obtain ⟨r,f⟩:=m.at i a d;rw [f.len,r]
    · have d:i<css.length:=by omega
      obtain ⟨r,f⟩:=m.at i a d;have p:=flat_at sz css o i j d (by omega);have :=v.cells (g:=g) rfl (i * sz+j) _ p
      have A:(⟨g,0,none⟩:Addr).add (i * sz+j)=⟨g,i * sz+j,none⟩:=by unfold Addr.add;split <;> simp_all
      rw [A] at this
      rw [Nat.zero_add,this,List.getD_eq_getElem?_getD,p];rfl
    · have d:i<css.length:=by omega
      obtain ⟨r,f⟩:=m.at i a d
      have p:=flat_at sz css o i j d (by have :=f.len;omega)
      rw [List.getD_eq_getElem?_getD,p]
      exact (f.at j x (by have :=f.len;omega)).mono (fun b u=>u.1) fun _ _=>rfl
theorem OwnD.apart {B base:Nat} {e:TypeId} {sz:Nat} {w w':World} {y v:Value} {rs:List (List At)} {x:At} (h:OwnD B base e sz w y rs) (g:B≤base) (i:base≤w.heap.size) (d:Mem (Nw B w.heap.size w'.heap.size) w' x v):Mem (fun b=>Nw B base w'.heap.size b∧y.ownBlock≠some b) w' x v:=
  d.mono (fun b ⟨a,h2⟩=>⟨⟨a.imp id fun f=>by omega,h2⟩,fun e=>by have :=h.lt b e;rcases a with a | a <;> omega⟩) fun _ _=>rfl
theorem OwnD.old {B base:Nat} {e:TypeId} {sz:Nat} {w:World} {y v:Value} {rs:List (List At)} {x:At} (h:OwnD B base e sz w y rs) (f:B≤base) (g:base≤w.heap.size) (d:Mem (· <B) w x v):Mem (fun b=>Nw B base w.heap.size b∧y.ownBlock≠some b) w x v:=
  d.mono (fun b a=>⟨⟨.inl a,by omega⟩,fun e=>by have :=h.lt b e;omega⟩) fun _ _=>rfl
section
variable {P:Program} {w:World} {t e:TypeId} {z:Value} {sz bytes:Nat}
theorem run_append_D2 (N:TypeId) {B base:Nat} (E:P.underlying t=some (.slice e)) (a6:(P.info? e).map (fun i=>(i.zero,i.size,i.bytes))=some (some z,sz,bytes)) (hz:z.cells.size=sz) (Z:0<sz)
    {y:Value} {rs new:List (List At)} {a:Option Addr} {m c:Nat} (h:OwnD B base e sz w y rs) (S:Mem (fun b=>Nw B base w.heap.size b∧y.ownBlock≠some b) w (.s sz new) (.slice a m c)) (a4:(rs.length+new.length) * bytes≤140737488355328) (ab:rs.length+new.length≤4611686018427387904) (a3:base≤w.heap.size):
    ∃ A w',(Builtin.append_ #[t,t] N #[y,.slice a m c]).run P w=.ok A w'∧OwnD B base e sz w' A (rs++new)∧w.grownBy w' y.ownBlock∧(A.ownBlock=y.ownBlock∨∀ k,A.ownBlock=some k→w.heap.size≤k):=by
  obtain ⟨i,D,a0,M,a1⟩:=info_parts a6;have G:=S.len;obtain ⟨v,I,K⟩:=S.flat
  have a7:∀ cs∈v,cs.length=sz:=fun cs V=>by
    obtain ⟨i,D,rfl⟩:=List.getElem_of_mem V
    exact (I.at i (by have :=I.len;omega) D).1
  have a5:=flat_len sz v a7
  have Y:∀ u∈v.flatten,u.oneCell'=true:=fun u d=>by
    obtain ⟨cs,V,d⟩:=List.mem_flatten.1 d;obtain ⟨k,p,rfl⟩:=List.getElem_of_mem V;obtain ⟨j,hj,rfl⟩:=List.getElem_of_mem d
    have h3:=(I.at k (by have :=I.len;omega) p).2
    exact (h3.at j (by have :=h3.len;omega) hj).one
  by_cases H:new=[]
  · subst H
    obtain rfl:m=0:=G.1.symm;obtain ⟨ao,cap,rfl,U,_⟩:=h.form;refine ⟨_,w,?_,by rw [List.append_nil];exact h,⟨rfl,rfl,rfl,Nat.le_refl _,fun _ _ _=>rfl⟩,.inl rfl⟩
    have hs:Src P i.size t (.slice a 0 c) 0 [] w:=by
      cases a with
      | none=>exact Src.ofNil w E c
      | some a=>exact Src.ofSlice w E a 0 c [] (by simp) (by simp) (by simp)
    cases ao <;> simp [Builtin.append_,run_underlying E,sizeOf,typeInfo,D,hs.len,U,hs.cells,storeCells]
  · have ae:0<m:=by
      rw [←G.1];exact List.length_pos_iff.2 H
    obtain ⟨f,rfl⟩:∃ f,a=some f:=by
      cases S with
      | e=>exact absurd rfl H
      | s b o n cap _ _ C hn U hc hS Z K H=>exact ⟨_,rfl⟩
    have O:v.flatten.length=m * sz:=by rw [a5, ←I.len,G.1]
    obtain ⟨css,F,h2⟩:=h
    have X:rs.length+m≤maxLen:=by rw [←G.1];unfold maxLen;omega
    have T:(rs.length+m) * bytes≤140737488355328:=by rw [←G.1];exact a4
    obtain ⟨A,w',Q,ho,W,_⟩:=run_append_own (P:=P) w base t N e i z sz bytes E D a0 M a1 hz Z y rs.length css.flatten F f m c v.flatten O (fun j u d=>K f rfl j u d) Y X T a3
    have J:A.ownBlock=y.ownBlock∨∀ k,A.ownBlock=some k→w.heap.size≤k:=by
      rcases F.2 with ⟨rfl,hn⟩ | ⟨g,cap,aa,rfl,hb,ac,af,U,Z,ag⟩
      · have a2:w.ownsRow w.heap.size e sz (.slice none 0 0) rs.length css.flatten:=⟨F.1,.inl ⟨rfl,hn⟩⟩
        obtain ⟨v2,w2,L,a8,_,_⟩:=run_append_own (P:=P) w w.heap.size t N e i z sz bytes E D a0 M a1 hz ‹0<sz› _ rs.length css.flatten a2 f m c v.flatten O (fun j u d=>K f rfl j u d) Y X T (Nat.le_refl _);have :=Q.symm.trans L
        injection this with e1 e2
        subst e1
        exact .inr fun k p=>(a8.lt k p).1
      · by_cases a9:rs.length+m≤cap
        · obtain ⟨w2,L,_⟩:=run_append_fits (P:=P) w base t N e i sz E D M g rs.length cap css.flatten F f m c v.flatten O (fun j u d=>K f rfl j u d) Y a9
          have :=Q.symm.trans L
          injection this with e1 e2
          subst e1;exact .inl rfl
        · have L:=run_append_grow (P:=P) w t N e i z E D a0 ⟨g,0,none⟩ rs.length cap css.flatten (by rw [M];exact F.1) (F.cells (g:=g) rfl) f m c v.flatten (by rw [M];exact O) (fun j u d=>K f rfl j u d) (by omega) (by unfold maxLen at X;omega) (growslice_fits (by omega) (by rw [a1];exact T))
          have :=Q.symm.trans L
          injection this with e1 e2
          subst e1;refine .inr fun k p=>?_;simp only [Value.ownBlock,Option.some.injEq] at p
          omega
    refine ⟨A,w',Q,⟨css++v,?_,(h2.app I).imp fun r cs ⟨hc,H⟩=>⟨hc,H.imp fun x zz hx=>hx.mono (fun b ⟨⟨hb0,hb1⟩,hb2⟩=>⟨⟨hb0,Nat.lt_of_lt_of_le hb1 W.size⟩,fun p=>?_⟩) fun b ⟨⟨_,hb1⟩,hb2⟩=>W.block b hb1 fun e=>hb2 e.symm⟩⟩,W,J⟩
    · rw [List.length_append,List.flatten_append,G.1];exact ho
    · rcases J with J | J
      · rw [J] at p;exact hb2 p
      · have :=J b p;omega
theorem run_append_D (f:TypeId) {B base:Nat} (C:P.underlying t=some (.slice e)) (x:(P.info? e).map (fun i=>(i.zero,i.size,i.bytes))=some (some z,sz,bytes)) (D:z.cells.size=sz) (A:0<sz)
    {y:Value} {rs new:List (List At)} {a:Option Addr} {m c:Nat} (h:OwnD B base e sz w y rs) (p:Mem (fun b=>Nw B base w.heap.size b∧y.ownBlock≠some b) w (.s sz new) (.slice a m c)) (v:(rs.length+new.length) * bytes≤140737488355328) (u:rs.length+new.length≤4611686018427387904) (r:base≤w.heap.size):
    ∃ d w',(Builtin.append_ #[t,t] f #[y,.slice a m c]).run P w=.ok d w'∧OwnD B base e sz w' d (rs++new)∧w.grownBy w' y.ownBlock:=by
  obtain ⟨d,w',g,j,o,_⟩:=run_append_D2 f C x D A h p v u r;exact ⟨d,w',g,j,o⟩
theorem wpList_append_D {g:Array Oper} {rest:List Oper} {o:Oper} {d:Act} {Q:Exit→Act→World→Prop} (E:o.guard=none) (s x:Operand) {B base:Nat}
    (G:o.op=.call { callee:=.builtin .append,args:=#[s,x],argTypes:=#[t,t] }) (K:P.underlying t=some (.slice e)) (F:(P.info? e).map (fun i=>(i.zero,i.size,i.bytes))=some (some z,sz,bytes)) (M:z.cells.size=sz) (J:0<sz)
    {y:Value} {rs new:List (List At)} {a:Option Addr} {m c:Nat} (I:d.eval s=y) (L:d.eval x=.slice a m c) (h:OwnD B base e sz w y rs) (v:Mem (fun b=>Nw B base w.heap.size b∧y.ownBlock≠some b) w (.s sz new) (.slice a m c)) (D:(rs.length+new.length) * bytes≤140737488355328) (C:rs.length+new.length≤4611686018427387904) (A:base≤w.heap.size)
    (r:∀ f w',OwnD B base e sz w' f (rs++new)→w.grownBy w' y.ownBlock→wpList P g Q rest (d.put o.dst f) w'):wpList P g Q (o::rest) d w:=by
  obtain ⟨f,w',H,j,p⟩:=run_append_D o.type K F M J h v D C A;refine wpList_plain E fun _ u=>?_;unfold Oper.wp execOp;simp only [G,resolve,invoke,builtin,Sem.run_bind,Sem.run_pure,Result.andThen_ok,List.map_toArray,List.map_cons,List.map_nil,I,L,H];exact u _ _ (r f w' j p)
end
theorem grown_below {B:Nat} {b w w':World} {r:Option Nat} (h:Below B b w) (a:w.grownBy w' r) (g:B≤b.heap.size) (f:∀ k,r=some k→B≤k):Below B b w':=
  ⟨a.os.trans h.os,a.tape.trans h.tape,a.output.trans h.output,Nat.le_trans h.size a.size,fun k d=>(a.block k (by have :=h.size;omega) (fun e=>by have :=f k e.symm;omega)).trans (h.block k d)⟩
theorem OwnD.built {B base sz:Nat} {e:TypeId} {w:World} {rs:List (List At)} {css:List (List Value)} (h:All2 (fun r cs=>cs.length=sz∧All2 (Mem (Nw B base w.heap.size) w) r cs) rs css) (g:base≤w.heap.size) (n:Nat) (o:rs.length=n) (f:n≤maxLen) (cs:Array Value) (a:cs.toList=css.flatten):
    OwnD B base e sz (w.alloc (.cells cs e)) (.slice (some ⟨w.heap.size,0,none⟩) n n) rs:=by
  subst o
  have m:∀ cs∈css,cs.length=sz:=fun cs a=>by
    obtain ⟨i,j,rfl⟩:=List.getElem_of_mem a
    exact (h.at i (by have :=h.len;omega) j).1
  have d:=flat_len sz css m;refine ⟨css,⟨by rw [d,h.len],.inr ⟨w.heap.size,rs.length,cs,rfl,g,(MapKept.heap_alloc w _).1,Nat.le_refl _,f,?_,?_⟩⟩,h.imp fun r cs ⟨hc,f⟩=>⟨hc,f.imp fun x s p=>p.mono (fun b ⟨h1,h3⟩=>⟨⟨h1,by rw [World.size_alloc];omega⟩,fun e=>by injection e with e;subst e;simp at h3⟩) fun b ⟨_,h1⟩=>(below_new w _).block b h1⟩⟩
  · rw [←Array.length_toList,a,d,h.len]
  · rw [a,List.take_of_length_le (by rw [d,h.len];exact Nat.le_refl _)]
def Bx (w:World) (q:Nat) (cs:List Value):Prop:=q<w.heap.size∧∀ (j:Nat) (h:j<cs.length),w.cell? ⟨q,j,none⟩=some cs[j]
theorem Bx.new (w:World) (cs:Array Value) (t:TypeId):Bx (w.alloc (.cells cs t)) w.heap.size cs.toList:=by
  refine ⟨by simp,fun j b=>?_⟩;have a:(w.alloc (.cells cs t)).heap[w.heap.size]?=some (.cells cs t):=(MapKept.heap_alloc w _).1;simp only [World.cell?,a]
  simp at b ⊢
theorem Bx.below {w w':World} {q B:Nat} {cs:List Value} (h:Bx w q cs) (a:Below B w w') (d:q<B):Bx w' q cs:=
  ⟨Nat.lt_of_lt_of_le h.1 a.size,fun j b=>(a.cell (p:=⟨q,j,none⟩) d).trans (h.2 j b)⟩
theorem Bx.keep {w w':World} {q:Nat} {cs:List Value} (h:Bx w q cs) (a:Below w.heap.size w w'):Bx w' q cs:=h.below a h.1
theorem Bx.alloc {w:World} {q:Nat} {cs:List Value} (h:Bx w q cs) (o:Obj):Bx (w.alloc o) q cs:=h.keep (below_new w o)
def Bo (w:World) (q:Nat) (t:TypeId) (cs:Array Value):Prop:=w.heap[q]?=some (.cells cs t (0,0))
section
variable {w w':World} {q:Nat} {t:TypeId} {cs:Array Value}
theorem Bo.lt (h:Bo w q t cs):q<w.heap.size:=(Array.getElem?_eq_some_iff.1 h).1
theorem Bo.new (w:World) (t:TypeId) (cs:Array Value):Bo (w.alloc (.cells cs t)) w.heap.size t cs:=(MapKept.heap_alloc w _).1
theorem Bo.below {B:Nat} (h:Bo w q t cs) (a:Below B w w') (b:q<B):Bo w' q t cs:=(a.block q b).trans h
theorem Bo.keep (h:Bo w q t cs) (a:Below w.heap.size w w'):Bo w' q t cs:=h.below a h.lt
theorem Bo.alloc (h:Bo w q t cs) (o:Obj):Bo (w.alloc o) q t cs:=h.keep (below_new w o)
theorem Bo.drew (h:Bo w q t cs):Bo w.drew q t cs:=h
theorem Bo.cell (h:Bo w q t cs) {j:Nat} {v:Value} (a:cs[j]?=some v):w.cell? ⟨q,j,none⟩=some v:=by
  rw [cell_of_row w q j cs t (0,0) h];exact a
theorem Bo.frozen (h:Bo w q t cs) (i:Nat):w.frozen? ⟨q,i,none⟩=false:=frozen_of_row w q i cs t h
theorem Bo.set (h:Bo w q t cs) (j:Nat) (v:Value):Bo (w.setCell ⟨q,j,none⟩ v) q t (cs.setIfInBounds j v):=heap_setCell_same w q j cs t v h
theorem Bo.far (h:Bo w q t cs) {g:Nat} (j:Nat) (v:Value) (a:q≠g):Bo (w.setCell ⟨g,j,none⟩ v) q t cs:=(heap_setCell_other w ⟨g,j,none⟩ q v a).trans h
end
theorem Bo.grown {w w':World} {q:Nat} {t:TypeId} {cs:Array Value} {r:Option Nat} (h:Bo w q t cs) (a:w.grownBy w' r) (b:∀ k,r=some k→k≠q):Bo w' q t cs:=(a.block q h.lt (fun e=>b q e.symm rfl)).trans h
def Wr (w:World) (q:Nat) (t:TypeId) (n:Nat):Prop:=∃ cs:Array Value,cs.size=n∧Bo w q t cs
theorem Bo.wr {w:World} {q:Nat} {t:TypeId} {cs:Array Value} (h:Bo w q t cs):Wr w q t cs.size:=⟨cs,rfl,h⟩
theorem Bo.row {w:World} {q:Nat} {t:TypeId} {old:Array Value} (h:Bo w q t old) (cs:Array Value):Bo (w.setRow q cs) q t cs:=setRow_heap w q old cs t (0,0) h
theorem Bo.rowFar {w:World} {q:Nat} {t:TypeId} {old:Array Value} (h:Bo w q t old) {g:Nat} (cs:Array Value) (a:q≠g):Bo (w.setRow g cs) q t old:=(setRow_other w g q cs a).trans h
theorem size_setRow (w:World) (g:Nat) (cs:Array Value):(w.setRow g cs).heap.size=w.heap.size:=by simp [World.setRow]
theorem below_setRow {B:Nat} {a w:World} (h:Below B a w) {g:Nat} (d:B≤g) (cs:Array Value):Below B a (w.setRow g cs):=
  ⟨h.os,h.tape,h.output,by rw [size_setRow];exact h.size,fun k b=>(setRow_other w g k cs (by omega)).trans (h.block k b)⟩
theorem cell_row_far {w:World} {b o g:Nat} {v:Value} (cs:Array Value) (h:w.cell? ⟨b,o,none⟩=some v) (a:b≠g):(w.setRow g cs).cell? ⟨b,o,none⟩=some v:=(World.cell?_of_block (setRow_other w g b cs a)).trans h
theorem Mem.row {S:Nat→Prop} {w:World} {x:At} {y:Value} (h:Mem S w x y) (g:Nat) (cs:Array Value) (d: ¬S g):Mem S (w.setRow g cs) x y:=
  h.mono (fun _ a=>a) fun b a=>setRow_other w g b cs (fun e=>d (e ▸ a))
theorem OwnD.row {B base:Nat} {e:TypeId} {sz:Nat} {w:World} {y:Value} {rs:List (List At)} (h:OwnD B base e sz w y rs) (g:Nat) (cs:Array Value) (i:g<base) (j:B≤g):OwnD B base e sz (w.setRow g cs) y rs:=by
  obtain ⟨css,m,d⟩:=h
  refine ⟨css,⟨m.1,?_⟩,d.imp fun r cs' ⟨hc,d⟩=>⟨hc,d.imp fun x A v=>v.mono (fun b ⟨⟨i,a⟩,j⟩=>⟨⟨i,by rw [size_setRow];exact a⟩,j⟩) fun b ⟨⟨a,_⟩,_⟩=>setRow_other w g b cs (by rcases a with a | a <;> omega)⟩⟩
  rcases m.2 with u | ⟨f,cap,o,rfl,p,s,rest⟩
  · exact .inl u
  · exact .inr ⟨f,cap,o,rfl,p,(setRow_other w g f cs (by omega)).trans s,rest⟩
theorem wr_drew (w:World) (q n:Nat) (t:TypeId):Wr w.drew q t n=Wr w q t n:=rfl
theorem wr_alloc {w:World} {q n:Nat} {t:TypeId} {o:Obj} (h:Wr w q t n):Wr (w.alloc o) q t n:=by obtain ⟨cs,a,b⟩:=h;exact ⟨cs,a,b.alloc o⟩
theorem wr_row {w:World} {q n g:Nat} {t:TypeId} {cs:Array Value} (h:Wr w q t n) (f:cs.size=n):Wr (w.setRow g cs) q t n:=by
  obtain ⟨b,d,a⟩:=h
  by_cases e:q=g
  · subst e;exact ⟨cs,f,a.row cs⟩
  · exact ⟨b,d,a.rowFar cs e⟩
theorem Bo.c4 {w:World} {q:Nat} {t:TypeId} {a b d c3:Value} (h:Bo w q t #[a,b,d,c3]):w.cell? ⟨q,0,none⟩=some a∧w.cell? ⟨q,1,none⟩=some b∧w.cell? ⟨q,2,none⟩=some d∧w.cell? ⟨q,3,none⟩=some c3:=
  ⟨h.cell (j:=0) rfl,h.cell (j:=1) rfl,h.cell (j:=2) rfl,h.cell (j:=3) rfl⟩
def stB:Value→Nat | .pointer (some a)=>a.block | _=>0
def stC:Value→Array Value | .agg cs=>cs | _=>#[]
theorem stB_eq (a:Addr):stB (.pointer (some a))=a.block:=rfl
theorem stC_eq (cs:Array Value):stC (.agg cs)=cs:=rfl
def StOk (t:TypeId) (n:Nat) (w:World) (x y:Value):Prop:=∃ g cs,x=.pointer (some ⟨g,0,none⟩)∧y=.agg cs∧cs.size=n∧cs.all (·.oneCell')=true∧Wr w g t n
theorem stOk_of {t n:Nat} {w:World} {g:Nat} {cs:Array Value} (d:Wr w g t n) (b:cs.size=n) (a:cs.all (·.oneCell')=true):StOk t n w (.pointer (some ⟨g,0,none⟩)) (.agg cs):=⟨g,cs,rfl,rfl,b,a,d⟩
theorem stOk_eq {t n:Nat} {w:World} {g:Nat} {cs:Array Value} (f:cs.size=n) (d:cs.all (·.oneCell')=true):StOk t n w (.pointer (some ⟨g,0,none⟩)) (.agg cs)=Wr w g t n:=by
  refine propext ⟨?_,fun a=>stOk_of a f d⟩;rintro ⟨j,h,b,i,_,_,a⟩;cases b;exact a
theorem wp_store_T {P:Program} {o:Oper} {a:Act} {w:World} {K:Act→World→Prop} {Q:Exit→Act→World→Prop} {t:TypeId} {n:Nat} {x y:Operand} (j:o.op=.store t x y) (f:(P.info? t).map (·.size)=some n) (h:StOk t n w (a.eval x) (a.eval y)):
    o.wp P a w K Q=K (a.put o.dst undef) (w.setRow (stB (a.eval x)) (stC (a.eval y))):=by
  obtain ⟨g,cs,p,r,i,b,old,m,d⟩:=h;subst i;unfold Oper.wp execOp;simp only [j,p,r,Instr.storeAt,Instr.sureAddr,Sem.run_bind,Sem.run_pure,Result.andThen_ok,run_storeVar_row w g t t old cs d f m b]
  rfl
theorem cell_below {w w':World} {b o:Nat} {v:Value} (h:w.cell? ⟨b,o,none⟩=some v) (a:Below w.heap.size w w'):w'.cell? ⟨b,o,none⟩=some v:=(a.cell (p:=⟨b,o,none⟩) (World.block_lt_of_cell? w _ h)).trans h
theorem Mem.nw {B:Nat} {w w':World} {x:At} {y:Value} (h:Mem (· <B) w x y) (d:B≤w.heap.size) (f:Below w.heap.size w w') (base:Nat):Mem (Nw B base w'.heap.size) w' x y:=
  h.mono (fun _ a=>⟨.inl a,Nat.lt_of_lt_of_le a (Nat.le_trans d f.size)⟩) fun b a=>f.block b (Nat.lt_of_lt_of_le a d)
end
section
open Go.RowKit
inductive Ex where
  | mk (kind:Int) (name:ByteArray) (n:Int) (args:List Ex) (l c:Int)
def Ex.kind:Ex→Int | .mk k _ _ _ _ _=>k
def Ex.name:Ex→ByteArray | .mk _ s _ _ _ _=>s
def Ex.n:Ex→Int | .mk _ _ n _ _ _=>n
def Ex.args:Ex→List Ex | .mk _ _ _ ts _ _=>ts
def Ex.line:Ex→Int | .mk _ _ _ _ l _=>l
def Ex.col:Ex→Int | .mk _ _ _ _ _ c=>c
mutual
def Ex.row:Ex→List At
  | .mk k s n ts l c=>[.v (.int .i64 k),.v (.string s),.v (.int .i64 n),.s 6 (Ex.rows ts),.v (.int .i64 l),.v (.int .i64 c)]
def Ex.rows:List Ex→List (List At)
  | []=>[]
  | t::ts=>t.row::Ex.rows ts
end
theorem Ex.rows_eq (ts:List Ex):Ex.rows ts=ts.map Ex.row:=by
  induction ts with
  | nil=>rw [Ex.rows];rfl
  | cons t ts ih=>rw [Ex.rows,ih];rfl
structure Tk where
  k:Int
  s:ByteArray
  n:Int
  l:Int
  c:Int
def noTk (l c:Int):Tk:=⟨-1,.empty,0,l,c⟩
def nowT (ts:List Tk) (i:Nat):Tk:=
  match ts[i]? with
  | some t=>t
  | none => match ts.getLast? with
    | some t=>noTk t.l t.c
    | none=>noTk 0 0
def isT (ts:List Tk) (i:Nat) (k:Int) (s:ByteArray):Bool:=decide ((nowT ts i).k=k) && decide ((nowT ts i).s=s)
inductive Rd1 where
  | ok (e:Ex) (i:Nat)
  | bad (l c:Int)
def badT (ts:List Tk) (i:Nat):Rd1:=.bad (nowT ts i).l (nowT ts i).c
def andT (x:Option Rd1) (f:Ex→Nat→Option Rd1):Option Rd1:=
  match x with
  | none=>none
  | some (.bad l c)=>some (.bad l c)
  | some (.ok e i)=>f e i
def takeT (ts:List Tk) (i:Nat) (k:Int) (s:ByteArray) (f:Option Rd1):Option Rd1:=if isT ts i k s then f else some (badT ts i)
def wLet:ByteArray:=⟨#[108,101,116]⟩
def wIf:ByteArray:=⟨#[105,102]⟩
def wThen:ByteArray:=⟨#[116,104,101,110]⟩
def wElse:ByteArray:=⟨#[101,108,115,101]⟩
def wFree:ByteArray:=⟨#[102,114,101,101]⟩
def wIn:ByteArray:=⟨#[105,110]⟩
def wEq:ByteArray:=⟨#[61]⟩
def wOr:ByteArray:=⟨#[63]⟩
def wOpen:ByteArray:=⟨#[40]⟩
def wClose:ByteArray:=⟨#[41]⟩
def wWild:ByteArray:=⟨#[95]⟩
def bindsE (s:ByteArray):Nat:=
  if s=wOr then 1 else if s=⟨#[61,61]⟩∨s=⟨#[60]⟩ then 2 else if s=⟨#[43]⟩∨s=⟨#[45]⟩ then 3 else if s=⟨#[42]⟩ then 4 else 0
def startsE (t:Tk):Bool:=decide (t.k=2) || decide (t.k=3) || decide (t.k=4) || (decide (t.k=6) && decide (t.s=wOpen))
def plainE (t:Tk):Option Ex:=
  if t.k=2 then some (.mk 1 t.s 0 [] t.l t.c) else if t.k=3 then some (.mk 2 t.s 0 [] t.l t.c) else if t.k=4 then some (.mk 3 .empty t.n [] t.l t.c) else none
def appE:List Ex→Ex
  | []=>.mk 4 .empty 0 [] 0 0
  | [e]=>e
  | e::es=>.mk 4 .empty 0 (e::es) e.line e.col
inductive Nt where
  | expr
  | or
  | left (rank:Nat)
  | more (rank:Nat) (e:Ex)
  | apps (l:List Ex)
  | atom
  | pat
  | pats (l:List Ex)
def readE (ts:List Tk):Nat→Nt→Nat→Nat→Option Rd1
  | 0,_,_,_=>none
  | f + 1, .expr, i, deep =>
    let t:=nowT ts i
    if isT ts i 5 wLet then
      if deep=40 then some (badT ts i) else
      if (nowT ts (i+1)).k≠2 then some (badT ts (i+1)) else
      if isT ts (i+2) 5 wFree then
        takeT ts (i+3) 5 wIn (andT (readE ts f .expr (i+4) (deep+1)) fun x j=>some (.ok (.mk 8 (nowT ts (i+1)).s 0 [x] t.l t.c) j))
      else takeT ts (i+2) 6 wEq (andT (readE ts f .expr (i+3) (deep+1)) fun x j=>
        takeT ts j 5 wIn (andT (readE ts f .expr (j+1) (deep+1)) fun y k=>some (.ok (.mk 7 (nowT ts (i+1)).s 0 [x,y] t.l t.c) k)))
    else if isT ts i 5 wIf then
      if deep=40 then some (badT ts i) else
      andT (readE ts f .expr (i+1) (deep+1)) fun x j=>takeT ts j 5 wThen (andT (readE ts f .expr (j+1) (deep+1)) fun y k=>
        takeT ts k 5 wElse (andT (readE ts f .expr (k+1) (deep+1)) fun z m=>some (.ok (.mk 6 .empty 0 [x,y,z] t.l t.c) m)))
    else readE ts f .or i deep
  | f + 1, .or, i, deep => andT (readE ts f (.left 2) i deep) fun x j =>
    if isT ts j 6 wOr then andT (readE ts f .or (j+1) deep) fun y k=>some (.ok (.mk 5 wOr 0 [x,y] (nowT ts j).l (nowT ts j).c) k)
    else some (.ok x j)
  | f + 1, .left rank, i, deep =>
    if 4<rank then andT (readE ts f .atom i deep) fun x j=>readE ts f (.apps [x]) j deep
    else andT (readE ts f (.left (rank+1)) i deep) fun x j=>readE ts f (.more rank x) j deep
  | f + 1, .more rank e, i, deep =>
    let t:=nowT ts i
    if t.k=6∧bindsE t.s=rank then
      andT (readE ts f (.left (rank+1)) (i+1) deep) fun y j=>
        if rank=2 then some (.ok (.mk 5 t.s 0 [e,y] t.l t.c) j) else readE ts f (.more rank (.mk 5 t.s 0 [e,y] t.l t.c)) j deep
    else some (.ok e i)
  | f + 1, .apps l, i, deep =>
    if startsE (nowT ts i) then andT (readE ts f .atom i deep) fun x j=>readE ts f (.apps (l++[x])) j deep
    else some (.ok (appE l) i)
  | f + 1, .atom, i, deep =>
    match plainE (nowT ts i) with
    | some e=>some (.ok e (i+1))
    | none=>if isT ts i 6 wOpen then
        if deep=40 then some (badT ts i) else
        andT (readE ts f .expr (i+1) (deep+1)) fun x j=>takeT ts j 6 wClose (some (.ok x (j+1)))
      else some (badT ts i)
  | f + 1, .pat, i, deep =>
    if isT ts i 6 wWild then some (.ok (.mk 9 .empty 0 [] (nowT ts i).l (nowT ts i).c) (i+1)) else
    match plainE (nowT ts i) with
    | some e=>some (.ok e (i+1))
    | none=>if isT ts i 6 wOpen then
        if deep=40 then some (badT ts i) else
        if (nowT ts (i+1)).k=3 then andT (readE ts f .pat (i+1) (deep+1)) fun x j=>readE ts f (.pats [x]) j (deep+1)
        else andT (readE ts f .pat (i+1) (deep+1)) fun x j=>takeT ts j 6 wClose (some (.ok x (j+1)))
      else some (badT ts i)
  | f + 1, .pats l, i, deep =>
    if isT ts i 6 wClose then some (.ok (appE l) (i+1))
    else andT (readE ts f .pat i deep) fun x j=>readE ts f (.pats (l++[x])) j deep
end
section
theorem andT_ok {x:Option Rd1} {f:Ex→Nat→Option Rd1} {e:Ex} {j:Nat} (h:andT x f=some (.ok e j)):∃ a b,x=some (.ok a b)∧f a b=some (.ok e j):=by
  unfold andT at h
  split at h
  · cases h
  · cases h
  · exact ⟨_,_,rfl,h⟩
theorem takeT_ok {ts:List Tk} {i:Nat} {k:Int} {s:ByteArray} {f:Option Rd1} {e:Ex} {j:Nat} (h:takeT ts i k s f=some (.ok e j)):isT ts i k s=true∧f=some (.ok e j):=by
  unfold takeT at h
  split at h
  · exact ⟨by assumption,h⟩
  · unfold badT at h;cases h
theorem now_lt {ts:List Tk} {i:Nat} (h:(nowT ts i).k≠ -1):i<ts.length:=by
  unfold nowT at h
  split at h
  · rename_i t a
    exact (List.getElem?_eq_some_iff.1 a).1
  · split at h <;> exact absurd rfl h
theorem isT_lt {ts:List Tk} {i:Nat} {k:Int} {s:ByteArray} (h:isT ts i k s=true) (a:k≠ -1):i<ts.length:=by
  unfold isT at h;rw [Bool.and_eq_true,decide_eq_true_eq] at h;exact now_lt (by rw [h.1];exact a)
theorem plain_lt {ts:List Tk} {i:Nat} {e:Ex} (h:plainE (nowT ts i)=some e):i<ts.length:=by
  apply now_lt
  intro a;unfold plainE at h;rw [a] at h
  simp at h
def Fwd (ts:List Tk):Nt→Nat→Nat→Prop
  | .more _ _,i,j=>i≤j∧(j=i∨j≤ts.length)
  | .apps _,i,j=>i≤j∧(j=i∨j≤ts.length)
  | _,i,j=>i<j∧j≤ts.length
theorem readE_fwd {ts:List Tk} :∀ (f:Nat) (nt:Nt) (i deep:Nat) (e:Ex) (j:Nat),readE ts f nt i deep=some (.ok e j)→Fwd ts nt i j:=by
  intro f
  induction f with
  | zero=>intro nt i deep e j h;rw [readE] at h;cases h
  | succ f ih =>
    intro nt i deep e j h
    cases nt with
    | expr =>
      rw [readE] at h
      split at h
      · split at h
        · unfold badT at h;cases h
        · split at h
          · unfold badT at h;cases h
          · split at h
            · obtain ⟨_,h⟩:=takeT_ok h
              obtain ⟨x,k,h1,h2⟩:=andT_ok h;have :=ih _ _ _ _ _ h1;cases h2;simp only [Fwd] at this ⊢
              omega
            · obtain ⟨_,h⟩:=takeT_ok h
              obtain ⟨x,k,h1,h2⟩:=andT_ok h;obtain ⟨_,h2⟩:=takeT_ok h2;obtain ⟨y,m,h3,h4⟩:=andT_ok h2;have h5:=ih _ _ _ _ _ h1;have h6:=ih _ _ _ _ _ h3;cases h4;simp only [Fwd] at h5 h6 ⊢
              omega
      · split at h
        · split at h
          · unfold badT at h;cases h
          · obtain ⟨x,k,h1,h2⟩:=andT_ok h
            obtain ⟨_,h2⟩:=takeT_ok h2;obtain ⟨y,m,h3,h4⟩:=andT_ok h2;obtain ⟨_,h4⟩:=takeT_ok h4;obtain ⟨z,o,h5,h6⟩:=andT_ok h4;have g1:=ih _ _ _ _ _ h1;have g2:=ih _ _ _ _ _ h3;have g3:=ih _ _ _ _ _ h5;cases h6;simp only [Fwd] at g1 g2 g3 ⊢
            omega
        · have :=ih _ _ _ _ _ h
          simpa only [Fwd] using this
    | or =>
      rw [readE] at h;obtain ⟨x,k,h1,h2⟩:=andT_ok h;have g1:=ih _ _ _ _ _ h1
      split at h2
      · obtain ⟨y,m,h3,h4⟩:=andT_ok h2
        have g2:=ih _ _ _ _ _ h3;cases h4;simp only [Fwd] at g1 g2 ⊢
        omega
      · cases h2
        simpa only [Fwd] using g1
    | left rank =>
      rw [readE] at h
      split at h
      · obtain ⟨x,k,h1,h2⟩:=andT_ok h
        have g1:=ih _ _ _ _ _ h1;have g2:=ih _ _ _ _ _ h2;simp only [Fwd] at g1 g2 ⊢
        omega
      · obtain ⟨x,k,h1,h2⟩:=andT_ok h
        have g1:=ih _ _ _ _ _ h1;have g2:=ih _ _ _ _ _ h2;simp only [Fwd] at g1 g2 ⊢
        omega
    | more rank x =>
      rw [readE] at h
      split at h
      · obtain ⟨y,k,h1,h2⟩:=andT_ok h
        have g1:=ih _ _ _ _ _ h1
        split at h2
        · cases h2
          simp only [Fwd] at g1 ⊢
          omega
        · have g2:=ih _ _ _ _ _ h2
          simp only [Fwd] at g1 g2 ⊢
          omega
      · cases h
        exact ⟨Nat.le_refl _,.inl rfl⟩
    | apps l =>
      rw [readE] at h
      split at h
      · obtain ⟨y,k,h1,h2⟩:=andT_ok h
        have g1:=ih _ _ _ _ _ h1;have g2:=ih _ _ _ _ _ h2;simp only [Fwd] at g1 g2 ⊢
        omega
      · cases h
        exact ⟨Nat.le_refl _,.inl rfl⟩
    | atom =>
      rw [readE] at h
      split at h
      · rename_i x hx
        have :=plain_lt hx;cases h;simp only [Fwd]
        omega
      · split at h
        · split at h
          · unfold badT at h;cases h
          · obtain ⟨y,k,h1,h2⟩:=andT_ok h
            have g1:=ih _ _ _ _ _ h1;obtain ⟨g3,h2⟩:=takeT_ok h2;have :=isT_lt g3 (by decide);cases h2;simp only [Fwd] at g1 ⊢
            omega
        · unfold badT at h;cases h
    | pat =>
      rw [readE] at h
      split at h
      · rename_i hw
        have :=isT_lt hw (by decide);cases h;simp only [Fwd]
        omega
      · split at h
        · rename_i x hx
          have :=plain_lt hx;cases h;simp only [Fwd]
          omega
        · split at h
          · split at h
            · unfold badT at h;cases h
            · split at h
              · obtain ⟨y,k,h1,h2⟩:=andT_ok h
                have g1:=ih _ _ _ _ _ h1;have g2:=ih _ _ _ _ _ h2;simp only [Fwd] at g1 g2 ⊢
                omega
              · obtain ⟨y,k,h1,h2⟩:=andT_ok h
                have g1:=ih _ _ _ _ _ h1;obtain ⟨g3,h2⟩:=takeT_ok h2;have :=isT_lt g3 (by decide);cases h2;simp only [Fwd] at g1 ⊢
                omega
          · unfold badT at h;cases h
    | pats l =>
      rw [readE] at h
      split at h
      · rename_i hw
        have :=isT_lt hw (by decide);cases h;simp only [Fwd]
        omega
      · obtain ⟨y,k,h1,h2⟩:=andT_ok h
        have g1:=ih _ _ _ _ _ h1;have g2:=ih _ _ _ _ _ h2;simp only [Fwd] at g1 g2 ⊢
        omega
def wNt:Nt→Nat
  | .expr=>7
  | .or=>6
  | .left r=>2+(5 - r)
  | .more _ _=>1
  | .apps _=>2
  | .atom=>1
  | .pat=>1
  | .pats _=>2
theorem andT_some {x:Option Rd1} {f:Ex→Nat→Option Rd1} (b:x.isSome=true) (a:∀ e j,x=some (.ok e j)→(f e j).isSome=true):(andT x f).isSome=true:=by
  unfold andT
  split
  · cases b
  · rfl
  · exact a _ _ rfl
theorem takeT_some {ts:List Tk} {i:Nat} {k:Int} {s:ByteArray} {f:Option Rd1} (a:isT ts i k s=true→f.isSome=true):(takeT ts i k s f).isSome=true:=by
  unfold takeT
  split
  · exact a (by assumption)
  · rfl
theorem readE_total {ts:List Tk} :∀ (f:Nat) (nt:Nt) (i deep:Nat),8 * (ts.length - i)+wNt nt≤f→(readE ts f nt i deep).isSome=true:=by
  intro f
  induction f with
  | zero =>
    intro nt i deep h
    cases nt <;> simp only [wNt] at h <;> omega
  | succ f ih =>
    intro nt i deep h
    cases nt with
    | expr =>
      simp only [wNt] at h;rw [readE]
      split
      · rename_i hlet
        have :=isT_lt hlet (by decide)
        split
        · rfl
        · split
          · rfl
          · split
            · exact takeT_some fun _=>andT_some (ih _ _ _ (by simp only [wNt];omega)) fun _ _ _=>rfl
            · exact takeT_some fun _=>andT_some (ih _ _ _ (by simp only [wNt];omega)) fun e j hj=>takeT_some fun _=>by
                have g:=readE_fwd _ _ _ _ _ _ hj;simp only [Fwd] at g
                exact andT_some (ih _ _ _ (by simp only [wNt];omega)) fun _ _ _=>rfl
      · split
        · rename_i hif
          have :=isT_lt hif (by decide)
          split
          · rfl
          · exact andT_some (ih _ _ _ (by simp only [wNt];omega)) fun e j hj=>takeT_some fun _=>by
              have g:=readE_fwd _ _ _ _ _ _ hj;simp only [Fwd] at g
              exact andT_some (ih _ _ _ (by simp only [wNt];omega)) fun e k hk=>takeT_some fun _=>by
                have g2:=readE_fwd _ _ _ _ _ _ hk;simp only [Fwd] at g2
                exact andT_some (ih _ _ _ (by simp only [wNt];omega)) fun _ _ _=>rfl
        · exact ih _ _ _ (by simp only [wNt];omega)
    | or =>
      simp only [wNt] at h;rw [readE];refine andT_some (ih _ _ _ (by simp only [wNt];omega)) fun e j hj=>?_;have g:=readE_fwd _ _ _ _ _ _ hj;simp only [Fwd] at g
      split
      · exact andT_some (ih _ _ _ (by simp only [wNt];omega)) fun _ _ _=>rfl
      · rfl
    | left rank =>
      simp only [wNt] at h;rw [readE]
      split
      · refine andT_some (ih _ _ _ (by simp only [wNt];omega)) fun e j hj=>?_
        have g:=readE_fwd _ _ _ _ _ _ hj;simp only [Fwd] at g;exact ih _ _ _ (by simp only [wNt];omega)
      · refine andT_some (ih _ _ _ (by simp only [wNt];omega)) fun e j hj=>?_
        have g:=readE_fwd _ _ _ _ _ _ hj;simp only [Fwd] at g;exact ih _ _ _ (by simp only [wNt];omega)
    | more rank x =>
      simp only [wNt] at h;rw [readE]
      split
      · rename_i hc
        have :=now_lt (ts:=ts) (i:=i) (by rw [hc.1];decide);refine andT_some (ih _ _ _ (by simp only [wNt];omega)) fun e j hj=>?_;have g:=readE_fwd _ _ _ _ _ _ hj;simp only [Fwd] at g
        split
        · rfl
        · exact ih _ _ _ (by simp only [wNt];omega)
      · rfl
    | apps l =>
      simp only [wNt] at h;rw [readE]
      split
      · refine andT_some (ih _ _ _ (by simp only [wNt];omega)) fun e j hj=>?_
        have g:=readE_fwd _ _ _ _ _ _ hj;simp only [Fwd] at g;exact ih _ _ _ (by simp only [wNt];omega)
      · rfl
    | atom =>
      simp only [wNt] at h;rw [readE]
      split
      · rfl
      · split
        · rename_i hw
          have :=isT_lt hw (by decide)
          split
          · rfl
          · exact andT_some (ih _ _ _ (by simp only [wNt];omega)) fun _ _ _=>takeT_some fun _=>rfl
        · rfl
    | pat =>
      simp only [wNt] at h;rw [readE]
      split
      · rfl
      · split
        · rfl
        · split
          · rename_i hw
            have :=isT_lt hw (by decide)
            split
            · rfl
            · split
              · refine andT_some (ih _ _ _ (by simp only [wNt];omega)) fun e j hj=>?_
                have g:=readE_fwd _ _ _ _ _ _ hj;simp only [Fwd] at g;exact ih _ _ _ (by simp only [wNt];omega)
              · exact andT_some (ih _ _ _ (by simp only [wNt];omega)) fun _ _ _=>takeT_some fun _=>rfl
          · rfl
    | pats l =>
      simp only [wNt] at h;rw [readE]
      split
      · rfl
      · refine andT_some (ih _ _ _ (by simp only [wNt];omega)) fun e j hj=>?_
        have g:=readE_fwd _ _ _ _ _ _ hj;simp only [Fwd] at g;exact ih _ _ _ (by simp only [wNt];omega)
end
section
theorem now_ne {ts:List Tk} {p i:Nat} (a:(nowT ts p).k=0) (h:(nowT ts i).k≠0):i≠p:=fun e=>h (e ▸ a)
theorem isT_ne {ts:List Tk} {p i:Nat} {k:Int} {s:ByteArray} (b:(nowT ts p).k=0) (h:isT ts i k s=true) (a:k≠0):i≠p:=by
  unfold isT at h;rw [Bool.and_eq_true,decide_eq_true_eq] at h;exact now_ne b (by rw [h.1];exact a)
end
end Go.Proofs.YtcoiagfeoonpbaaGreat
