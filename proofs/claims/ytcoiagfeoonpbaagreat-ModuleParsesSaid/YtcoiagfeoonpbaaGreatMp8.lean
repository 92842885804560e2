/-
  What the parser's functions are to answer: an expression and where one is then, or what is thrown. Definitions and plain lemmas. No condition.
-/
import Derived.Test.YtcoiagfeoonpbaaGreatMp7
import Derived.Test.YtcoiagfeoonpbaaGreatMp3
set_option maxHeartbeats 20000000
set_option maxRecDepth 100000
namespace Go.Proofs.YtcoiagfeoonpbaaGreat
section
open Go.RowKit
section
variable (ts:List Tk) (aL:Option Addr) (n cap q:Nat)
def Ans (r:Rd1) (deep:Nat) (W:World) (e:Ending) (w':World):Prop:=
  match r with
  | .ok x j=>∃ a m c,e=.returned (exV x a m c)∧FarQ q W w'∧PS ts aL n cap q j (deep:Int) w'∧Mem (Nw 0 W.heap.size w'.heap.size) w' (.s 6 (Ex.rows x.args)) (.slice a m c)
  | .bad l c=>e=.panicked (faultV l c)∧FarQ q W w'∧∃ i' d':Int,Bo w' q 162 #[.slice aL n cap,.int .i64 i',.int .i64 d']
def Reads (fn:FuncId) (nt:Nt) (f:Nat):Prop:=∀ (i deep:Nat) (r:Rd1) (w:World),deep≤40→readE ts f nt i deep=some r→PS ts aL n cap q i (deep:Int) w→
  Calls Tryz.prog fn #[.pointer (some ⟨q,0,none⟩)] w (Ans ts aL n cap q r deep w)
def ReadsL (f:Nat):Prop:=∀ (rank i deep:Nat) (r:Rd1) (w:World),rank≤5→deep≤40→readE ts f (.left rank) i deep=some r→PS ts aL n cap q i (deep:Int) w→
  Calls Tryz.prog 147 #[.pointer (some ⟨q,0,none⟩),.int .i64 (rank:Int)] w (Ans ts aL n cap q r deep w)
def ReadsA (f:Nat):Prop:=∀ (i deep:Nat) (r:Rd1) (w:World),deep≤40→(andT (readE ts f .atom i deep) fun x j=>readE ts f (.apps [x]) j deep)=some r→PS ts aL n cap q i (deep:Int) w→
  Calls Tryz.prog 151 #[.pointer (some ⟨q,0,none⟩)] w (Ans ts aL n cap q r deep w)
structure AllR (F:Nat):Prop where
  ex:∀ g,g<F→Reads ts aL n cap q 97 .expr g
  or:∀ g,g<F→Reads ts aL n cap q 136 .or g
  le:∀ g,g<F→ReadsL ts aL n cap q g
  ap:∀ g,g<F→ReadsA ts aL n cap q g
  tm:∀ g,g<F→Reads ts aL n cap q 152 .atom g
end
section
variable {ts:List Tk} {aL:Option Addr} {n cap q i:Nat} {d:Int} {w w':World}
theorem PS.any (h:PS ts aL n cap q i d w):∃ e b:Int,Bo w q 162 #[.slice aL n cap,.int .i64 e,.int .i64 b]:=⟨_,_,h.bo⟩
theorem Nw.lift {base e f m b:Nat} (h:Nw 0 e f b) (o:base≤e) (p:f≤m):Nw 0 base m b:=by
  unfold Nw at h ⊢;omega
theorem memNw {base b:Nat} {x:At} {y:Value} (h:Mem (Nw 0 b w.heap.size) w x y) (e:base≤b):Mem (Nw 0 base w.heap.size) w x y:=
  h.mono (fun _ f=>f.lift e (Nat.le_refl _)) fun _ _=>rfl
theorem memFar {base:Nat} {Z:Nat→Prop} {x:At} {y:Value} (h:Mem (Nw 0 base w.heap.size) w x y) (f:Far Z w w') (m:∀ b,base≤b→ ¬Z b):Mem (Nw 0 base w'.heap.size) w' x y:=
  h.mono (fun _ e=>e.lift (Nat.le_refl _) f.size) fun b e=>f.block b e.2 (m b (by have :=e.1;omega))
theorem Far.setNew {Z:Nat→Prop} {a:World} (h:Far Z a w) {g:Nat} (f:a.heap.size≤g) (j:Nat) (v:Value):Far Z a (w.setCell ⟨g,j,none⟩ v):=
  ⟨h.os,h.tape,h.output,(by simpa [World.setCell] using h.size),fun k b e=>(heap_setCell_other w ⟨g,j,none⟩ k v (by show k≠g;omega)).trans (h.block k b e)⟩
theorem memAlloc {base:Nat} {x:At} {y:Value} (h:Mem (Nw 0 base w.heap.size) w x y) (o:Obj):Mem (Nw 0 base (w.alloc o).heap.size) (w.alloc o) x y:=memFar (Z:=fun _=>False) h (Far.of (below_new w o)) fun _ _ h=>h
theorem memSet {base g:Nat} {x:At} {y:Value} (h:Mem (Nw 0 base w.heap.size) w x y) (m:g<base) (j:Nat) (v:Value):Mem (Nw 0 base (w.setCell ⟨g,j,none⟩ v).heap.size) (w.setCell ⟨g,j,none⟩ v) x y:=
  memFar (Z:=fun b=>b=g) h ((Far.refl (fun b=>b=g) w).setCell (p:=⟨g,j,none⟩) rfl v) fun b f e=>by have :b=g:=e;omega
theorem row_ex {S:Nat→Prop} {w:World} (x:Ex) {a:Option Addr} {m c:Nat} (h:Mem S w (.s 6 (Ex.rows x.args)) (.slice a m c)):
    All2 (Mem S w) x.row [.int .i64 x.kind,.string x.name,.int .i64 x.n,.slice a m c,.int .i64 x.line,.int .i64 x.col]:=by
  cases x with
  | mk k s nn xs l cc =>
    rw [Ex.row];exact .cons (.v _ rfl) (.cons (.v _ rfl) (.cons (.v _ rfl) (.cons h (.cons (.v _ rfl) (.cons (.v _ rfl) .nil)))))
theorem OwnD.farZ {base:Nat} {e:TypeId} {sz:Nat} {y:Value} {rs:List (List At)} {Z:Nat→Prop} (h:OwnD 0 base e sz w y rs) (o:Far Z w w') (z:∀ b,base≤b→b<w.heap.size→ ¬Z b):OwnD 0 base e sz w' y rs:=by
  obtain ⟨css,p,m⟩:=h
  refine ⟨css,⟨p.1,?_⟩,m.imp fun r cs ⟨hc,hm⟩=>⟨hc,hm.imp fun x E D=>D.mono (fun b ⟨f,m⟩=>⟨f.lift (Nat.le_refl _) o.size,m⟩) fun b ⟨f,_⟩=>o.block b f.2 (z b (by have :=f.1;omega) f.2)⟩⟩
  rcases p.2 with C | ⟨g,cap,A,rfl,f,u,rest⟩
  · exact .inl C
  · have s:=(Array.getElem?_eq_some_iff.1 u).1
    exact .inr ⟨g,cap,A,rfl,f,(o.block g s (z g f s)).trans u,rest⟩
theorem OwnD.farq {base:Nat} {e:TypeId} {sz:Nat} {y:Value} {rs:List (List At)} (h:OwnD 0 base e sz w y rs) (f:FarQ q w w') (o:q<base):OwnD 0 base e sz w' y rs:=h.farZ f fun b m _ e=>by have :b=q:=e;omega
theorem OwnD.setB {base:Nat} {e:TypeId} {sz:Nat} {y:Value} {rs:List (List At)} (h:OwnD 0 base e sz w y rs) {g:Nat} (m:g<base) (j:Nat) (v:Value):OwnD 0 base e sz (w.setCell ⟨g,j,none⟩ v) y rs:=
  h.farZ ((Far.refl (fun b=>b=g) w).setCell (p:=⟨g,j,none⟩) rfl v) fun b f _ e=>by have :b=g:=e;omega
theorem grownFar {r:Option Nat} (h:w.grownBy w' r):Far (fun b=>r=some b) w w':=⟨h.os,h.tape,h.output,h.size,fun k f m=>h.block k f fun e=>m e.symm⟩
theorem PS.grown {r:Option Nat} (h:PS ts aL n cap q i d w) (m:w.grownBy w' r) (o:∀ k,r=some k→q<k):PS ts aL n cap q i d w':=
  ⟨h.bo.grown m fun k p e=>by have :=o k p;omega,h.tk.mono (fun _ f=>f) fun b f=>m.block b (Nat.lt_trans f h.lt) (fun e=>by have :=o b e.symm;have :b<q:=f;omega),h.sm⟩
theorem FarB.grown {B:Nat} {a:World} {r:Option Nat} (h:FarB q B a w) (f:w.grownBy w' r) (m:∀ k,r=some k→B≤k):FarB q B a w':=Far.trans h ((grownFar f).mono fun b e=>.inr (m b e))
theorem Ex.rows_app (a b:List Ex):Ex.rows (a++b)=Ex.rows a++Ex.rows b:=by rw [Ex.rows_eq,Ex.rows_eq,Ex.rows_eq,List.map_append]
theorem Ex.rows_len (a:List Ex):(Ex.rows a).length=a.length:=by rw [Ex.rows_eq,List.length_map]
theorem OwnD.form' {B base:Nat} {e:TypeId} {sz:Nat} {y:Value} {rs:List (List At)} (h:OwnD B base e sz w y rs):∃ a m c,y=.slice a m c:=by
  obtain ⟨a,c,e,_,_⟩:=h.form;exact ⟨a,_,c,e⟩
theorem info_ex:(Tryz.prog.info? 60).map (fun i=>(i.zero,i.size,i.bytes))=some (some (.agg #[.int .i64 0,.string .empty,.int .i64 0,.slice none 0 0,.int .i64 0,.int .i64 0]),6,72):=by kernel_rfl
def NwX (base g top:Nat) (b:Nat):Prop:=base≤b∧b<top∧b≠g
theorem memX_of {base e g:Nat} {x:At} {y:Value} (h:Mem (Nw 0 e w.heap.size) w x y) (m:base≤e) (o:g<e∨w.heap.size≤g):Mem (NwX base g w.heap.size) w x y:=
  h.mono (fun b f=>by unfold Nw at f;unfold NwX;omega) fun _ _=>rfl
theorem memX_nw {base g:Nat} {x:At} {y:Value} (h:Mem (NwX base g w.heap.size) w x y):Mem (Nw 0 base w.heap.size) w x y:=
  h.mono (fun b e=>by unfold NwX at e;unfold Nw;omega) fun _ _=>rfl
theorem memXFar {base g:Nat} {Z:Nat→Prop} {x:At} {y:Value} (h:Mem (NwX base g w.heap.size) w x y) (f:Far Z w w') (m:∀ b,base≤b→b≠g→ ¬Z b):Mem (NwX base g w'.heap.size) w' x y:=
  h.mono (fun _b e=>⟨e.1,Nat.lt_of_lt_of_le e.2.1 f.size,e.2.2⟩) fun b e=>f.block b e.2.1 (m b e.1 e.2.2)
theorem memXQ {base g:Nat} {x:At} {y:Value} (h:Mem (NwX base g w.heap.size) w x y) (f:FarQ q w w') (o:q<base):Mem (NwX base g w'.heap.size) w' x y:=memXFar h f fun b m _ e=>by have :b=q:=e;omega
theorem memXAlloc {base g:Nat} {x:At} {y:Value} (h:Mem (NwX base g w.heap.size) w x y) (o:Obj):Mem (NwX base g (w.alloc o).heap.size) (w.alloc o) x y:=memXFar (Z:=fun _=>False) h (Far.of (below_new w o)) fun _ _ _ h=>h
theorem memXSet {base g k:Nat} {x:At} {y:Value} (h:Mem (NwX base g w.heap.size) w x y) (o:k<base∨k=g) (j:Nat) (v:Value):Mem (NwX base g (w.setCell ⟨k,j,none⟩ v).heap.size) (w.setCell ⟨k,j,none⟩ v) x y:=
  memXFar (Z:=fun b=>b=k) h ((Far.refl (fun b=>b=k) w).setCell (p:=⟨k,j,none⟩) rfl v) fun b f m e=>by have :b=k:=e;omega
theorem builtX2 {base g:Nat} {x y:Ex} {a a':Option Addr} {m c m' c':Nat} (h:Mem (NwX base g w.heap.size) w (.s 6 (Ex.rows x.args)) (.slice a m c)) (h':Mem (NwX base g w.heap.size) w (.s 6 (Ex.rows y.args)) (.slice a' m' c')) (hb:base≤w.heap.size) (hg:g<w.heap.size):
    Mem (NwX base g (w.alloc (.cells #[.int .i64 x.kind,.string x.name,.int .i64 x.n,.slice a m c,.int .i64 x.line,.int .i64 x.col,.int .i64 y.kind,.string y.name,.int .i64 y.n,.slice a' m' c',.int .i64 y.line,.int .i64 y.col] 60)).heap.size) (w.alloc (.cells #[.int .i64 x.kind,.string x.name,.int .i64 x.n,.slice a m c,.int .i64 x.line,.int .i64 x.col,.int .i64 y.kind,.string y.name,.int .i64 y.n,.slice a' m' c',.int .i64 y.line,.int .i64 y.col] 60)) (.s 6 (Ex.rows [x,y])) (.slice (some ⟨w.heap.size,0,none⟩) 2 2):=by
  have hB:=Bo.new w 60 #[.int .i64 x.kind,.string x.name,.int .i64 x.n,.slice a m c,.int .i64 x.line,.int .i64 x.col,.int .i64 y.kind,.string y.name,.int .i64 y.n,.slice a' m' c',.int .i64 y.line,.int .i64 y.col];have hx:=(row_ex x (memXAlloc h (.cells #[.int .i64 x.kind,.string x.name,.int .i64 x.n,.slice a m c,.int .i64 x.line,.int .i64 x.col,.int .i64 y.kind,.string y.name,.int .i64 y.n,.slice a' m' c',.int .i64 y.line,.int .i64 y.col] 60)));have hy:=(row_ex y (memXAlloc h' (.cells #[.int .i64 x.kind,.string x.name,.int .i64 x.n,.slice a m c,.int .i64 x.line,.int .i64 x.col,.int .i64 y.kind,.string y.name,.int .i64 y.n,.slice a' m' c',.int .i64 y.line,.int .i64 y.col] 60)));have hlx:x.row.length=6:=hx.len;have hly:y.row.length=6:=hy.len
  have hv0:∀ j (hj:j<6),((#[.int .i64 x.kind,.string x.name,.int .i64 x.n,.slice a m c,.int .i64 x.line,.int .i64 x.col,.int .i64 y.kind,.string y.name,.int .i64 y.n,.slice a' m' c',.int .i64 y.line,.int .i64 y.col]:Array Value)[0 * 6+j]?).getD undef=([.int .i64 x.kind,.string x.name,.int .i64 x.n,.slice a m c,.int .i64 x.line,.int .i64 x.col]:List Value)[j]'hj:=fun j hj=>by
    match j,hj with
    | 0,_=>rfl
    | 1,_=>rfl
    | 2,_=>rfl
    | 3,_=>rfl
    | 4,_=>rfl
    | 5,_=>rfl
  have hv1:∀ j (hj:j<6),((#[.int .i64 x.kind,.string x.name,.int .i64 x.n,.slice a m c,.int .i64 x.line,.int .i64 x.col,.int .i64 y.kind,.string y.name,.int .i64 y.n,.slice a' m' c',.int .i64 y.line,.int .i64 y.col]:Array Value)[1 * 6+j]?).getD undef=([.int .i64 y.kind,.string y.name,.int .i64 y.n,.slice a' m' c',.int .i64 y.line,.int .i64 y.col]:List Value)[j]'hj:=fun j hj=>by
    match j,hj with
    | 0,_=>rfl
    | 1,_=>rfl
    | 2,_=>rfl
    | 3,_=>rfl
    | 4,_=>rfl
    | 5,_=>rfl
  rw [Ex.rows_eq];refine .s w.heap.size 0 2 2 6 _ (fun i j=>(#[Value.int .i64 x.kind,.string x.name,.int .i64 x.n,.slice a m c,.int .i64 x.line,.int .i64 x.col,.int .i64 y.kind,.string y.name,.int .i64 y.n,.slice a' m' c',.int .i64 y.line,.int .i64 y.col][i * 6+j]?).getD undef) rfl (Nat.le_refl _) (by decide) ⟨hb,by rw [World.size_alloc];omega,by omega⟩ (fun i hi=>?_) (fun i j hi hj=>?_) (fun i j hi hj=>?_)
  · match i,hi with
    | 0,_=>exact hlx
    | 1,_=>exact hly
  · refine hB.cell ?_
    rw [Nat.zero_add,Array.getElem?_eq_getElem (by simp;omega)]
    rfl
  · match i,hi with
    | 0, _ =>
      have hj':j<6:=by have :j<x.row.length:=hj;omega
      show Mem _ _ _ (((#[.int .i64 x.kind,.string x.name,.int .i64 x.n,.slice a m c,.int .i64 x.line,.int .i64 x.col,.int .i64 y.kind,.string y.name,.int .i64 y.n,.slice a' m' c',.int .i64 y.line,.int .i64 y.col]:Array Value)[0 * 6+j]?).getD undef)
      rw [hv0 j hj'];exact hx.at j (by omega) hj'
    | 1, _ =>
      have hj':j<6:=by have :j<y.row.length:=hj;omega
      show Mem _ _ _ (((#[.int .i64 x.kind,.string x.name,.int .i64 x.n,.slice a m c,.int .i64 x.line,.int .i64 x.col,.int .i64 y.kind,.string y.name,.int .i64 y.n,.slice a' m' c',.int .i64 y.line,.int .i64 y.col]:Array Value)[1 * 6+j]?).getD undef)
      rw [hv1 j hj'];exact hy.at j (by omega) hj'
def posQ (q:Nat) (w:World):Nat:=
  match w.cell? ⟨q,1,none⟩ with
  | some (.int _ k)=>k.toNat
  | _=>0
theorem PS.pos (h:PS ts aL n cap q i d w):posQ q w=i:=by
  unfold posQ;rw [h.c3.2.1];simp
theorem builtE1 {base:Nat} {x:Ex} {a:Option Addr} {m c:Nat} (h:Mem (Nw 0 base w.heap.size) w (.s 6 (Ex.rows x.args)) (.slice a m c)) (b:base≤w.heap.size):
    OwnD 0 base 60 6 (w.alloc (.cells #[.int .i64 x.kind,.string x.name,.int .i64 x.n,.slice a m c,.int .i64 x.line,.int .i64 x.col] 60)) (.slice (some ⟨w.heap.size,0,none⟩) 1 1) (Ex.rows [x]):=by
  rw [Ex.rows_eq];exact OwnD.built (css:=[[.int .i64 x.kind,.string x.name,.int .i64 x.n,.slice a m c,.int .i64 x.line,.int .i64 x.col]]) (.cons ⟨rfl,row_ex x h⟩ .nil) b 1 rfl (by decide) _ rfl
theorem builtE2 {base:Nat} {x y:Ex} {a b:Option Addr} {m c f e:Nat} (h:Mem (Nw 0 base w.heap.size) w (.s 6 (Ex.rows x.args)) (.slice a m c)) (o:Mem (Nw 0 base w.heap.size) w (.s 6 (Ex.rows y.args)) (.slice b f e)) (p:base≤w.heap.size):
    OwnD 0 base 60 6 (w.alloc (.cells #[.int .i64 x.kind,.string x.name,.int .i64 x.n,.slice a m c,.int .i64 x.line,.int .i64 x.col,.int .i64 y.kind,.string y.name,.int .i64 y.n,.slice b f e,.int .i64 y.line,.int .i64 y.col] 60)) (.slice (some ⟨w.heap.size,0,none⟩) 2 2) (Ex.rows [x,y]):=by
  rw [Ex.rows_eq];exact OwnD.built (css:=[[.int .i64 x.kind,.string x.name,.int .i64 x.n,.slice a m c,.int .i64 x.line,.int .i64 x.col],[.int .i64 y.kind,.string y.name,.int .i64 y.n,.slice b f e,.int .i64 y.line,.int .i64 y.col]]) (.cons ⟨rfl,row_ex x h⟩ (.cons ⟨rfl,row_ex y o⟩ .nil)) p 2 rfl (by decide) _ rfl
theorem builtE3 {base:Nat} {x y z:Ex} {a b e:Option Addr} {m c p f r o:Nat} (h:Mem (Nw 0 base w.heap.size) w (.s 6 (Ex.rows x.args)) (.slice a m c)) (u:Mem (Nw 0 base w.heap.size) w (.s 6 (Ex.rows y.args)) (.slice b p f)) (A:Mem (Nw 0 base w.heap.size) w (.s 6 (Ex.rows z.args)) (.slice e r o)) (C:base≤w.heap.size):
    OwnD 0 base 60 6 (w.alloc (.cells #[.int .i64 x.kind,.string x.name,.int .i64 x.n,.slice a m c,.int .i64 x.line,.int .i64 x.col,.int .i64 y.kind,.string y.name,.int .i64 y.n,.slice b p f,.int .i64 y.line,.int .i64 y.col,.int .i64 z.kind,.string z.name,.int .i64 z.n,.slice e r o,.int .i64 z.line,.int .i64 z.col] 60)) (.slice (some ⟨w.heap.size,0,none⟩) 3 3) (Ex.rows [x,y,z]):=by
  rw [Ex.rows_eq];exact OwnD.built (css:=[[.int .i64 x.kind,.string x.name,.int .i64 x.n,.slice a m c,.int .i64 x.line,.int .i64 x.col],[.int .i64 y.kind,.string y.name,.int .i64 y.n,.slice b p f,.int .i64 y.line,.int .i64 y.col],[.int .i64 z.kind,.string z.name,.int .i64 z.n,.slice e r o,.int .i64 z.line,.int .i64 z.col]]) (.cons ⟨rfl,row_ex x h⟩ (.cons ⟨rfl,row_ex y u⟩ (.cons ⟨rfl,row_ex z A⟩ .nil))) C 3 rfl (by decide) _ rfl
theorem ex_at {S:Nat→Prop} {w:World} {l:List Ex} {a:Option Addr} {m c:Nat} (h:Mem S w (.s 6 (Ex.rows l)) (.slice a m c)) (i:Nat) (hi:i<l.length):
    ∃ b o x a' m' c',a=some ⟨b,o,none⟩∧Hid (l[i]?=some x)∧w.cell? ⟨b,o+i * 6,none⟩=some (.int .i64 x.kind)∧w.cell? ⟨b,o+i * 6+1,none⟩=some (.string x.name)∧w.cell? ⟨b,o+i * 6+2,none⟩=some (.int .i64 x.n)∧w.cell? ⟨b,o+i * 6+3,none⟩=some (.slice a' m' c')∧w.cell? ⟨b,o+i * 6+4,none⟩=some (.int .i64 x.line)∧w.cell? ⟨b,o+i * 6+5,none⟩=some (.int .i64 x.col)∧Hid (Mem S w (.s 6 (Ex.rows x.args)) (.slice a' m' c')):=by
  obtain ⟨b,o,ha,_,_,cs,h2,hc⟩:=Mem.at h i (by rw [Ex.rows_len];exact hi)
  have e:(Ex.rows l)[i]'(by rw [Ex.rows_len];exact hi)=l[i].row:=by simp [Ex.rows_eq]
  rw [e] at h2;obtain ⟨x,hx⟩:∃ x,l[i]=x:=⟨_,rfl⟩;rw [hx] at h2
  cases x with
  | mk k s nn xs ln cl =>
    rw [Ex.row] at h2
    cases h2 with
    | cons g0 h2=>
    cases h2 with
    | cons g1 h2=>
    cases h2 with
    | cons g2 h2=>
    cases h2 with
    | cons g3 h2=>
    cases h2 with
    | cons g4 h2=>
    cases h2 with
    | cons g5 h2=>
    cases h2;obtain ⟨a',m',c',e3,_⟩:=g3.parts;subst e3;have c0:=hc 0 (by simp);have c1:=hc 1 (by simp);have c2:=hc 2 (by simp);have c3:=hc 3 (by simp);have c4:=hc 4 (by simp);have c5:=hc 5 (by simp);simp only [List.getElem_cons_zero,List.getElem_cons_succ,g0.val,g1.val,g2.val,g4.val,g5.val] at c0 c1 c2 c3 c4 c5;exact ⟨b,o,.mk k s nn xs ln cl,a',m',c',ha,zz (by rw [List.getElem?_eq_getElem hi,hx]),c0,c1,c2,c3,c4,c5,zz g3⟩
def lenV:Value→Nat
  | .slice _ m _=>m
  | _=>0
theorem OwnD.form2 {B base:Nat} {e:TypeId} {sz:Nat} {w:World} {y:Value} {l:List Ex} (h:OwnD B base e sz w y (Ex.rows l)):∃ a m c,y=.slice a m c∧m=l.length∧m≤c∧c≤9223372036854775807:=by
  obtain ⟨a,c,e,b,f⟩:=h.form;rw [Ex.rows_len] at e b;exact ⟨a,_,c,e,rfl,b,f⟩
theorem newRow {base:Nat} {y:Value} {rs:List (List At)} {W:World} {x:Ex} {a:Option Addr} {m c:Nat} (h:OwnD 0 base 60 6 W y rs) (e:base≤W.heap.size) (o:W.heap.size≤w.heap.size) (f:Mem (Nw 0 W.heap.size w.heap.size) w (.s 6 (Ex.rows x.args)) (.slice a m c)):
    Mem (fun b=>Nw 0 base (w.alloc (.cells #[.int .i64 x.kind,.string x.name,.int .i64 x.n,.slice a m c,.int .i64 x.line,.int .i64 x.col] 60)).heap.size b∧y.ownBlock≠some b) (w.alloc (.cells #[.int .i64 x.kind,.string x.name,.int .i64 x.n,.slice a m c,.int .i64 x.line,.int .i64 x.col] 60)) (.s 6 (Ex.rows [x])) (.slice (some ⟨w.heap.size,0,none⟩) 1 1):=
  h.apart (Nat.zero_le _) e (builtE1 f o).mem
end
section
variable {P:Program} {md:Region.Mode} {Q:Exit→Act→World→Prop} {S:World→Prop} {l:List Oper}
theorem twoL (i j:Nat) {oi b:Oper} {fuel:Nat} {listed:Array Bool} {a:Act} {w:World} (h:l[i]?=some oi) (m:l[j]?=some b) (o:Region.ready md l.toArray listed=[i,j]) (p:Region.wanted oi (yielded l.toArray a.tmps)=true) (r:Region.wanted b (yielded l.toArray a.tmps)=true)
    (e:∀ K':Act→World→Prop,Shut (∀ a w,S w→(S w→wpAnyH P md l.toArray Q S fuel (listed.setIfInBounds i true) a w)→K' a w)→Oper.wp P oi a w K' Q)
    (f:∀ K':Act→World→Prop,Shut (∀ a w,S w→(S w→wpAnyH P md l.toArray Q S fuel (listed.setIfInBounds j true) a w)→K' a w)→Oper.wp P b a w K' Q):wpAnyH P md l.toArray Q S (fuel+1) listed a w:=
  wpAnyH_ready o (by simp) (consL i h p e (consL j m r f AllReadyH.nil))
end
section
variable {w w' a:World} {q g j B:Nat} {t:TypeId}
theorem Bo.c1z {b:Value} (h:Bo w q t #[b]):w.cell? ⟨q,0,none⟩=some b∧∀ i:Nat,w.frozen? ⟨q,i,none⟩=false:=⟨h.cell (j:=0) rfl,fun i=>Bo.frozen h i⟩
theorem Far.c1z {o:Value} {Z:Nat→Prop} (h:w.cell? ⟨q,0,none⟩=some o∧∀ i:Nat,w.frozen? ⟨q,i,none⟩=false) (f:Far Z w w') (m: ¬Z q:=by intro e;rcases e with e | e <;> omega) (hq:q<w.heap.size:=by omega):w'.cell? ⟨q,0,none⟩=some o∧∀ i:Nat,w'.frozen? ⟨q,i,none⟩=false:=
  ⟨(World.cell?_of_block (f.block q hq m)).trans h.1,fun i=>(by have e:=f.block q hq m;have b:=h.2 i;unfold World.frozen? at b ⊢;rw [e];exact b)⟩
theorem Bo.c2z {b e:Value} (h:Bo w q t #[b,e]):w.cell? ⟨q,0,none⟩=some b∧w.cell? ⟨q,1,none⟩=some e∧∀ i:Nat,w.frozen? ⟨q,i,none⟩=false:=⟨h.cell (j:=0) rfl,h.cell (j:=1) rfl,fun i=>Bo.frozen h i⟩
theorem Far.c2z {o p:Value} {Z:Nat→Prop} (h:w.cell? ⟨q,0,none⟩=some o∧w.cell? ⟨q,1,none⟩=some p∧∀ i:Nat,w.frozen? ⟨q,i,none⟩=false) (b:Far Z w w') (f: ¬Z q:=by intro e;rcases e with e | e <;> omega) (hq:q<w.heap.size:=by omega):w'.cell? ⟨q,0,none⟩=some o∧w'.cell? ⟨q,1,none⟩=some p∧∀ i:Nat,w'.frozen? ⟨q,i,none⟩=false:=
  ⟨(World.cell?_of_block (b.block q hq f)).trans h.1,(World.cell?_of_block (b.block q hq f)).trans h.2.1,fun i=>(by have e:=b.block q hq f;have m:=h.2.2 i;unfold World.frozen? at m ⊢;rw [e];exact m)⟩
theorem Bo.set2 {m o:Value} {b f:Value} (h:Bo w q t #[m,o]) (e:((w.setCell ⟨q,0,none⟩ b).setCell ⟨q,1,none⟩ f)=w'):Bo w' q t #[b,f]:=e ▸ ((h.set 0 b).set 1 f)
theorem Bo.c3z {b e f:Value} (h:Bo w q t #[b,e,f]):w.cell? ⟨q,0,none⟩=some b∧w.cell? ⟨q,1,none⟩=some e∧w.cell? ⟨q,2,none⟩=some f∧∀ i:Nat,w.frozen? ⟨q,i,none⟩=false:=⟨h.cell (j:=0) rfl,h.cell (j:=1) rfl,h.cell (j:=2) rfl,fun i=>Bo.frozen h i⟩
theorem Far.c3z {o p r:Value} {Z:Nat→Prop} (h:w.cell? ⟨q,0,none⟩=some o∧w.cell? ⟨q,1,none⟩=some p∧w.cell? ⟨q,2,none⟩=some r∧∀ i:Nat,w.frozen? ⟨q,i,none⟩=false) (b:Far Z w w') (f: ¬Z q:=by intro e;rcases e with e | e <;> omega) (hq:q<w.heap.size:=by omega):w'.cell? ⟨q,0,none⟩=some o∧w'.cell? ⟨q,1,none⟩=some p∧w'.cell? ⟨q,2,none⟩=some r∧∀ i:Nat,w'.frozen? ⟨q,i,none⟩=false:=
  ⟨(World.cell?_of_block (b.block q hq f)).trans h.1,(World.cell?_of_block (b.block q hq f)).trans h.2.1,(World.cell?_of_block (b.block q hq f)).trans h.2.2.1,fun i=>(by have e:=b.block q hq f;have m:=h.2.2.2 i;unfold World.frozen? at m ⊢;rw [e];exact m)⟩
theorem Bo.set3 {o p r:Value} {b f m:Value} (h:Bo w q t #[o,p,r]) (e:(((w.setCell ⟨q,0,none⟩ b).setCell ⟨q,1,none⟩ f).setCell ⟨q,2,none⟩ m)=w'):Bo w' q t #[b,f,m]:=e ▸ (((h.set 0 b).set 1 f).set 2 m)
theorem Bo.c5z {b e f m o:Value} (h:Bo w q t #[b,e,f,m,o]):w.cell? ⟨q,0,none⟩=some b∧w.cell? ⟨q,1,none⟩=some e∧w.cell? ⟨q,2,none⟩=some f∧w.cell? ⟨q,3,none⟩=some m∧w.cell? ⟨q,4,none⟩=some o∧∀ i:Nat,w.frozen? ⟨q,i,none⟩=false:=⟨h.cell (j:=0) rfl,h.cell (j:=1) rfl,h.cell (j:=2) rfl,h.cell (j:=3) rfl,h.cell (j:=4) rfl,fun i=>Bo.frozen h i⟩
theorem Far.c5z {o p r s u:Value} {Z:Nat→Prop} (h:w.cell? ⟨q,0,none⟩=some o∧w.cell? ⟨q,1,none⟩=some p∧w.cell? ⟨q,2,none⟩=some r∧w.cell? ⟨q,3,none⟩=some s∧w.cell? ⟨q,4,none⟩=some u∧∀ i:Nat,w.frozen? ⟨q,i,none⟩=false) (b:Far Z w w') (f: ¬Z q:=by intro e;rcases e with e | e <;> omega) (hq:q<w.heap.size:=by omega):w'.cell? ⟨q,0,none⟩=some o∧w'.cell? ⟨q,1,none⟩=some p∧w'.cell? ⟨q,2,none⟩=some r∧w'.cell? ⟨q,3,none⟩=some s∧w'.cell? ⟨q,4,none⟩=some u∧∀ i:Nat,w'.frozen? ⟨q,i,none⟩=false:=
  ⟨(World.cell?_of_block (b.block q hq f)).trans h.1,(World.cell?_of_block (b.block q hq f)).trans h.2.1,(World.cell?_of_block (b.block q hq f)).trans h.2.2.1,(World.cell?_of_block (b.block q hq f)).trans h.2.2.2.1,(World.cell?_of_block (b.block q hq f)).trans h.2.2.2.2.1,fun i=>(by have e:=b.block q hq f;have m:=h.2.2.2.2.2 i;unfold World.frozen? at m ⊢;rw [e];exact m)⟩
theorem Bo.set5 {r s u x y:Value} {b f m o p:Value} (h:Bo w q t #[r,s,u,x,y]) (e:(((((w.setCell ⟨q,0,none⟩ b).setCell ⟨q,1,none⟩ f).setCell ⟨q,2,none⟩ m).setCell ⟨q,3,none⟩ o).setCell ⟨q,4,none⟩ p)=w'):Bo w' q t #[b,f,m,o,p]:=e ▸ (((((h.set 0 b).set 1 f).set 2 m).set 3 o).set 4 p)
theorem Bo.c6z {b e f m o p:Value} (h:Bo w q t #[b,e,f,m,o,p]):w.cell? ⟨q,0,none⟩=some b∧w.cell? ⟨q,1,none⟩=some e∧w.cell? ⟨q,2,none⟩=some f∧w.cell? ⟨q,3,none⟩=some m∧w.cell? ⟨q,4,none⟩=some o∧w.cell? ⟨q,5,none⟩=some p∧∀ i:Nat,w.frozen? ⟨q,i,none⟩=false:=⟨h.cell (j:=0) rfl,h.cell (j:=1) rfl,h.cell (j:=2) rfl,h.cell (j:=3) rfl,h.cell (j:=4) rfl,h.cell (j:=5) rfl,fun i=>Bo.frozen h i⟩
theorem Far.c6z {o p r s u x:Value} {Z:Nat→Prop} (h:w.cell? ⟨q,0,none⟩=some o∧w.cell? ⟨q,1,none⟩=some p∧w.cell? ⟨q,2,none⟩=some r∧w.cell? ⟨q,3,none⟩=some s∧w.cell? ⟨q,4,none⟩=some u∧w.cell? ⟨q,5,none⟩=some x∧∀ i:Nat,w.frozen? ⟨q,i,none⟩=false) (b:Far Z w w') (f: ¬Z q:=by intro e;rcases e with e | e <;> omega) (hq:q<w.heap.size:=by omega):w'.cell? ⟨q,0,none⟩=some o∧w'.cell? ⟨q,1,none⟩=some p∧w'.cell? ⟨q,2,none⟩=some r∧w'.cell? ⟨q,3,none⟩=some s∧w'.cell? ⟨q,4,none⟩=some u∧w'.cell? ⟨q,5,none⟩=some x∧∀ i:Nat,w'.frozen? ⟨q,i,none⟩=false:=
  ⟨(World.cell?_of_block (b.block q hq f)).trans h.1,(World.cell?_of_block (b.block q hq f)).trans h.2.1,(World.cell?_of_block (b.block q hq f)).trans h.2.2.1,(World.cell?_of_block (b.block q hq f)).trans h.2.2.2.1,(World.cell?_of_block (b.block q hq f)).trans h.2.2.2.2.1,(World.cell?_of_block (b.block q hq f)).trans h.2.2.2.2.2.1,fun i=>(by have e:=b.block q hq f;have m:=h.2.2.2.2.2.2 i;unfold World.frozen? at m ⊢;rw [e];exact m)⟩
theorem Bo.set6 {s u x y z A:Value} {b f m o p r:Value} (h:Bo w q t #[s,u,x,y,z,A]) (e:((((((w.setCell ⟨q,0,none⟩ b).setCell ⟨q,1,none⟩ f).setCell ⟨q,2,none⟩ m).setCell ⟨q,3,none⟩ o).setCell ⟨q,4,none⟩ p).setCell ⟨q,5,none⟩ r)=w'):Bo w' q t #[b,f,m,o,p,r]:=e ▸ ((((((h.set 0 b).set 1 f).set 2 m).set 3 o).set 4 p).set 5 r)
theorem Bo.far1 {b:Array Value} {f:Value} (h:Bo w q t b) (e:(w.setCell ⟨g,j,none⟩ f)=w') (m:q≠g):Bo w' q t b:=e ▸ (h.far j f m)
theorem memSet1 {base:Nat} {x:At} {y:Value} {b:Value} (h:Mem (Nw 0 base w.heap.size) w x y) (e:(w.setCell ⟨g,j,none⟩ b)=w') (f:g<base):Mem (Nw 0 base w'.heap.size) w' x y:=e ▸ (memSet h f j b)
theorem memXSet1 {base k:Nat} {x:At} {y:Value} {b:Value} (h:Mem (NwX base k w.heap.size) w x y) (e:(w.setCell ⟨g,j,none⟩ b)=w') (f:g<base∨g=k):Mem (NwX base k w'.heap.size) w' x y:=e ▸ (memXSet h f j b)
theorem OwnD.setB1 {base sz:Nat} {b:TypeId} {y:Value} {rs:List (List At)} {f:Value} (h:OwnD 0 base b sz w y rs) (e:(w.setCell ⟨g,j,none⟩ f)=w') (m:g<base):OwnD 0 base b sz w' y rs:=e ▸ (h.setB m j f)
theorem FarB.setN1 {b:Value} (h:FarB q B a w) (e:(w.setCell ⟨g,j,none⟩ b)=w') (f:B≤g):FarB q B a w':=e ▸ (h.setN f j b)
theorem PS.off1 {ts:List Tk} {aL:Option Addr} {n cap i:Nat} {d:Int} {b:Value} (h:PS ts aL n cap q i d w) (e:(w.setCell ⟨g,j,none⟩ b)=w') (f:q<g):PS ts aL n cap q i d w':=e ▸ (h.off f j b)
theorem sizeS1 {b:Value} (e:(w.setCell ⟨g,j,none⟩ b)=w'):w'.heap.size=w.heap.size:=by rw [←e];simp only [World.setCell,Array.size_modify]
theorem Bo.far2 {b:Array Value} {m o:Value} (h:Bo w q t b) (e:((w.setCell ⟨g,0,none⟩ m).setCell ⟨g,1,none⟩ o)=w') (f:q≠g):Bo w' q t b:=e ▸ ((h.far 0 m f).far 1 o f)
theorem FarB.setN2 {f m:Value} (h:FarB q B a w) (e:((w.setCell ⟨g,0,none⟩ f).setCell ⟨g,1,none⟩ m)=w') (b:B≤g):FarB q B a w':=e ▸ ((h.setN b 0 f).setN b 1 m)
theorem sizeS2 {b f:Value} (e:((w.setCell ⟨g,0,none⟩ b).setCell ⟨g,1,none⟩ f)=w'):w'.heap.size=w.heap.size:=by rw [←e];simp only [World.setCell,Array.size_modify]
theorem Bo.far3 {f:Array Value} {m o p:Value} (h:Bo w q t f) (e:(((w.setCell ⟨g,0,none⟩ m).setCell ⟨g,1,none⟩ o).setCell ⟨g,2,none⟩ p)=w') (b:q≠g):Bo w' q t f:=e ▸ (((h.far 0 m b).far 1 o b).far 2 p b)
theorem memSet3 {base:Nat} {x:At} {y:Value} {f m o:Value} (h:Mem (Nw 0 base w.heap.size) w x y) (e:(((w.setCell ⟨g,0,none⟩ f).setCell ⟨g,1,none⟩ m).setCell ⟨g,2,none⟩ o)=w') (b:g<base):Mem (Nw 0 base w'.heap.size) w' x y:=e ▸ (memSet (memSet (memSet h b 0 f) b 1 m) b 2 o)
theorem FarB.setN3 {f m o:Value} (h:FarB q B a w) (e:(((w.setCell ⟨g,0,none⟩ f).setCell ⟨g,1,none⟩ m).setCell ⟨g,2,none⟩ o)=w') (b:B≤g):FarB q B a w':=e ▸ (((h.setN b 0 f).setN b 1 m).setN b 2 o)
theorem sizeS3 {b f h:Value} (e:(((w.setCell ⟨g,0,none⟩ b).setCell ⟨g,1,none⟩ f).setCell ⟨g,2,none⟩ h)=w'):w'.heap.size=w.heap.size:=by rw [←e];simp only [World.setCell,Array.size_modify]
theorem Bo.far5 {f:Array Value} {m o p r s:Value} (h:Bo w q t f) (e:(((((w.setCell ⟨g,0,none⟩ m).setCell ⟨g,1,none⟩ o).setCell ⟨g,2,none⟩ p).setCell ⟨g,3,none⟩ r).setCell ⟨g,4,none⟩ s)=w') (b:q≠g):Bo w' q t f:=e ▸ (((((h.far 0 m b).far 1 o b).far 2 p b).far 3 r b).far 4 s b)
theorem OwnD.setB5 {base sz:Nat} {f:TypeId} {y:Value} {rs:List (List At)} {m o p r s:Value} (h:OwnD 0 base f sz w y rs) (e:(((((w.setCell ⟨g,0,none⟩ m).setCell ⟨g,1,none⟩ o).setCell ⟨g,2,none⟩ p).setCell ⟨g,3,none⟩ r).setCell ⟨g,4,none⟩ s)=w') (b:g<base):OwnD 0 base f sz w' y rs:=e ▸ (((((h.setB b 0 m).setB b 1 o).setB b 2 p).setB b 3 r).setB b 4 s)
theorem FarB.setN5 {f m o p r:Value} (h:FarB q B a w) (e:(((((w.setCell ⟨g,0,none⟩ f).setCell ⟨g,1,none⟩ m).setCell ⟨g,2,none⟩ o).setCell ⟨g,3,none⟩ p).setCell ⟨g,4,none⟩ r)=w') (b:B≤g):FarB q B a w':=e ▸ (((((h.setN b 0 f).setN b 1 m).setN b 2 o).setN b 3 p).setN b 4 r)
theorem Bo.far6 {f:Array Value} {m o p r s u:Value} (h:Bo w q t f) (e:((((((w.setCell ⟨g,0,none⟩ m).setCell ⟨g,1,none⟩ o).setCell ⟨g,2,none⟩ p).setCell ⟨g,3,none⟩ r).setCell ⟨g,4,none⟩ s).setCell ⟨g,5,none⟩ u)=w') (b:q≠g):Bo w' q t f:=e ▸ ((((((h.far 0 m b).far 1 o b).far 2 p b).far 3 r b).far 4 s b).far 5 u b)
theorem memSet6 {base:Nat} {x:At} {y:Value} {f m o p r s:Value} (h:Mem (Nw 0 base w.heap.size) w x y) (e:((((((w.setCell ⟨g,0,none⟩ f).setCell ⟨g,1,none⟩ m).setCell ⟨g,2,none⟩ o).setCell ⟨g,3,none⟩ p).setCell ⟨g,4,none⟩ r).setCell ⟨g,5,none⟩ s)=w') (b:g<base):Mem (Nw 0 base w'.heap.size) w' x y:=e ▸ (memSet (memSet (memSet (memSet (memSet (memSet h b 0 f) b 1 m) b 2 o) b 3 p) b 4 r) b 5 s)
theorem memXSet6 {base k:Nat} {x:At} {y:Value} {f m o p r s:Value} (h:Mem (NwX base k w.heap.size) w x y) (e:((((((w.setCell ⟨g,0,none⟩ f).setCell ⟨g,1,none⟩ m).setCell ⟨g,2,none⟩ o).setCell ⟨g,3,none⟩ p).setCell ⟨g,4,none⟩ r).setCell ⟨g,5,none⟩ s)=w') (b:g<base∨g=k):Mem (NwX base k w'.heap.size) w' x y:=e ▸ (memXSet (memXSet (memXSet (memXSet (memXSet (memXSet h b 0 f) b 1 m) b 2 o) b 3 p) b 4 r) b 5 s)
theorem OwnD.setB6 {base sz:Nat} {f:TypeId} {y:Value} {rs:List (List At)} {m o p r s u:Value} (h:OwnD 0 base f sz w y rs) (e:((((((w.setCell ⟨g,0,none⟩ m).setCell ⟨g,1,none⟩ o).setCell ⟨g,2,none⟩ p).setCell ⟨g,3,none⟩ r).setCell ⟨g,4,none⟩ s).setCell ⟨g,5,none⟩ u)=w') (b:g<base):OwnD 0 base f sz w' y rs:=e ▸ ((((((h.setB b 0 m).setB b 1 o).setB b 2 p).setB b 3 r).setB b 4 s).setB b 5 u)
theorem FarB.setN6 {f m o p r s:Value} (h:FarB q B a w) (e:((((((w.setCell ⟨g,0,none⟩ f).setCell ⟨g,1,none⟩ m).setCell ⟨g,2,none⟩ o).setCell ⟨g,3,none⟩ p).setCell ⟨g,4,none⟩ r).setCell ⟨g,5,none⟩ s)=w') (b:B≤g):FarB q B a w':=e ▸ ((((((h.setN b 0 f).setN b 1 m).setN b 2 o).setN b 3 p).setN b 4 r).setN b 5 s)
theorem PS.off6 {ts:List Tk} {aL:Option Addr} {n cap i:Nat} {d:Int} {f m o p r s:Value} (h:PS ts aL n cap q i d w) (e:((((((w.setCell ⟨g,0,none⟩ f).setCell ⟨g,1,none⟩ m).setCell ⟨g,2,none⟩ o).setCell ⟨g,3,none⟩ p).setCell ⟨g,4,none⟩ r).setCell ⟨g,5,none⟩ s)=w') (b:q<g):PS ts aL n cap q i d w':=e ▸ ((((((h.off b 0 f).off b 1 m).off b 2 o).off b 3 p).off b 4 r).off b 5 s)
theorem sizeS6 {b f h m o p:Value} (e:((((((w.setCell ⟨g,0,none⟩ b).setCell ⟨g,1,none⟩ f).setCell ⟨g,2,none⟩ h).setCell ⟨g,3,none⟩ m).setCell ⟨g,4,none⟩ o).setCell ⟨g,5,none⟩ p)=w'):w'.heap.size=w.heap.size:=by rw [←e];simp only [World.setCell,Array.size_modify]
theorem Bo.allocE {b:Array Value} {o:Obj} (h:Bo w q t b) (e:w.alloc o=w'):Bo w' q t b:=e ▸ h.alloc o
theorem memAllocE {base:Nat} {x:At} {y:Value} {o:Obj} (h:Mem (Nw 0 base w.heap.size) w x y) (e:w.alloc o=w'):Mem (Nw 0 base w'.heap.size) w' x y:=e ▸ memAlloc h o
theorem memXAllocE {base k:Nat} {x:At} {y:Value} {o:Obj} (h:Mem (NwX base k w.heap.size) w x y) (e:w.alloc o=w'):Mem (NwX base k w'.heap.size) w' x y:=e ▸ memXAlloc h o
theorem OwnD.allocE {base sz:Nat} {b:TypeId} {y:Value} {rs:List (List At)} {o:Obj} (h:OwnD 0 base b sz w y rs) (e:w.alloc o=w'):OwnD 0 base b sz w' y rs:=e ▸ h.alloc o
theorem FarB.allocE {o:Obj} (h:FarB q B a w) (e:w.alloc o=w'):FarB q B a w':=e ▸ h.alloc o
theorem PS.allocE {ts:List Tk} {aL:Option Addr} {n cap i:Nat} {d:Int} {o:Obj} (h:PS ts aL n cap q i d w) (e:w.alloc o=w'):PS ts aL n cap q i d w':=e ▸ h.alloc o
theorem sizeA {o:Obj} (e:w.alloc o=w'):w'.heap.size=w.heap.size+1:=by rw [←e,World.size_alloc]
theorem Bo.newE {f:Array Value} {b:Nat} (e:w.alloc (.cells f t)=w') (h:w.heap.size=b):Bo w' b t f:=e ▸ h ▸ Bo.new w t f
theorem Bo.drewE {b:Array Value} (h:Bo w q t b) (e:w.drew=w'):Bo w' q t b:=e ▸ h.drew
theorem memDrewE {base:Nat} {x:At} {y:Value} (h:Mem (Nw 0 base w.heap.size) w x y) (e:w.drew=w'):Mem (Nw 0 base w'.heap.size) w' x y:=e ▸ memFar (Z:=fun _=>False) h (Far.of (below_drew _)) fun _ _ h=>h
theorem memXDrewE {base k:Nat} {x:At} {y:Value} (h:Mem (NwX base k w.heap.size) w x y) (e:w.drew=w'):Mem (NwX base k w'.heap.size) w' x y:=e ▸ memXFar (Z:=fun _=>False) h (Far.of (below_drew _)) fun _ _ _ h=>h
theorem OwnD.drewE {base sz:Nat} {b:TypeId} {y:Value} {rs:List (List At)} (h:OwnD 0 base b sz w y rs) (e:w.drew=w'):OwnD 0 base b sz w' y rs:=e ▸ h.keep (below_drew _)
theorem FarB.drewE (h:FarB q B a w) (e:w.drew=w'):FarB q B a w':=e ▸ h.drew
theorem PS.drewE {ts:List Tk} {aL:Option Addr} {n cap i:Nat} {d:Int} (h:PS ts aL n cap q i d w) (e:w.drew=w'):PS ts aL n cap q i d w':=e ▸ h.drew
theorem sizeD (e:w.drew=w'):w'.heap.size=w.heap.size:=e ▸ rfl
theorem builtE1E {base:Nat} {x:Ex} {f:Option Addr} {m h:Nat} (r:Mem (Nw 0 base w.heap.size) w (.s 6 (Ex.rows x.args)) (.slice f m h)) (e:w.alloc (.cells #[.int .i64 x.kind,.string x.name,.int .i64 x.n,.slice f m h,.int .i64 x.line,.int .i64 x.col] 60)=w') {b:Nat} (o:w.heap.size=b) (p:base≤w.heap.size):OwnD 0 base 60 6 w' (.slice (some ⟨b,0,none⟩) 1 1) (Ex.rows [x]):=e ▸ o ▸ builtE1 r p
theorem builtE2E {base:Nat} {x y:Ex} {f h:Option Addr} {p m r o:Nat} (A:Mem (Nw 0 base w.heap.size) w (.s 6 (Ex.rows x.args)) (.slice f p m)) (C:Mem (Nw 0 base w.heap.size) w (.s 6 (Ex.rows y.args)) (.slice h r o)) (e:w.alloc (.cells #[.int .i64 x.kind,.string x.name,.int .i64 x.n,.slice f p m,.int .i64 x.line,.int .i64 x.col,.int .i64 y.kind,.string y.name,.int .i64 y.n,.slice h r o,.int .i64 y.line,.int .i64 y.col] 60)=w') {b:Nat} (u:w.heap.size=b) (z:base≤w.heap.size):OwnD 0 base 60 6 w' (.slice (some ⟨b,0,none⟩) 2 2) (Ex.rows [x,y]):=e ▸ u ▸ builtE2 A C z
theorem builtX2E {base k:Nat} {x y:Ex} {f h:Option Addr} {p m r o:Nat} (C:Mem (NwX base k w.heap.size) w (.s 6 (Ex.rows x.args)) (.slice f p m)) (D:Mem (NwX base k w.heap.size) w (.s 6 (Ex.rows y.args)) (.slice h r o)) (e:w.alloc (.cells #[.int .i64 x.kind,.string x.name,.int .i64 x.n,.slice f p m,.int .i64 x.line,.int .i64 x.col,.int .i64 y.kind,.string y.name,.int .i64 y.n,.slice h r o,.int .i64 y.line,.int .i64 y.col] 60)=w') {b:Nat} (u:w.heap.size=b) (A:base≤w.heap.size) (z:k<w.heap.size):Mem (NwX base k w'.heap.size) w' (.s 6 (Ex.rows [x,y])) (.slice (some ⟨b,0,none⟩) 2 2):=e ▸ u ▸ builtX2 C D A z
theorem builtE3E {base:Nat} {x y z:Ex} {f h m:Option Addr} {u o A p C r:Nat} (F:Mem (Nw 0 base w.heap.size) w (.s 6 (Ex.rows x.args)) (.slice f u o)) (G:Mem (Nw 0 base w.heap.size) w (.s 6 (Ex.rows y.args)) (.slice h A p)) (H:Mem (Nw 0 base w.heap.size) w (.s 6 (Ex.rows z.args)) (.slice m C r)) (e:w.alloc (.cells #[.int .i64 x.kind,.string x.name,.int .i64 x.n,.slice f u o,.int .i64 x.line,.int .i64 x.col,.int .i64 y.kind,.string y.name,.int .i64 y.n,.slice h A p,.int .i64 y.line,.int .i64 y.col,.int .i64 z.kind,.string z.name,.int .i64 z.n,.slice m C r,.int .i64 z.line,.int .i64 z.col] 60)=w') {b:Nat} (D:w.heap.size=b) (E:base≤w.heap.size):OwnD 0 base 60 6 w' (.slice (some ⟨b,0,none⟩) 3 3) (Ex.rows [x,y,z]):=e ▸ D ▸ builtE3 F G H E
theorem PS.setIE {ts:List Tk} {aL:Option Addr} {n cap i:Nat} {d:Int} (h:PS ts aL n cap q i d w) {k:Nat} {v:Int} (e:w.setCell ⟨q,1,none⟩ (.int .i64 v)=w') (b:v=(k:Int)):PS ts aL n cap q k d w':=e ▸ h.setI b
theorem PS.setDE {ts:List Tk} {aL:Option Addr} {n cap i:Nat} {d:Int} (h:PS ts aL n cap q i d w) {k v:Int} (e:w.setCell ⟨q,2,none⟩ (.int .i64 v)=w') (b:v=k):PS ts aL n cap q i k w':=e ▸ b ▸ h.setD v
theorem FarB.setQE {v:Value} (h:FarB q B a w) (e:w.setCell ⟨q,j,none⟩ v=w'):FarB q B a w':=e ▸ h.setQ j v
theorem PS.c3z {ts:List Tk} {aL:Option Addr} {n cap i:Nat} {d:Int} (h:PS ts aL n cap q i d w):w.cell? ⟨q,0,none⟩=some (.slice aL n cap)∧w.cell? ⟨q,1,none⟩=some (.int .i64 (i:Int))∧w.cell? ⟨q,2,none⟩=some (.int .i64 d)∧∀ i:Nat,w.frozen? ⟨q,i,none⟩=false:=h.bo.c3z
theorem bF1 {b:Array Value} {m:Value} (h:Hid (Bo w q t b)) (e:(w.setCell ⟨g,j,none⟩ m)=w') (f:q≠g:=by omega):Hid (Bo w' q t b):=zz (h.out.far1 e f)
theorem mS1 {base:Nat} {x:At} {y:Value} {f:Value} (h:Hid (Mem (Nw 0 base w.heap.size) w x y)) (e:(w.setCell ⟨g,j,none⟩ f)=w') (b:g<base:=by omega):Hid (Mem (Nw 0 base w'.heap.size) w' x y):=zz (memSet1 h.out e b)
theorem xS1 {base k:Nat} {x:At} {y:Value} {f:Value} (h:Hid (Mem (NwX base k w.heap.size) w x y)) (e:(w.setCell ⟨g,j,none⟩ f)=w') (b:g<base∨g=k:=by omega):Hid (Mem (NwX base k w'.heap.size) w' x y):=zz (memXSet1 h.out e b)
theorem oS1 {base sz:Nat} {b:TypeId} {y:Value} {rs:List (List At)} {m:Value} (h:Hid (OwnD 0 base b sz w y rs)) (e:(w.setCell ⟨g,j,none⟩ m)=w') (f:g<base:=by omega):Hid (OwnD 0 base b sz w' y rs):=zz (h.out.setB1 e f)
theorem fN1 {f:Value} (h:Hid (FarB q B a w)) (e:(w.setCell ⟨g,j,none⟩ f)=w') (b:B≤g:=by omega):Hid (FarB q B a w'):=zz (h.out.setN1 e b)
theorem pO1 {ts:List Tk} {aL:Option Addr} {n cap i:Nat} {d:Int} {f:Value} (h:Hid (PS ts aL n cap q i d w)) (e:(w.setCell ⟨g,j,none⟩ f)=w') (b:q<g:=by omega):Hid (PS ts aL n cap q i d w'):=zz (h.out.off1 e b)
theorem bF2 {b:Array Value} {m o:Value} (h:Hid (Bo w q t b)) (e:((w.setCell ⟨g,0,none⟩ m).setCell ⟨g,1,none⟩ o)=w') (f:q≠g:=by omega):Hid (Bo w' q t b):=zz (h.out.far2 e f)
theorem fN2 {f m:Value} (h:Hid (FarB q B a w)) (e:((w.setCell ⟨g,0,none⟩ f).setCell ⟨g,1,none⟩ m)=w') (b:B≤g:=by omega):Hid (FarB q B a w'):=zz (h.out.setN2 e b)
theorem bS2 {m o:Value} {b f:Value} (h:Hid (Bo w q t #[m,o])) (e:((w.setCell ⟨q,0,none⟩ b).setCell ⟨q,1,none⟩ f)=w'):Hid (Bo w' q t #[b,f]):=zz (h.out.set2 e)
theorem bF3 {b:Array Value} {m o p:Value} (h:Hid (Bo w q t b)) (e:(((w.setCell ⟨g,0,none⟩ m).setCell ⟨g,1,none⟩ o).setCell ⟨g,2,none⟩ p)=w') (f:q≠g:=by omega):Hid (Bo w' q t b):=zz (h.out.far3 e f)
theorem mS3 {base:Nat} {x:At} {y:Value} {f m o:Value} (h:Hid (Mem (Nw 0 base w.heap.size) w x y)) (e:(((w.setCell ⟨g,0,none⟩ f).setCell ⟨g,1,none⟩ m).setCell ⟨g,2,none⟩ o)=w') (b:g<base:=by omega):Hid (Mem (Nw 0 base w'.heap.size) w' x y):=zz (memSet3 h.out e b)
theorem fN3 {f m o:Value} (h:Hid (FarB q B a w)) (e:(((w.setCell ⟨g,0,none⟩ f).setCell ⟨g,1,none⟩ m).setCell ⟨g,2,none⟩ o)=w') (b:B≤g:=by omega):Hid (FarB q B a w'):=zz (h.out.setN3 e b)
theorem bS3 {o p r:Value} {b f m:Value} (h:Hid (Bo w q t #[o,p,r])) (e:(((w.setCell ⟨q,0,none⟩ b).setCell ⟨q,1,none⟩ f).setCell ⟨q,2,none⟩ m)=w'):Hid (Bo w' q t #[b,f,m]):=zz (h.out.set3 e)
theorem bF5 {b:Array Value} {m o p r s:Value} (h:Hid (Bo w q t b)) (e:(((((w.setCell ⟨g,0,none⟩ m).setCell ⟨g,1,none⟩ o).setCell ⟨g,2,none⟩ p).setCell ⟨g,3,none⟩ r).setCell ⟨g,4,none⟩ s)=w') (f:q≠g:=by omega):Hid (Bo w' q t b):=zz (h.out.far5 e f)
theorem oS5 {base sz:Nat} {b:TypeId} {y:Value} {rs:List (List At)} {m o p r s:Value} (h:Hid (OwnD 0 base b sz w y rs)) (e:(((((w.setCell ⟨g,0,none⟩ m).setCell ⟨g,1,none⟩ o).setCell ⟨g,2,none⟩ p).setCell ⟨g,3,none⟩ r).setCell ⟨g,4,none⟩ s)=w') (f:g<base:=by omega):Hid (OwnD 0 base b sz w' y rs):=zz (h.out.setB5 e f)
theorem fN5 {f m o p r:Value} (h:Hid (FarB q B a w)) (e:(((((w.setCell ⟨g,0,none⟩ f).setCell ⟨g,1,none⟩ m).setCell ⟨g,2,none⟩ o).setCell ⟨g,3,none⟩ p).setCell ⟨g,4,none⟩ r)=w') (b:B≤g:=by omega):Hid (FarB q B a w'):=zz (h.out.setN5 e b)
theorem bS5 {r s u x y:Value} {b f m o p:Value} (h:Hid (Bo w q t #[r,s,u,x,y])) (e:(((((w.setCell ⟨q,0,none⟩ b).setCell ⟨q,1,none⟩ f).setCell ⟨q,2,none⟩ m).setCell ⟨q,3,none⟩ o).setCell ⟨q,4,none⟩ p)=w'):Hid (Bo w' q t #[b,f,m,o,p]):=zz (h.out.set5 e)
theorem bF6 {b:Array Value} {m o p r s u:Value} (h:Hid (Bo w q t b)) (e:((((((w.setCell ⟨g,0,none⟩ m).setCell ⟨g,1,none⟩ o).setCell ⟨g,2,none⟩ p).setCell ⟨g,3,none⟩ r).setCell ⟨g,4,none⟩ s).setCell ⟨g,5,none⟩ u)=w') (f:q≠g:=by omega):Hid (Bo w' q t b):=zz (h.out.far6 e f)
theorem mS6 {base:Nat} {x:At} {y:Value} {f m o p r s:Value} (h:Hid (Mem (Nw 0 base w.heap.size) w x y)) (e:((((((w.setCell ⟨g,0,none⟩ f).setCell ⟨g,1,none⟩ m).setCell ⟨g,2,none⟩ o).setCell ⟨g,3,none⟩ p).setCell ⟨g,4,none⟩ r).setCell ⟨g,5,none⟩ s)=w') (b:g<base:=by omega):Hid (Mem (Nw 0 base w'.heap.size) w' x y):=zz (memSet6 h.out e b)
theorem xS6 {base k:Nat} {x:At} {y:Value} {f m o p r s:Value} (h:Hid (Mem (NwX base k w.heap.size) w x y)) (e:((((((w.setCell ⟨g,0,none⟩ f).setCell ⟨g,1,none⟩ m).setCell ⟨g,2,none⟩ o).setCell ⟨g,3,none⟩ p).setCell ⟨g,4,none⟩ r).setCell ⟨g,5,none⟩ s)=w') (b:g<base∨g=k:=by omega):Hid (Mem (NwX base k w'.heap.size) w' x y):=zz (memXSet6 h.out e b)
theorem oS6 {base sz:Nat} {b:TypeId} {y:Value} {rs:List (List At)} {m o p r s u:Value} (h:Hid (OwnD 0 base b sz w y rs)) (e:((((((w.setCell ⟨g,0,none⟩ m).setCell ⟨g,1,none⟩ o).setCell ⟨g,2,none⟩ p).setCell ⟨g,3,none⟩ r).setCell ⟨g,4,none⟩ s).setCell ⟨g,5,none⟩ u)=w') (f:g<base:=by omega):Hid (OwnD 0 base b sz w' y rs):=zz (h.out.setB6 e f)
theorem fN6 {f m o p r s:Value} (h:Hid (FarB q B a w)) (e:((((((w.setCell ⟨g,0,none⟩ f).setCell ⟨g,1,none⟩ m).setCell ⟨g,2,none⟩ o).setCell ⟨g,3,none⟩ p).setCell ⟨g,4,none⟩ r).setCell ⟨g,5,none⟩ s)=w') (b:B≤g:=by omega):Hid (FarB q B a w'):=zz (h.out.setN6 e b)
theorem pO6 {ts:List Tk} {aL:Option Addr} {n cap i:Nat} {d:Int} {f m o p r s:Value} (h:Hid (PS ts aL n cap q i d w)) (e:((((((w.setCell ⟨g,0,none⟩ f).setCell ⟨g,1,none⟩ m).setCell ⟨g,2,none⟩ o).setCell ⟨g,3,none⟩ p).setCell ⟨g,4,none⟩ r).setCell ⟨g,5,none⟩ s)=w') (b:q<g:=by omega):Hid (PS ts aL n cap q i d w'):=zz (h.out.off6 e b)
theorem bS6 {s u x y z A:Value} {b f m o p r:Value} (h:Hid (Bo w q t #[s,u,x,y,z,A])) (e:((((((w.setCell ⟨q,0,none⟩ b).setCell ⟨q,1,none⟩ f).setCell ⟨q,2,none⟩ m).setCell ⟨q,3,none⟩ o).setCell ⟨q,4,none⟩ p).setCell ⟨q,5,none⟩ r)=w'):Hid (Bo w' q t #[b,f,m,o,p,r]):=zz (h.out.set6 e)
theorem bA {b:Array Value} {o:Obj} (h:Hid (Bo w q t b)) (e:w.alloc o=w'):Hid (Bo w' q t b):=zz (Bo.allocE h.out e)
theorem bD {b:Array Value} (h:Hid (Bo w q t b)) (e:w.drew=w'):Hid (Bo w' q t b):=zz (Bo.drewE h.out e)
theorem mA {base:Nat} {x:At} {y:Value} {o:Obj} (h:Hid (Mem (Nw 0 base w.heap.size) w x y)) (e:w.alloc o=w'):Hid (Mem (Nw 0 base w'.heap.size) w' x y):=zz (memAllocE h.out e)
theorem mD {base:Nat} {x:At} {y:Value} (h:Hid (Mem (Nw 0 base w.heap.size) w x y)) (e:w.drew=w'):Hid (Mem (Nw 0 base w'.heap.size) w' x y):=zz (memDrewE h.out e)
theorem xA {base k:Nat} {x:At} {y:Value} {o:Obj} (h:Hid (Mem (NwX base k w.heap.size) w x y)) (e:w.alloc o=w'):Hid (Mem (NwX base k w'.heap.size) w' x y):=zz (memXAllocE h.out e)
theorem xD {base k:Nat} {x:At} {y:Value} (h:Hid (Mem (NwX base k w.heap.size) w x y)) (e:w.drew=w'):Hid (Mem (NwX base k w'.heap.size) w' x y):=zz (memXDrewE h.out e)
theorem oA {base sz:Nat} {b:TypeId} {y:Value} {rs:List (List At)} {o:Obj} (h:Hid (OwnD 0 base b sz w y rs)) (e:w.alloc o=w'):Hid (OwnD 0 base b sz w' y rs):=zz (OwnD.allocE h.out e)
theorem oD {base sz:Nat} {b:TypeId} {y:Value} {rs:List (List At)} (h:Hid (OwnD 0 base b sz w y rs)) (e:w.drew=w'):Hid (OwnD 0 base b sz w' y rs):=zz (OwnD.drewE h.out e)
theorem fA {o:Obj} (h:Hid (FarB q B a w)) (e:w.alloc o=w'):Hid (FarB q B a w'):=zz (FarB.allocE h.out e)
theorem fD (h:Hid (FarB q B a w)) (e:w.drew=w'):Hid (FarB q B a w'):=zz (FarB.drewE h.out e)
theorem pA {ts:List Tk} {aL:Option Addr} {n cap i:Nat} {d:Int} {o:Obj} (h:Hid (PS ts aL n cap q i d w)) (e:w.alloc o=w'):Hid (PS ts aL n cap q i d w'):=zz (PS.allocE h.out e)
theorem pD {ts:List Tk} {aL:Option Addr} {n cap i:Nat} {d:Int} (h:Hid (PS ts aL n cap q i d w)) (e:w.drew=w'):Hid (PS ts aL n cap q i d w'):=zz (PS.drewE h.out e)
theorem nB {f:Array Value} (e:w.alloc (.cells f t)=w') (b:Nat) (h:w.heap.size=b:=by omega):Hid (Bo w' b t f):=zz (Bo.newE e h)
theorem kB {b:Array Value} (h:Hid (Bo w q t b)) (e:Below w.heap.size w w'):Hid (Bo w' q t b):=zz (h.out.keep e)
theorem kP {ts:List Tk} {aL:Option Addr} {n cap i:Nat} {d:Int} (h:Hid (PS ts aL n cap q i d w)) (b:Below w.heap.size w w'):Hid (PS ts aL n cap q i d w'):=zz (h.out.keep b)
theorem kO {base sz:Nat} {b:TypeId} {y:Value} {rs:List (List At)} (h:Hid (OwnD 0 base b sz w y rs)) (e:Below w.heap.size w w'):Hid (OwnD 0 base b sz w' y rs):=zz (h.out.keep e)
theorem kF (h:Hid (FarB q B a w)) (b:Below w.heap.size w w'):Hid (FarB q B a w'):=zz (h.out.below b)
theorem kM {base:Nat} {x:At} {y:Value} (h:Hid (Mem (Nw 0 base w.heap.size) w x y)) (b:Below w.heap.size w w'):Hid (Mem (Nw 0 base w'.heap.size) w' x y):=zz (memFar (Z:=fun _=>False) h.out (Far.of b) fun _ _ h=>h)
theorem kX {k:Nat} {base:Nat} {x:At} {y:Value} (h:Hid (Mem (NwX base k w.heap.size) w x y)) (b:Below w.heap.size w w'):Hid (Mem (NwX base k w'.heap.size) w' x y):=zz (memXFar (Z:=fun _=>False) h.out (Far.of b) fun _ _ _ h=>h)
theorem qB {b:Array Value} (h:Hid (Bo w j t b)) (e:FarQ q w w') (f:j≠q:=by omega):Hid (Bo w' j t b):=zz (FarQ.bo h.out e f)
theorem qM {base:Nat} {x:At} {y:Value} (h:Hid (Mem (Nw 0 base w.heap.size) w x y)) (b:FarQ q w w') (e:q<base:=by omega):Hid (Mem (Nw 0 base w'.heap.size) w' x y):=zz (FarQ.mem h.out b e)
theorem qO {base sz:Nat} {b:TypeId} {y:Value} {rs:List (List At)} (h:Hid (OwnD 0 base b sz w y rs)) (e:FarQ q w w') (f:q<base:=by omega):Hid (OwnD 0 base b sz w' y rs):=zz (h.out.farq e f)
theorem qX {k:Nat} {base:Nat} {x:At} {y:Value} (h:Hid (Mem (NwX base k w.heap.size) w x y)) (b:FarQ q w w') (e:q<base:=by omega):Hid (Mem (NwX base k w'.heap.size) w' x y):=zz (memXQ h.out b e)
theorem qF (h:Hid (FarB q B a w)) (b:FarQ q w w'):Hid (FarB q B a w'):=zz (h.out.farq b)
theorem kc1 {b:Value} (h:Hid (Bo w q t #[b])):w.cell? ⟨q,0,none⟩=some b∧∀ i:Nat,w.frozen? ⟨q,i,none⟩=false:=h.out.c1z
theorem kc2 {b e:Value} (h:Hid (Bo w q t #[b,e])):w.cell? ⟨q,0,none⟩=some b∧w.cell? ⟨q,1,none⟩=some e∧∀ i:Nat,w.frozen? ⟨q,i,none⟩=false:=h.out.c2z
theorem kc3 {b e f:Value} (h:Hid (Bo w q t #[b,e,f])):w.cell? ⟨q,0,none⟩=some b∧w.cell? ⟨q,1,none⟩=some e∧w.cell? ⟨q,2,none⟩=some f∧∀ i:Nat,w.frozen? ⟨q,i,none⟩=false:=h.out.c3z
theorem kc5 {b e f m o:Value} (h:Hid (Bo w q t #[b,e,f,m,o])):w.cell? ⟨q,0,none⟩=some b∧w.cell? ⟨q,1,none⟩=some e∧w.cell? ⟨q,2,none⟩=some f∧w.cell? ⟨q,3,none⟩=some m∧w.cell? ⟨q,4,none⟩=some o∧∀ i:Nat,w.frozen? ⟨q,i,none⟩=false:=h.out.c5z
theorem kc6 {b e f m o p:Value} (h:Hid (Bo w q t #[b,e,f,m,o,p])):w.cell? ⟨q,0,none⟩=some b∧w.cell? ⟨q,1,none⟩=some e∧w.cell? ⟨q,2,none⟩=some f∧w.cell? ⟨q,3,none⟩=some m∧w.cell? ⟨q,4,none⟩=some o∧w.cell? ⟨q,5,none⟩=some p∧∀ i:Nat,w.frozen? ⟨q,i,none⟩=false:=h.out.c6z
theorem kcP {ts:List Tk} {aL:Option Addr} {n cap i:Nat} {d:Int} (h:Hid (PS ts aL n cap q i d w)):w.cell? ⟨q,0,none⟩=some (.slice aL n cap)∧w.cell? ⟨q,1,none⟩=some (.int .i64 (i:Int))∧w.cell? ⟨q,2,none⟩=some (.int .i64 d)∧∀ i:Nat,w.frozen? ⟨q,i,none⟩=false:=h.out.c3z
theorem gB {o:Obj} {r:Option Nat} {b:Array Value} (A:Nat) (h:Hid (Bo w q t b)) (m:(w.alloc o).grownBy w' r) (e:r=some A) (p:A≠q:=by omega):Hid (Bo w' q t b):=zz ((h.out.alloc o).grown m fun k f=>by rw [e] at f;cases f;exact p)
theorem rB {o:Obj} {r:Option Nat} {b:Array Value} (h:Hid (Bo w q t b)) (m:(w.alloc o).grownBy w' r) (e:r=none):Hid (Bo w' q t b):=zz ((h.out.alloc o).grown m fun k f=>by rw [e] at f;cases f)
theorem gF {o:Obj} {r:Option Nat} (A:Nat) (h:Hid (FarB q B a w)) (f:(w.alloc o).grownBy w' r) (e:r=some A) (m:B≤A:=by omega):Hid (FarB q B a w'):=zz ((h.out.alloc o).grown f fun k b=>by rw [e] at b;cases b;exact m)
theorem rF {o:Obj} {r:Option Nat} (h:Hid (FarB q B a w)) (f:(w.alloc o).grownBy w' r) (e:r=none):Hid (FarB q B a w'):=zz ((h.out.alloc o).grown f fun k b=>by rw [e] at b;cases b)
theorem gP {o:Obj} {r:Option Nat} {ts:List Tk} {aL:Option Addr} {n cap i:Nat} {d:Int} (A:Nat) (h:Hid (PS ts aL n cap q i d w)) (f:(w.alloc o).grownBy w' r) (e:r=some A) (m:q<A:=by omega):Hid (PS ts aL n cap q i d w'):=zz ((h.out.alloc o).grown f fun k b=>by rw [e] at b;cases b;exact m)
theorem rP {o:Obj} {r:Option Nat} {ts:List Tk} {aL:Option Addr} {n cap i:Nat} {d:Int} (h:Hid (PS ts aL n cap q i d w)) (f:(w.alloc o).grownBy w' r) (e:r=none):Hid (PS ts aL n cap q i d w'):=zz ((h.out.alloc o).grown f fun k b=>by rw [e] at b;cases b)
theorem pu1 {α:Type _} (i:Nat) (a:α) (l:List α):l.toArray.setIfInBounds i a=(l.set i a).toArray:=List.setIfInBounds_toArray ..
theorem pu2 {α:Type _} {a b:α} {l:List α} :(a::l).set 0 b=b::l:=List.set_cons_zero
theorem pu3 {α:Type _} {a b:α} {l:List α} {i:Nat} :(a::l).set (i+1) b=a::l.set i b:=List.set_cons_succ
theorem pu:(∀ (a:Act) (d:Nat) (v:Value),a.put (some d) v= { a with tmps:=a.tmps.setIfInBounds d v })∧(∀ (a:Act) (v:Value),a.put none v=a)∧(∀ (i:Nat) (a:Value) (l:List Value),l.toArray.setIfInBounds i a=(l.set i a).toArray)∧(∀ (a b:Value) (l:List Value),(a::l).set 0 b=b::l)∧(∀ (a b:Value) (l:List Value) (i:Nat),(a::l).set (i+1) b=a::l.set i b):=⟨fun _ _ _=>rfl,fun _ _=>rfl,fun i a l=>pu1 i a l,fun _ _ _=>pu2,fun _ _ _ _=>pu3⟩
section
variable {P:Program} {md:Region.Mode} {Q:Exit→Act→World→Prop} {S:World→Prop} {l:List Oper} (i:Nat) {oi:Oper} {fuel:Nat} {listed:Array Bool} {a:Act} {w:World}
theorem takeA {v:Value} (b:l[i]?=some oi) (f:∀ w,S w→(execOp a.eval oi).run P w=.ok (.value v) w) (h:wpAnyH P md l.toArray Q S fuel (listed.setIfInBounds i true) (a.put oi.dst v) w)
    (e:Region.noSelect l.toArray=true:=by kernel_rfl) (hf:Region.free md l.toArray listed i=true:=by kernel_rfl) (hr:(Region.ready md l.toArray listed).contains i=true:=by kernel_rfl)
    (hQ:∀ c a w,Q (.panic c) (a.put oi.dst v) w→Q (.panic c) a w:=by exact fun _ _ _ h=>h) (hw:Region.wanted oi (yielded l.toArray a.tmps)=true:=by rfl) (hS:S w:=by assumption):wpAnyH P md l.toArray Q S (fuel+1) listed a w:=
  takeL i b e hf hr hQ hw f hS h
theorem callA (b:l[i]?=some oi)
    (h:∀ K':Act→World→Prop,Shut (∀ a w,S w→(S w→wpAnyH P md l.toArray Q S fuel (listed.setIfInBounds i true) a w)→K' a w)→Oper.wp P oi a w K' Q) (e:Region.ready md l.toArray listed=[i]:=by kernel_rfl) (hw:Region.wanted oi (yielded l.toArray a.tmps)=true:=by rfl):wpAnyH P md l.toArray Q S (fuel+1) listed a w:=
  callL i b e hw h
end
end
theorem chain2 (b e:Nat) (f:b<e:=by omega):b<e∧b≠e∧e≠b:=by
  refine ⟨?_,?_,?_⟩ <;> omega
theorem chain3 (e b f:Nat) (h:e<b:=by omega) (h1:b<f:=by omega):e<b∧e≠b∧b≠e∧e<f∧e≠f∧f≠e∧b<f∧b≠f∧f≠b:=by
  refine ⟨?_,?_,?_,?_,?_,?_,?_,?_,?_⟩ <;> omega
theorem chain4 (f b e h:Nat) (m:f<b:=by omega) (h1:b<e:=by omega) (h2:e<h:=by omega):f<b∧f≠b∧b≠f∧f<e∧f≠e∧e≠f∧f<h∧f≠h∧h≠f∧b<e∧b≠e∧e≠b∧b<h∧b≠h∧h≠b∧e<h∧e≠h∧h≠e:=by
  refine ⟨?_,?_,?_,?_,?_,?_,?_,?_,?_,?_,?_,?_,?_,?_,?_,?_,?_,?_⟩ <;> omega
theorem chain5 (h b e f m:Nat) (o:h<b:=by omega) (h1:b<e:=by omega) (h2:e<f:=by omega) (h3:f<m:=by omega):h<b∧h≠b∧b≠h∧h<e∧h≠e∧e≠h∧h<f∧h≠f∧f≠h∧h<m∧h≠m∧m≠h∧b<e∧b≠e∧e≠b∧b<f∧b≠f∧f≠b∧b<m∧b≠m∧m≠b∧e<f∧e≠f∧f≠e∧e<m∧e≠m∧m≠e∧f<m∧f≠m∧m≠f:=by
  refine ⟨?_,?_,?_,?_,?_,?_,?_,?_,?_,?_,?_,?_,?_,?_,?_,?_,?_,?_,?_,?_,?_,?_,?_,?_,?_,?_,?_,?_,?_,?_⟩ <;> omega
theorem chain6 (m b e f h o:Nat) (p:m<b:=by omega) (h1:b<e:=by omega) (h2:e<f:=by omega) (h3:f<h:=by omega) (h4:h<o:=by omega):m<b∧m≠b∧b≠m∧m<e∧m≠e∧e≠m∧m<f∧m≠f∧f≠m∧m<h∧m≠h∧h≠m∧m<o∧m≠o∧o≠m∧b<e∧b≠e∧e≠b∧b<f∧b≠f∧f≠b∧b<h∧b≠h∧h≠b∧b<o∧b≠o∧o≠b∧e<f∧e≠f∧f≠e∧e<h∧e≠h∧h≠e∧e<o∧e≠o∧o≠e∧f<h∧f≠h∧h≠f∧f<o∧f≠o∧o≠f∧h<o∧h≠o∧o≠h:=by
  refine ⟨?_,?_,?_,?_,?_,?_,?_,?_,?_,?_,?_,?_,?_,?_,?_,?_,?_,?_,?_,?_,?_,?_,?_,?_,?_,?_,?_,?_,?_,?_,?_,?_,?_,?_,?_,?_,?_,?_,?_,?_,?_,?_,?_,?_,?_⟩ <;> omega
theorem chain7 (o b e f h m p:Nat) (r:o<b:=by omega) (h1:b<e:=by omega) (h2:e<f:=by omega) (h3:f<h:=by omega) (h4:h<m:=by omega) (h5:m<p:=by omega):o<b∧o≠b∧b≠o∧o<e∧o≠e∧e≠o∧o<f∧o≠f∧f≠o∧o<h∧o≠h∧h≠o∧o<m∧o≠m∧m≠o∧o<p∧o≠p∧p≠o∧b<e∧b≠e∧e≠b∧b<f∧b≠f∧f≠b∧b<h∧b≠h∧h≠b∧b<m∧b≠m∧m≠b∧b<p∧b≠p∧p≠b∧e<f∧e≠f∧f≠e∧e<h∧e≠h∧h≠e∧e<m∧e≠m∧m≠e∧e<p∧e≠p∧p≠e∧f<h∧f≠h∧h≠f∧f<m∧f≠m∧m≠f∧f<p∧f≠p∧p≠f∧h<m∧h≠m∧m≠h∧h<p∧h≠p∧p≠h∧m<p∧m≠p∧p≠m:=by
  refine ⟨?_,?_,?_,?_,?_,?_,?_,?_,?_,?_,?_,?_,?_,?_,?_,?_,?_,?_,?_,?_,?_,?_,?_,?_,?_,?_,?_,?_,?_,?_,?_,?_,?_,?_,?_,?_,?_,?_,?_,?_,?_,?_,?_,?_,?_,?_,?_,?_,?_,?_,?_,?_,?_,?_,?_,?_,?_,?_,?_,?_,?_,?_,?_⟩ <;> omega
theorem chain8 (p b e f h m o r:Nat) (s:p<b:=by omega) (h1:b<e:=by omega) (h2:e<f:=by omega) (h3:f<h:=by omega) (h4:h<m:=by omega) (h5:m<o:=by omega) (h6:o<r:=by omega):p<b∧p≠b∧b≠p∧p<e∧p≠e∧e≠p∧p<f∧p≠f∧f≠p∧p<h∧p≠h∧h≠p∧p<m∧p≠m∧m≠p∧p<o∧p≠o∧o≠p∧p<r∧p≠r∧r≠p∧b<e∧b≠e∧e≠b∧b<f∧b≠f∧f≠b∧b<h∧b≠h∧h≠b∧b<m∧b≠m∧m≠b∧b<o∧b≠o∧o≠b∧b<r∧b≠r∧r≠b∧e<f∧e≠f∧f≠e∧e<h∧e≠h∧h≠e∧e<m∧e≠m∧m≠e∧e<o∧e≠o∧o≠e∧e<r∧e≠r∧r≠e∧f<h∧f≠h∧h≠f∧f<m∧f≠m∧m≠f∧f<o∧f≠o∧o≠f∧f<r∧f≠r∧r≠f∧h<m∧h≠m∧m≠h∧h<o∧h≠o∧o≠h∧h<r∧h≠r∧r≠h∧m<o∧m≠o∧o≠m∧m<r∧m≠r∧r≠m∧o<r∧o≠r∧r≠o:=by
  refine ⟨?_,?_,?_,?_,?_,?_,?_,?_,?_,?_,?_,?_,?_,?_,?_,?_,?_,?_,?_,?_,?_,?_,?_,?_,?_,?_,?_,?_,?_,?_,?_,?_,?_,?_,?_,?_,?_,?_,?_,?_,?_,?_,?_,?_,?_,?_,?_,?_,?_,?_,?_,?_,?_,?_,?_,?_,?_,?_,?_,?_,?_,?_,?_,?_,?_,?_,?_,?_,?_,?_,?_,?_,?_,?_,?_,?_,?_,?_,?_,?_,?_,?_,?_,?_⟩ <;> omega
theorem chain9 (r b e f h m o p s:Nat) (u:r<b:=by omega) (h1:b<e:=by omega) (h2:e<f:=by omega) (h3:f<h:=by omega) (h4:h<m:=by omega) (h5:m<o:=by omega) (h6:o<p:=by omega) (h7:p<s:=by omega):r<b∧r≠b∧b≠r∧r<e∧r≠e∧e≠r∧r<f∧r≠f∧f≠r∧r<h∧r≠h∧h≠r∧r<m∧r≠m∧m≠r∧r<o∧r≠o∧o≠r∧r<p∧r≠p∧p≠r∧r<s∧r≠s∧s≠r∧b<e∧b≠e∧e≠b∧b<f∧b≠f∧f≠b∧b<h∧b≠h∧h≠b∧b<m∧b≠m∧m≠b∧b<o∧b≠o∧o≠b∧b<p∧b≠p∧p≠b∧b<s∧b≠s∧s≠b∧e<f∧e≠f∧f≠e∧e<h∧e≠h∧h≠e∧e<m∧e≠m∧m≠e∧e<o∧e≠o∧o≠e∧e<p∧e≠p∧p≠e∧e<s∧e≠s∧s≠e∧f<h∧f≠h∧h≠f∧f<m∧f≠m∧m≠f∧f<o∧f≠o∧o≠f∧f<p∧f≠p∧p≠f∧f<s∧f≠s∧s≠f∧h<m∧h≠m∧m≠h∧h<o∧h≠o∧o≠h∧h<p∧h≠p∧p≠h∧h<s∧h≠s∧s≠h∧m<o∧m≠o∧o≠m∧m<p∧m≠p∧p≠m∧m<s∧m≠s∧s≠m∧o<p∧o≠p∧p≠o∧o<s∧o≠s∧s≠o∧p<s∧p≠s∧s≠p:=by
  refine ⟨?_,?_,?_,?_,?_,?_,?_,?_,?_,?_,?_,?_,?_,?_,?_,?_,?_,?_,?_,?_,?_,?_,?_,?_,?_,?_,?_,?_,?_,?_,?_,?_,?_,?_,?_,?_,?_,?_,?_,?_,?_,?_,?_,?_,?_,?_,?_,?_,?_,?_,?_,?_,?_,?_,?_,?_,?_,?_,?_,?_,?_,?_,?_,?_,?_,?_,?_,?_,?_,?_,?_,?_,?_,?_,?_,?_,?_,?_,?_,?_,?_,?_,?_,?_,?_,?_,?_,?_,?_,?_,?_,?_,?_,?_,?_,?_,?_,?_,?_,?_,?_,?_,?_,?_,?_,?_,?_,?_⟩ <;> omega
theorem chain10 (s b e f h m o p r u:Nat) (x:s<b:=by omega) (h1:b<e:=by omega) (h2:e<f:=by omega) (h3:f<h:=by omega) (h4:h<m:=by omega) (h5:m<o:=by omega) (h6:o<p:=by omega) (h7:p<r:=by omega) (h8:r<u:=by omega):s<b∧s≠b∧b≠s∧s<e∧s≠e∧e≠s∧s<f∧s≠f∧f≠s∧s<h∧s≠h∧h≠s∧s<m∧s≠m∧m≠s∧s<o∧s≠o∧o≠s∧s<p∧s≠p∧p≠s∧s<r∧s≠r∧r≠s∧s<u∧s≠u∧u≠s∧b<e∧b≠e∧e≠b∧b<f∧b≠f∧f≠b∧b<h∧b≠h∧h≠b∧b<m∧b≠m∧m≠b∧b<o∧b≠o∧o≠b∧b<p∧b≠p∧p≠b∧b<r∧b≠r∧r≠b∧b<u∧b≠u∧u≠b∧e<f∧e≠f∧f≠e∧e<h∧e≠h∧h≠e∧e<m∧e≠m∧m≠e∧e<o∧e≠o∧o≠e∧e<p∧e≠p∧p≠e∧e<r∧e≠r∧r≠e∧e<u∧e≠u∧u≠e∧f<h∧f≠h∧h≠f∧f<m∧f≠m∧m≠f∧f<o∧f≠o∧o≠f∧f<p∧f≠p∧p≠f∧f<r∧f≠r∧r≠f∧f<u∧f≠u∧u≠f∧h<m∧h≠m∧m≠h∧h<o∧h≠o∧o≠h∧h<p∧h≠p∧p≠h∧h<r∧h≠r∧r≠h∧h<u∧h≠u∧u≠h∧m<o∧m≠o∧o≠m∧m<p∧m≠p∧p≠m∧m<r∧m≠r∧r≠m∧m<u∧m≠u∧u≠m∧o<p∧o≠p∧p≠o∧o<r∧o≠r∧r≠o∧o<u∧o≠u∧u≠o∧p<r∧p≠r∧r≠p∧p<u∧p≠u∧u≠p∧r<u∧r≠u∧u≠r:=by
  refine ⟨?_,?_,?_,?_,?_,?_,?_,?_,?_,?_,?_,?_,?_,?_,?_,?_,?_,?_,?_,?_,?_,?_,?_,?_,?_,?_,?_,?_,?_,?_,?_,?_,?_,?_,?_,?_,?_,?_,?_,?_,?_,?_,?_,?_,?_,?_,?_,?_,?_,?_,?_,?_,?_,?_,?_,?_,?_,?_,?_,?_,?_,?_,?_,?_,?_,?_,?_,?_,?_,?_,?_,?_,?_,?_,?_,?_,?_,?_,?_,?_,?_,?_,?_,?_,?_,?_,?_,?_,?_,?_,?_,?_,?_,?_,?_,?_,?_,?_,?_,?_,?_,?_,?_,?_,?_,?_,?_,?_,?_,?_,?_,?_,?_,?_,?_,?_,?_,?_,?_,?_,?_,?_,?_,?_,?_,?_,?_,?_,?_,?_,?_,?_,?_,?_,?_⟩ <;> omega
set_option maxRecDepth 20000 in
theorem chain12 (x b f h m o p r s u e y:Nat) (z:x<b:=by omega) (h1:b<f:=by omega) (h2:f<h:=by omega) (h3:h<m:=by omega) (h4:m<o:=by omega) (h5:o<p:=by omega) (h6:p<r:=by omega) (h7:r<s:=by omega) (h8:s<u:=by omega) (h9:u<e:=by omega) (h10:e<y:=by omega):x<b∧x≠b∧b≠x∧x<f∧x≠f∧f≠x∧x<h∧x≠h∧h≠x∧x<m∧x≠m∧m≠x∧x<o∧x≠o∧o≠x∧x<p∧x≠p∧p≠x∧x<r∧x≠r∧r≠x∧x<s∧x≠s∧s≠x∧x<u∧x≠u∧u≠x∧x<e∧x≠e∧e≠x∧x<y∧x≠y∧y≠x∧b<f∧b≠f∧f≠b∧b<h∧b≠h∧h≠b∧b<m∧b≠m∧m≠b∧b<o∧b≠o∧o≠b∧b<p∧b≠p∧p≠b∧b<r∧b≠r∧r≠b∧b<s∧b≠s∧s≠b∧b<u∧b≠u∧u≠b∧b<e∧b≠e∧e≠b∧b<y∧b≠y∧y≠b∧f<h∧f≠h∧h≠f∧f<m∧f≠m∧m≠f∧f<o∧f≠o∧o≠f∧f<p∧f≠p∧p≠f∧f<r∧f≠r∧r≠f∧f<s∧f≠s∧s≠f∧f<u∧f≠u∧u≠f∧f<e∧f≠e∧e≠f∧f<y∧f≠y∧y≠f∧h<m∧h≠m∧m≠h∧h<o∧h≠o∧o≠h∧h<p∧h≠p∧p≠h∧h<r∧h≠r∧r≠h∧h<s∧h≠s∧s≠h∧h<u∧h≠u∧u≠h∧h<e∧h≠e∧e≠h∧h<y∧h≠y∧y≠h∧m<o∧m≠o∧o≠m∧m<p∧m≠p∧p≠m∧m<r∧m≠r∧r≠m∧m<s∧m≠s∧s≠m∧m<u∧m≠u∧u≠m∧m<e∧m≠e∧e≠m∧m<y∧m≠y∧y≠m∧o<p∧o≠p∧p≠o∧o<r∧o≠r∧r≠o∧o<s∧o≠s∧s≠o∧o<u∧o≠u∧u≠o∧o<e∧o≠e∧e≠o∧o<y∧o≠y∧y≠o∧p<r∧p≠r∧r≠p∧p<s∧p≠s∧s≠p∧p<u∧p≠u∧u≠p∧p<e∧p≠e∧e≠p∧p<y∧p≠y∧y≠p∧r<s∧r≠s∧s≠r∧r<u∧r≠u∧u≠r∧r<e∧r≠e∧e≠r∧r<y∧r≠y∧y≠r∧s<u∧s≠u∧u≠s∧s<e∧s≠e∧e≠s∧s<y∧s≠y∧y≠s∧u<e∧u≠e∧e≠u∧u<y∧u≠y∧y≠u∧e<y∧e≠y∧y≠e:=by
  refine ⟨?_,?_,?_,?_,?_,?_,?_,?_,?_,?_,?_,?_,?_,?_,?_,?_,?_,?_,?_,?_,?_,?_,?_,?_,?_,?_,?_,?_,?_,?_,?_,?_,?_,?_,?_,?_,?_,?_,?_,?_,?_,?_,?_,?_,?_,?_,?_,?_,?_,?_,?_,?_,?_,?_,?_,?_,?_,?_,?_,?_,?_,?_,?_,?_,?_,?_,?_,?_,?_,?_,?_,?_,?_,?_,?_,?_,?_,?_,?_,?_,?_,?_,?_,?_,?_,?_,?_,?_,?_,?_,?_,?_,?_,?_,?_,?_,?_,?_,?_,?_,?_,?_,?_,?_,?_,?_,?_,?_,?_,?_,?_,?_,?_,?_,?_,?_,?_,?_,?_,?_,?_,?_,?_,?_,?_,?_,?_,?_,?_,?_,?_,?_,?_,?_,?_,?_,?_,?_,?_,?_,?_,?_,?_,?_,?_,?_,?_,?_,?_,?_,?_,?_,?_,?_,?_,?_,?_,?_,?_,?_,?_,?_,?_,?_,?_,?_,?_,?_,?_,?_,?_,?_,?_,?_,?_,?_,?_,?_,?_,?_,?_,?_,?_,?_,?_,?_,?_,?_,?_,?_,?_,?_,?_,?_,?_,?_,?_,?_⟩ <;> omega
theorem i01 (a:World):type_of% (chain2 a.heap.size (a.heap.size+1)):=chain2 _ _
theorem i012 (a:World):type_of% (chain3 a.heap.size (a.heap.size+1) (a.heap.size+2)):=chain3 _ _ _
theorem i0123 (a:World):type_of% (chain4 a.heap.size (a.heap.size+1) (a.heap.size+2) (a.heap.size+3)):=chain4 _ _ _ _
theorem i012_0 (a:World) (b:World) (e:(a.heap.size+2)<b.heap.size:=by omega):type_of% (chain4 a.heap.size (a.heap.size+1) (a.heap.size+2) b.heap.size):=chain4 _ _ _ _
theorem i012_01 (a:World) (b:World) (e:(a.heap.size+2)<b.heap.size:=by omega):type_of% (chain5 a.heap.size (a.heap.size+1) (a.heap.size+2) b.heap.size (b.heap.size+1)):=chain5 _ _ _ _ _
theorem i012_01_0 (a:World) (b:World) (c:World) (e:(a.heap.size+2)<b.heap.size:=by omega) (h2:(b.heap.size+1)<c.heap.size:=by omega):type_of% (chain6 a.heap.size (a.heap.size+1) (a.heap.size+2) b.heap.size (b.heap.size+1) c.heap.size):=chain6 _ _ _ _ _ _
theorem i012_01_01_0 (a:World) (b:World) (c:World) (d:World) (e:(a.heap.size+2)<b.heap.size:=by omega) (h2:(b.heap.size+1)<c.heap.size:=by omega) (h3:(c.heap.size+1)<d.heap.size:=by omega):type_of% (chain8 a.heap.size (a.heap.size+1) (a.heap.size+2) b.heap.size (b.heap.size+1) c.heap.size (c.heap.size+1) d.heap.size):=chain8 _ _ _ _ _ _ _ _
theorem i012_01_01_01_0 (a:World) (b:World) (c:World) (d:World) (e:World) (f:(a.heap.size+2)<b.heap.size:=by omega) (h2:(b.heap.size+1)<c.heap.size:=by omega) (h3:(c.heap.size+1)<d.heap.size:=by omega) (h4:(d.heap.size+1)<e.heap.size:=by omega):type_of% (chain10 a.heap.size (a.heap.size+1) (a.heap.size+2) b.heap.size (b.heap.size+1) c.heap.size (c.heap.size+1) d.heap.size (d.heap.size+1) e.heap.size):=chain10 _ _ _ _ _ _ _ _ _ _
set_option maxRecDepth 20000 in
theorem i012_01_01_01_01_0 (a:World) (b:World) (c:World) (d:World) (e:World) (f:World) (h:(a.heap.size+2)<b.heap.size:=by omega) (h2:(b.heap.size+1)<c.heap.size:=by omega) (h3:(c.heap.size+1)<d.heap.size:=by omega) (h4:(d.heap.size+1)<e.heap.size:=by omega) (h5:(e.heap.size+1)<f.heap.size:=by omega):type_of% (chain12 a.heap.size (a.heap.size+1) (a.heap.size+2) b.heap.size (b.heap.size+1) c.heap.size (c.heap.size+1) d.heap.size (d.heap.size+1) e.heap.size (e.heap.size+1) f.heap.size):=chain12 _ _ _ _ _ _ _ _ _ _ _ _
theorem i012_01_0_0 (a:World) (b:World) (c:World) (d:World) (e:(a.heap.size+2)<b.heap.size:=by omega) (h2:(b.heap.size+1)<c.heap.size:=by omega) (h3:c.heap.size<d.heap.size:=by omega):type_of% (chain7 a.heap.size (a.heap.size+1) (a.heap.size+2) b.heap.size (b.heap.size+1) c.heap.size d.heap.size):=chain7 _ _ _ _ _ _ _
theorem i012_01_0_012 (a:World) (b:World) (c:World) (d:World) (e:(a.heap.size+2)<b.heap.size:=by omega) (h2:(b.heap.size+1)<c.heap.size:=by omega) (h3:c.heap.size<d.heap.size:=by omega):type_of% (chain9 a.heap.size (a.heap.size+1) (a.heap.size+2) b.heap.size (b.heap.size+1) c.heap.size d.heap.size (d.heap.size+1) (d.heap.size+2)):=chain9 _ _ _ _ _ _ _ _ _
theorem i012_01_0_012_0 (a:World) (b:World) (c:World) (d:World) (e:World) (f:(a.heap.size+2)<b.heap.size:=by omega) (h2:(b.heap.size+1)<c.heap.size:=by omega) (h3:c.heap.size<d.heap.size:=by omega) (h4:(d.heap.size+2)<e.heap.size:=by omega):type_of% (chain10 a.heap.size (a.heap.size+1) (a.heap.size+2) b.heap.size (b.heap.size+1) c.heap.size d.heap.size (d.heap.size+1) (d.heap.size+2) e.heap.size):=chain10 _ _ _ _ _ _ _ _ _ _
theorem i012_01_0_01_0 (a:World) (b:World) (c:World) (d:World) (e:World) (f:(a.heap.size+2)<b.heap.size:=by omega) (h2:(b.heap.size+1)<c.heap.size:=by omega) (h3:c.heap.size<d.heap.size:=by omega) (h4:(d.heap.size+1)<e.heap.size:=by omega):type_of% (chain9 a.heap.size (a.heap.size+1) (a.heap.size+2) b.heap.size (b.heap.size+1) c.heap.size d.heap.size (d.heap.size+1) e.heap.size):=chain9 _ _ _ _ _ _ _ _ _
theorem i012_01_0_0_0 (a:World) (b:World) (c:World) (d:World) (e:World) (f:(a.heap.size+2)<b.heap.size:=by omega) (h2:(b.heap.size+1)<c.heap.size:=by omega) (h3:c.heap.size<d.heap.size:=by omega) (h4:d.heap.size<e.heap.size:=by omega):type_of% (chain8 a.heap.size (a.heap.size+1) (a.heap.size+2) b.heap.size (b.heap.size+1) c.heap.size d.heap.size e.heap.size):=chain8 _ _ _ _ _ _ _ _
theorem i012_01_0_0_01_0 (a:World) (b:World) (c:World) (d:World) (e:World) (f:World) (h:(a.heap.size+2)<b.heap.size:=by omega) (h2:(b.heap.size+1)<c.heap.size:=by omega) (h3:c.heap.size<d.heap.size:=by omega) (h4:d.heap.size<e.heap.size:=by omega) (h5:(e.heap.size+1)<f.heap.size:=by omega):type_of% (chain10 a.heap.size (a.heap.size+1) (a.heap.size+2) b.heap.size (b.heap.size+1) c.heap.size d.heap.size e.heap.size (e.heap.size+1) f.heap.size):=chain10 _ _ _ _ _ _ _ _ _ _
theorem i012_0_0 (a:World) (b:World) (c:World) (e:(a.heap.size+2)<b.heap.size:=by omega) (h2:b.heap.size<c.heap.size:=by omega):type_of% (chain5 a.heap.size (a.heap.size+1) (a.heap.size+2) b.heap.size c.heap.size):=chain5 _ _ _ _ _
theorem i012_0_012_0 (a:World) (b:World) (c:World) (d:World) (e:(a.heap.size+2)<b.heap.size:=by omega) (h2:b.heap.size<c.heap.size:=by omega) (h3:(c.heap.size+2)<d.heap.size:=by omega):type_of% (chain8 a.heap.size (a.heap.size+1) (a.heap.size+2) b.heap.size c.heap.size (c.heap.size+1) (c.heap.size+2) d.heap.size):=chain8 _ _ _ _ _ _ _ _
theorem i012_0_01_0 (a:World) (b:World) (c:World) (d:World) (e:(a.heap.size+2)<b.heap.size:=by omega) (h2:b.heap.size<c.heap.size:=by omega) (h3:(c.heap.size+1)<d.heap.size:=by omega):type_of% (chain7 a.heap.size (a.heap.size+1) (a.heap.size+2) b.heap.size c.heap.size (c.heap.size+1) d.heap.size):=chain7 _ _ _ _ _ _ _
theorem i012_1_0 (a:World) (b:World) (c:World) (e:(a.heap.size+2)<(b.heap.size+1):=by omega) (h2:(b.heap.size+1)<c.heap.size:=by omega):type_of% (chain5 a.heap.size (a.heap.size+1) (a.heap.size+2) (b.heap.size+1) c.heap.size):=chain5 _ _ _ _ _
theorem i01_0 (a:World) (b:World) (e:(a.heap.size+1)<b.heap.size:=by omega):type_of% (chain3 a.heap.size (a.heap.size+1) b.heap.size):=chain3 _ _ _
theorem i01_01 (a:World) (b:World) (e:(a.heap.size+1)<b.heap.size:=by omega):type_of% (chain4 a.heap.size (a.heap.size+1) b.heap.size (b.heap.size+1)):=chain4 _ _ _ _
theorem i01_012 (a:World) (b:World) (e:(a.heap.size+1)<b.heap.size:=by omega):type_of% (chain5 a.heap.size (a.heap.size+1) b.heap.size (b.heap.size+1) (b.heap.size+2)):=chain5 _ _ _ _ _
theorem i01_01_0 (a:World) (b:World) (c:World) (e:(a.heap.size+1)<b.heap.size:=by omega) (h2:(b.heap.size+1)<c.heap.size:=by omega):type_of% (chain5 a.heap.size (a.heap.size+1) b.heap.size (b.heap.size+1) c.heap.size):=chain5 _ _ _ _ _
theorem i01_0_0 (a:World) (b:World) (c:World) (e:(a.heap.size+1)<b.heap.size:=by omega) (h2:b.heap.size<c.heap.size:=by omega):type_of% (chain4 a.heap.size (a.heap.size+1) b.heap.size c.heap.size):=chain4 _ _ _ _
theorem i01_q_q_0 (a:World) (b:Nat) (c:Nat) (d:World) (e:(a.heap.size+1)<b:=by omega) (h2:b<c:=by omega) (h3:c<d.heap.size:=by omega):type_of% (chain5 a.heap.size (a.heap.size+1) b c d.heap.size):=chain5 _ _ _ _ _
theorem i0_0 (a:World) (b:World) (e:a.heap.size<b.heap.size:=by omega):type_of% (chain2 a.heap.size b.heap.size):=chain2 _ _
theorem i12_01_0 (a:World) (b:World) (c:World) (e:(a.heap.size+2)<b.heap.size:=by omega) (h2:(b.heap.size+1)<c.heap.size:=by omega):type_of% (chain5 (a.heap.size+1) (a.heap.size+2) b.heap.size (b.heap.size+1) c.heap.size):=chain5 _ _ _ _ _
theorem i12_1_0_0 (a:World) (b:World) (c:World) (d:World) (e:(a.heap.size+2)<(b.heap.size+1):=by omega) (h2:(b.heap.size+1)<c.heap.size:=by omega) (h3:c.heap.size<d.heap.size:=by omega):type_of% (chain5 (a.heap.size+1) (a.heap.size+2) (b.heap.size+1) c.heap.size d.heap.size):=chain5 _ _ _ _ _
theorem iq_01 (a:Nat) (b:World) (e:a<b.heap.size:=by omega):type_of% (chain3 a b.heap.size (b.heap.size+1)):=chain3 _ _ _
theorem iq_0_0 (a:Nat) (b:World) (c:World) (e:a<b.heap.size:=by omega) (h2:b.heap.size<c.heap.size:=by omega):type_of% (chain3 a b.heap.size c.heap.size):=chain3 _ _ _
theorem iq_0_01 (a:Nat) (b:World) (c:World) (e:a<b.heap.size:=by omega) (h2:b.heap.size<c.heap.size:=by omega):type_of% (chain4 a b.heap.size c.heap.size (c.heap.size+1)):=chain4 _ _ _ _
theorem iq_0_0_0 (a:Nat) (b:World) (c:World) (d:World) (e:a<b.heap.size:=by omega) (h2:b.heap.size<c.heap.size:=by omega) (h3:c.heap.size<d.heap.size:=by omega):type_of% (chain4 a b.heap.size c.heap.size d.heap.size):=chain4 _ _ _ _
theorem iq_0_0_0_0 (a:Nat) (b:World) (c:World) (d:World) (e:World) (f:a<b.heap.size:=by omega) (h2:b.heap.size<c.heap.size:=by omega) (h3:c.heap.size<d.heap.size:=by omega) (h4:d.heap.size<e.heap.size:=by omega):type_of% (chain5 a b.heap.size c.heap.size d.heap.size e.heap.size):=chain5 _ _ _ _ _
theorem iq_0_0_0_0_0 (a:Nat) (b:World) (c:World) (d:World) (e:World) (f:World) (h:a<b.heap.size:=by omega) (h2:b.heap.size<c.heap.size:=by omega) (h3:c.heap.size<d.heap.size:=by omega) (h4:d.heap.size<e.heap.size:=by omega) (h5:e.heap.size<f.heap.size:=by omega):type_of% (chain6 a b.heap.size c.heap.size d.heap.size e.heap.size f.heap.size):=chain6 _ _ _ _ _ _
theorem iq_12_0 (a:Nat) (b:World) (c:World) (e:a<(b.heap.size+1):=by omega) (h2:(b.heap.size+2)<c.heap.size:=by omega):type_of% (chain4 a (b.heap.size+1) (b.heap.size+2) c.heap.size):=chain4 _ _ _ _
theorem iq_1_0_0 (a:Nat) (b:World) (c:World) (d:World) (e:a<(b.heap.size+1):=by omega) (h2:(b.heap.size+1)<c.heap.size:=by omega) (h3:c.heap.size<d.heap.size:=by omega):type_of% (chain4 a (b.heap.size+1) c.heap.size d.heap.size):=chain4 _ _ _ _
section
variable {w w':World} {g q:Nat} {t:TypeId} {v:Value}
theorem s1_0 {b:Value} (h:Hid (Bo w g t #[b])) (e:w.setCell ⟨g,0,none⟩ v=w'):Hid (Bo w' g t #[v]):=zz (e ▸ h.out.set 0 v)
theorem s2_0 {f b:Value} (h:Hid (Bo w g t #[f,b])) (e:w.setCell ⟨g,0,none⟩ v=w'):Hid (Bo w' g t #[v,b]):=zz (e ▸ h.out.set 0 v)
theorem s2_1 {b f:Value} (h:Hid (Bo w g t #[b,f])) (e:w.setCell ⟨g,1,none⟩ v=w'):Hid (Bo w' g t #[b,v]):=zz (e ▸ h.out.set 1 v)
theorem s4_3 {b f m o:Value} (h:Hid (Bo w g t #[b,f,m,o])) (e:w.setCell ⟨g,3,none⟩ v=w'):Hid (Bo w' g t #[b,f,m,v]):=zz (e ▸ h.out.set 3 v)
theorem s5_0 {p b f m o:Value} (h:Hid (Bo w g t #[p,b,f,m,o])) (e:w.setCell ⟨g,0,none⟩ v=w'):Hid (Bo w' g t #[v,b,f,m,o]):=zz (e ▸ h.out.set 0 v)
theorem s5_1 {b p f m o:Value} (h:Hid (Bo w g t #[b,p,f,m,o])) (e:w.setCell ⟨g,1,none⟩ v=w'):Hid (Bo w' g t #[b,v,f,m,o]):=zz (e ▸ h.out.set 1 v)
theorem s5_2 {b f p m o:Value} (h:Hid (Bo w g t #[b,f,p,m,o])) (e:w.setCell ⟨g,2,none⟩ v=w'):Hid (Bo w' g t #[b,f,v,m,o]):=zz (e ▸ h.out.set 2 v)
theorem s6_0 {r b f m o p:Value} (h:Hid (Bo w g t #[r,b,f,m,o,p])) (e:w.setCell ⟨g,0,none⟩ v=w'):Hid (Bo w' g t #[v,b,f,m,o,p]):=zz (e ▸ h.out.set 0 v)
theorem s6_1 {b r f m o p:Value} (h:Hid (Bo w g t #[b,r,f,m,o,p])) (e:w.setCell ⟨g,1,none⟩ v=w'):Hid (Bo w' g t #[b,v,f,m,o,p]):=zz (e ▸ h.out.set 1 v)
theorem s6_2 {b f r m o p:Value} (h:Hid (Bo w g t #[b,f,r,m,o,p])) (e:w.setCell ⟨g,2,none⟩ v=w'):Hid (Bo w' g t #[b,f,v,m,o,p]):=zz (e ▸ h.out.set 2 v)
theorem s6_3 {b f m r o p:Value} (h:Hid (Bo w g t #[b,f,m,r,o,p])) (e:w.setCell ⟨g,3,none⟩ v=w'):Hid (Bo w' g t #[b,f,m,v,o,p]):=zz (e ▸ h.out.set 3 v)
theorem s6_4 {b f m o r p:Value} (h:Hid (Bo w g t #[b,f,m,o,r,p])) (e:w.setCell ⟨g,4,none⟩ v=w'):Hid (Bo w' g t #[b,f,m,o,v,p]):=zz (e ▸ h.out.set 4 v)
theorem s6_5 {b f m o p r:Value} (h:Hid (Bo w g t #[b,f,m,o,p,r])) (e:w.setCell ⟨g,5,none⟩ v=w'):Hid (Bo w' g t #[b,f,m,o,p,v]):=zz (e ▸ h.out.set 5 v)
theorem s11_0 {z b m o p r s u x y f:Value} (h:Hid (Bo w g t #[z,b,m,o,p,r,s,u,x,y,f])) (e:w.setCell ⟨g,0,none⟩ v=w'):Hid (Bo w' g t #[v,b,m,o,p,r,s,u,x,y,f]):=zz (e ▸ h.out.set 0 v)
theorem s11_1 {b z m o p r s u x y f:Value} (h:Hid (Bo w g t #[b,z,m,o,p,r,s,u,x,y,f])) (e:w.setCell ⟨g,1,none⟩ v=w'):Hid (Bo w' g t #[b,v,m,o,p,r,s,u,x,y,f]):=zz (e ▸ h.out.set 1 v)
theorem s11_2 {b f z o p r s u x y m:Value} (h:Hid (Bo w g t #[b,f,z,o,p,r,s,u,x,y,m])) (e:w.setCell ⟨g,2,none⟩ v=w'):Hid (Bo w' g t #[b,f,v,o,p,r,s,u,x,y,m]):=zz (e ▸ h.out.set 2 v)
theorem s11_3 {b f o z p r s u x y m:Value} (h:Hid (Bo w g t #[b,f,o,z,p,r,s,u,x,y,m])) (e:w.setCell ⟨g,3,none⟩ v=w'):Hid (Bo w' g t #[b,f,o,v,p,r,s,u,x,y,m]):=zz (e ▸ h.out.set 3 v)
theorem s11_4 {b f o p z r s u x y m:Value} (h:Hid (Bo w g t #[b,f,o,p,z,r,s,u,x,y,m])) (e:w.setCell ⟨g,4,none⟩ v=w'):Hid (Bo w' g t #[b,f,o,p,v,r,s,u,x,y,m]):=zz (e ▸ h.out.set 4 v)
theorem s11_5 {b f o p r z s u x y m:Value} (h:Hid (Bo w g t #[b,f,o,p,r,z,s,u,x,y,m])) (e:w.setCell ⟨g,5,none⟩ v=w'):Hid (Bo w' g t #[b,f,o,p,r,v,s,u,x,y,m]):=zz (e ▸ h.out.set 5 v)
theorem s11_6 {b f o p r s z u x y m:Value} (h:Hid (Bo w g t #[b,f,o,p,r,s,z,u,x,y,m])) (e:w.setCell ⟨g,6,none⟩ v=w'):Hid (Bo w' g t #[b,f,o,p,r,s,v,u,x,y,m]):=zz (e ▸ h.out.set 6 v)
theorem s11_7 {b f o p r s u z x y m:Value} (h:Hid (Bo w g t #[b,f,o,p,r,s,u,z,x,y,m])) (e:w.setCell ⟨g,7,none⟩ v=w'):Hid (Bo w' g t #[b,f,o,p,r,s,u,v,x,y,m]):=zz (e ▸ h.out.set 7 v)
theorem s11_8 {b f o p r s u x z y m:Value} (h:Hid (Bo w g t #[b,f,o,p,r,s,u,x,z,y,m])) (e:w.setCell ⟨g,8,none⟩ v=w'):Hid (Bo w' g t #[b,f,o,p,r,s,u,x,v,y,m]):=zz (e ▸ h.out.set 8 v)
theorem gOx {b:Array Value} {o:Obj} {r:Option Nat} {A:Nat} (h:Hid (Bo w q t b)) (e:(w.alloc o).grownBy w' r) (m:∀ k,r=some k→A≤k) (p:q<A:=by omega):Hid (Bo w' q t b):=zz ((h.out.alloc o).grown e fun k f=>by have :=m k f;omega)
theorem gFx {A b:Nat} {W:World} {o:Obj} {r:Option Nat} (h:Hid (FarB q b W w)) (e:(w.alloc o).grownBy w' r) (m:∀ k,r=some k→A≤k) (p:b≤A:=by omega):Hid (FarB q b W w'):=zz ((h.out.alloc o).grown e fun k f=>by have :=m k f;omega)
end
end
section
open Go.RowKit
theorem mnow_in {ts:List Tk} {aL:Option Addr} {n cap i q:Nat} {Z e0 e1 e2:Int} (w:World) (J:Bo w q 51 #[.slice aL n cap,.int .i64 (i:Int),.int .i64 Z,.int .i64 e0,.int .i64 e1,.int .i64 e2]) (h:MemW w (.s 5 (tkRows ts)) (.slice aL n cap)) (a0:i<n):
    Calls Tryz.prog 19 #[.pointer (some ⟨q,0,none⟩)] w fun e L=>e=.returned (tkV (nowT ts i))∧Below w.heap.size w L:=by
  have T:=h.len;rw [tkRows_len] at T;have H:=zz h;have C:w.cell? ⟨q,0,none⟩=some (.slice aL n cap):=J.cell (j:=0) rfl;have D:w.cell? ⟨q,1,none⟩=some (.int .i64 (i:Int)):=J.cell (j:=1) rfl;clear T h J
  · have a3:(i:Int)<(n:Int):=by omega
    obtain ⟨b,o,t,rfl,hb,Ht,U,V,W,X,Y⟩:=tk_at H.out i a0;have N:Hid (nowT ts i=t):=zz (now_at Ht.out);rw [N.out];clear Ht N;go_enter Tryz.func19,Tryz.ntmps19
    go_wp2
    have A:=zz (below_new w (.cells #[.int .i64 0,.string ⟨#[]⟩,.int .i64 0,.int .i64 0,.int .i64 0] 53));have O:=zz (Bo.new w 53 #[.int .i64 0,.string ⟨#[]⟩,.int .i64 0,.int .i64 0,.int .i64 0]);have a4:(w.alloc (.cells #[.int .i64 0,.string ⟨#[]⟩,.int .i64 0,.int .i64 0,.int .i64 0] 53)).heap.size=w.heap.size+1:=World.size_alloc _ _;have u:=C;have x:=D;have d:=U;have f:=V;have g:=W;have m:=X;have r:=Y;replace C:=cell_below C A.out;replace D:=cell_below D A.out;generalize w.alloc (.cells #[.int .i64 0,.string ⟨#[]⟩,.int .i64 0,.int .i64 0,.int .i64 0] 53)=B at *
    go_quiet (fail)
    go_wp2
    clear C D U V W X Y;have P:Hid (Below w.heap.size w (B.drewN nq).drew):=zz ((below_drewN A.out nq).trans ((below_drew _).mono (by show w.heap.size≤B.heap.size;omega)));have Q:Hid (Below w.heap.size w (B.drewN nq)):=zz (below_drewN A.out nq);have y:Hid (Bo (B.drewN nq) w.heap.size 53 #[.int .i64 0,.string ⟨#[]⟩,.int .i64 0,.int .i64 0,.int .i64 0]):=O;generalize B.drewN nq=M at *
    have fz:=fun k=>Bo.frozen y.out k
    have F:=y.out.cell (j:=0) rfl;have G:=y.out.cell (j:=1) rfl;have I:=y.out.cell (j:=2) rfl;have c3:=y.out.cell (j:=3) rfl;have c4:=y.out.cell (j:=4) rfl;refine wp_region_held_drew (S:=fun L=>Below w.heap.size w L) (by kernel_rfl) P.out (fun a1=>?_);refine takeA 0 (v:=?_) rfl ?_ ?_;rotate_left
    · (intro w a;replace u:=cell_below u a;replace x:=cell_below x a;replace d:=cell_below d a;replace f:=cell_below f a;replace g:=cell_below g a;replace m:=cell_below m a;replace r:=cell_below r a;go_simp;try rfl)
    (try simp only [pu]);refine takeA 1 (v:=?_) rfl ?_ ?_;rotate_left
    · (intro w a;replace u:=cell_below u a;replace x:=cell_below x a;replace d:=cell_below d a;replace f:=cell_below f a;replace g:=cell_below g a;replace m:=cell_below m a;replace r:=cell_below r a;go_simp;try rfl)
    (try simp only [pu]);refine takeA 2 (v:=?_) rfl ?_ ?_;rotate_left
    · (intro w a;replace u:=cell_below u a;replace x:=cell_below x a;replace d:=cell_below d a;replace f:=cell_below f a;replace g:=cell_below g a;replace m:=cell_below m a;replace r:=cell_below r a;go_simp;try rfl)
    (try simp only [pu]);refine takeA 3 (v:=?_) rfl ?_ ?_;rotate_left
    · (intro w a;replace u:=cell_below u a;replace x:=cell_below x a;replace d:=cell_below d a;replace f:=cell_below f a;replace g:=cell_below g a;replace m:=cell_below m a;replace r:=cell_below r a;go_simp;try rfl)
    (try simp only [pu]);refine takeA 4 (v:=?_) rfl ?_ ?_;rotate_left
    · (intro w a;replace u:=cell_below u a;replace x:=cell_below x a;replace d:=cell_below d a;replace f:=cell_below f a;replace g:=cell_below g a;replace m:=cell_below m a;replace r:=cell_below r a;go_simp;try rfl)
    (try simp only [pu]);refine takeA 5 (v:=?_) rfl ?_ ?_;rotate_left
    · (intro w a;replace u:=cell_below u a;replace x:=cell_below x a;replace d:=cell_below d a;replace f:=cell_below f a;replace g:=cell_below g a;replace m:=cell_below m a;replace r:=cell_below r a;go_simp;try rfl)
    (try simp only [pu]);refine takeA 6 (v:=?_) rfl ?_ ?_;rotate_left
    · (intro w a;replace u:=cell_below u a;replace x:=cell_below x a;replace d:=cell_below d a;replace f:=cell_below f a;replace g:=cell_below g a;replace m:=cell_below m a;replace r:=cell_below r a;go_simp;try rfl)
    (try simp only [pu]);refine takeA 7 (v:=?_) rfl ?_ ?_;rotate_left
    · (intro w a;replace u:=cell_below u a;replace x:=cell_below x a;replace d:=cell_below d a;replace f:=cell_below f a;replace g:=cell_below g a;replace m:=cell_below m a;replace r:=cell_below r a;go_simp;try rfl)
    (try simp only [pu]);refine takeA 8 (v:=?_) rfl ?_ ?_;rotate_left
    · (intro w a;replace u:=cell_below u a;replace x:=cell_below x a;replace d:=cell_below d a;replace f:=cell_below f a;replace g:=cell_below g a;replace m:=cell_below m a;replace r:=cell_below r a;go_simp;try rfl)
    (try simp only [pu]);refine takeA 9 (v:=?_) rfl ?_ ?_;rotate_left
    · (intro w a;replace u:=cell_below u a;replace x:=cell_below x a;replace d:=cell_below d a;replace f:=cell_below f a;replace g:=cell_below g a;replace m:=cell_below m a;replace r:=cell_below r a;go_simp;try rfl)
    (try simp only [pu]);refine callA 10 rfl fun K R=>?_;go_simp;have F0:Far (fun k=>w.heap.size≤k) w M:=Far.of Q.out;have F1:=F0.setCell (p:=⟨w.heap.size,0,none⟩) (Nat.le_refl _) (.int .i64 t.k);have F2:=F1.setCell (p:=⟨w.heap.size,1,none⟩) (Nat.le_refl _) (.string t.s);have F3:=F2.setCell (p:=⟨w.heap.size,2,none⟩) (Nat.le_refl _) (.int .i64 t.n);have F4:=F3.setCell (p:=⟨w.heap.size,3,none⟩) (Nat.le_refl _) (.int .i64 t.l);have F5:=F4.setCell (p:=⟨w.heap.size,4,none⟩) (Nat.le_refl _) (.int .i64 t.c);have F6:=F5.toB (Nat.le_refl _);have E:=zz (F6.trans ((below_drew _).mono F6.size));clear F0 F1 F2 F3 F4 F5 F6;have z:Hid (Bo (((((M.setCell ⟨w.heap.size,0,none⟩ (.int .i64 t.k)).setCell ⟨w.heap.size,1,none⟩ (.string t.s)).setCell ⟨w.heap.size,2,none⟩ (.int .i64 t.n)).setCell ⟨w.heap.size,3,none⟩ (.int .i64 t.l)).setCell ⟨w.heap.size,4,none⟩ (.int .i64 t.c)).drew w.heap.size 53 #[.int .i64 t.k,.string t.s,.int .i64 t.n,.int .i64 t.l,.int .i64 t.c]):=zz (((((y.out.set 0 (.int .i64 t.k)).set 1 (.string t.s)).set 2 (.int .i64 t.n)).set 3 (.int .i64 t.l)).set 4 (.int .i64 t.c));generalize (((((M.setCell ⟨w.heap.size,0,none⟩ (.int .i64 t.k)).setCell ⟨w.heap.size,1,none⟩ (.string t.s)).setCell ⟨w.heap.size,2,none⟩ (.int .i64 t.n)).setCell ⟨w.heap.size,3,none⟩ (.int .i64 t.l)).setCell ⟨w.heap.size,4,none⟩ (.int .i64 t.c)).drew=w9 at *;refine R.out _ _ E.out (fun a2=>?_);clear R K F G I c3 c4 fz;refine wpAnyH_done (by kernel_rfl) ?_ _;have F:=z.out.cell (j:=0) rfl;have G:=z.out.cell (j:=1) rfl;have I:=z.out.cell (j:=2) rfl;have c3:=z.out.cell (j:=3) rfl;have c4:=z.out.cell (j:=4) rfl
    go_wp2
    refine bodyPost_ret (v:=tkV t) (by clear H A O P Q y z E u x d f g m r;simp [results,Tryz.results19,go_sem,F,G,I,c3,c4,tkV]) rfl ?_;exact ⟨rfl,E.out⟩
theorem mnow_out {ts:List Tk} {aL:Option Addr} {n cap i q:Nat} {I J K L:Int} (w:World) (C:Bo w q 51 #[.slice aL n cap,.int .i64 (i:Int),.int .i64 I,.int .i64 J,.int .i64 K,.int .i64 L]) (h:MemW w (.s 5 (tkRows ts)) (.slice aL n cap)) (W: ¬i<n):
    Calls Tryz.prog 19 #[.pointer (some ⟨q,0,none⟩)] w fun e P=>e=.returned (tkV (nowT ts i))∧Below w.heap.size w P:=by
  have B:=h.len;rw [tkRows_len] at B;have z:=zz B.1;have V:=B.2.1;have Z:=B.2.2;have H:=zz h;have a0:=Bo.lt C;have D:w.cell? ⟨q,0,none⟩=some (.slice aL n cap):=C.cell (j:=0) rfl;have E:w.cell? ⟨q,1,none⟩=some (.int .i64 (i:Int)):=C.cell (j:=1) rfl;clear B h C
  by_cases M:n=0
  · subst M
    have O:ts=[]:=List.eq_nil_of_length_eq_zero z.out;subst O;have A:Hid (nowT [] i=noTk 0 0):=zz now_none;rw [A.out];clear A;go_enter Tryz.func19,Tryz.ntmps19
    go_wp2
    have f:=zz (below_new w (.cells #[.int .i64 0,.string ⟨#[]⟩,.int .i64 0,.int .i64 0,.int .i64 0] 53));have a:=zz (Bo.new w 53 #[.int .i64 0,.string ⟨#[]⟩,.int .i64 0,.int .i64 0,.int .i64 0]);have N:(w.alloc (.cells #[.int .i64 0,.string ⟨#[]⟩,.int .i64 0,.int .i64 0,.int .i64 0] 53)).heap.size=w.heap.size+1:=World.size_alloc _ _;replace D:=cell_below D f.out;replace E:=cell_below E f.out;generalize w.alloc (.cells #[.int .i64 0,.string ⟨#[]⟩,.int .i64 0,.int .i64 0,.int .i64 0] 53)=x at *
    have fz:=fun k=>Bo.frozen a.out k
    have g:=a.out.cell (j:=0) rfl;have r:=a.out.cell (j:=1) rfl;have u:=a.out.cell (j:=2) rfl;have c3:=a.out.cell (j:=3) rfl;have c4:=a.out.cell (j:=4) rfl
    go_quiet (fail)
    go_wp2
    have F0:Far (fun k=>w.heap.size≤k) w (x.drewN nq):=Far.of (below_drewN f.out nq);have F1:=F0.setCell (p:=⟨w.heap.size,0,none⟩) (Nat.le_refl _) (.int .i64 (-1));have F2:=F1.setCell (p:=⟨w.heap.size,1,none⟩) (Nat.le_refl _) (.string ⟨#[]⟩);have F3:=F2.setCell (p:=⟨w.heap.size,2,none⟩) (Nat.le_refl _) (.int .i64 0);have F4:=F3.setCell (p:=⟨w.heap.size,3,none⟩) (Nat.le_refl _) (.int .i64 0);have F5:=F4.setCell (p:=⟨w.heap.size,4,none⟩) (Nat.le_refl _) (.int .i64 0);have y:=zz ((F5.trans (Far.of (below_new _ (.cells #[.int .i64 (-1),.string ⟨#[]⟩,.int .i64 0,.int .i64 0,.int .i64 0] 53)))).toB (Nat.le_refl _));clear F0 F1 F2 F3 F4 F5;have d:Hid (Bo (((((((x.drewN nq).setCell ⟨w.heap.size,0,none⟩ (.int .i64 (-1))).setCell ⟨w.heap.size,1,none⟩ (.string ⟨#[]⟩)).setCell ⟨w.heap.size,2,none⟩ (.int .i64 0)).setCell ⟨w.heap.size,3,none⟩ (.int .i64 0)).setCell ⟨w.heap.size,4,none⟩ (.int .i64 0)).alloc (.cells #[.int .i64 (-1),.string ⟨#[]⟩,.int .i64 0,.int .i64 0,.int .i64 0] 53)) w.heap.size 53 #[.int .i64 (-1),.string ⟨#[]⟩,.int .i64 0,.int .i64 0,.int .i64 0]):=zz ((((((a.out.set 0 (.int .i64 (-1))).set 1 (.string ⟨#[]⟩)).set 2 (.int .i64 0)).set 3 (.int .i64 0)).set 4 (.int .i64 0)).alloc _);generalize (((((((x.drewN nq).setCell ⟨w.heap.size,0,none⟩ (.int .i64 (-1))).setCell ⟨w.heap.size,1,none⟩ (.string ⟨#[]⟩)).setCell ⟨w.heap.size,2,none⟩ (.int .i64 0)).setCell ⟨w.heap.size,3,none⟩ (.int .i64 0)).setCell ⟨w.heap.size,4,none⟩ (.int .i64 0)).alloc (.cells #[.int .i64 (-1),.string ⟨#[]⟩,.int .i64 0,.int .i64 0,.int .i64 0] 53))=Q at *;clear g r u c3 c4 fz;have g:=d.out.cell (j:=0) rfl;have r:=d.out.cell (j:=1) rfl;have u:=d.out.cell (j:=2) rfl;have c3:=d.out.cell (j:=3) rfl;have c4:=d.out.cell (j:=4) rfl;refine bodyPost_ret (v:=tkV (noTk 0 0)) (by clear H z f a d y;simp [results,Tryz.results19,go_sem,g,r,u,c3,c4,tkV,noTk];try rfl) rfl ?_;exact ⟨rfl,y.out⟩
  · obtain ⟨m,rfl⟩:∃ m,n=m+1:=⟨n - 1,by omega⟩
    obtain ⟨b,o,t,rfl,U,Ht,R,S,T,F,G⟩:=tk_at H.out m (by omega)
    have A:Hid (nowT ts i=noTk t.l t.c):=zz (now_past (by have :=z.out;omega) (by rw [List.getLast?_eq_getElem?,z.out];exact Ht.out))
    rw [A.out];clear Ht A R S T
    have X:(m:Int)+1 - 1=(m:Int):=by omega
    have Y: ¬(((m:Nat):Int)+1≤0):=by omega
    go_enter Tryz.func19,Tryz.ntmps19
    go_wp2
    have f:=zz (below_new w (.cells #[.int .i64 0,.string ⟨#[]⟩,.int .i64 0,.int .i64 0,.int .i64 0] 53));have a:=zz (Bo.new w 53 #[.int .i64 0,.string ⟨#[]⟩,.int .i64 0,.int .i64 0,.int .i64 0]);have N:(w.alloc (.cells #[.int .i64 0,.string ⟨#[]⟩,.int .i64 0,.int .i64 0,.int .i64 0] 53)).heap.size=w.heap.size+1:=World.size_alloc _ _;replace D:=cell_below D f.out;replace E:=cell_below E f.out;replace F:=cell_below F f.out;replace G:=cell_below G f.out;generalize w.alloc (.cells #[.int .i64 0,.string ⟨#[]⟩,.int .i64 0,.int .i64 0,.int .i64 0] 53)=x at *
    have fz:=fun k=>Bo.frozen a.out k
    have g:=a.out.cell (j:=0) rfl;have r:=a.out.cell (j:=1) rfl;have u:=a.out.cell (j:=2) rfl;have c3:=a.out.cell (j:=3) rfl;have c4:=a.out.cell (j:=4) rfl
    go_quiet (fail)
    go_wp2
    have F0:Far (fun k=>w.heap.size≤k) w (x.drewN nq):=Far.of (below_drewN f.out nq);have F1:=F0.setCell (p:=⟨w.heap.size,0,none⟩) (Nat.le_refl _) (.int .i64 (-1));have F2:=F1.setCell (p:=⟨w.heap.size,1,none⟩) (Nat.le_refl _) (.string ⟨#[]⟩);have F3:=F2.setCell (p:=⟨w.heap.size,2,none⟩) (Nat.le_refl _) (.int .i64 0);have F4:=F3.setCell (p:=⟨w.heap.size,3,none⟩) (Nat.le_refl _) (.int .i64 t.l);have F5:=F4.setCell (p:=⟨w.heap.size,4,none⟩) (Nat.le_refl _) (.int .i64 t.c);have y:=zz ((F5.trans (Far.of (below_new _ (.cells #[.int .i64 (-1),.string ⟨#[]⟩,.int .i64 0,.int .i64 t.l,.int .i64 t.c] 53)))).toB (Nat.le_refl _));clear F0 F1 F2 F3 F4 F5;have d:Hid (Bo (((((((x.drewN nq).setCell ⟨w.heap.size,0,none⟩ (.int .i64 (-1))).setCell ⟨w.heap.size,1,none⟩ (.string ⟨#[]⟩)).setCell ⟨w.heap.size,2,none⟩ (.int .i64 0)).setCell ⟨w.heap.size,3,none⟩ (.int .i64 t.l)).setCell ⟨w.heap.size,4,none⟩ (.int .i64 t.c)).alloc (.cells #[.int .i64 (-1),.string ⟨#[]⟩,.int .i64 0,.int .i64 t.l,.int .i64 t.c] 53)) w.heap.size 53 #[.int .i64 (-1),.string ⟨#[]⟩,.int .i64 0,.int .i64 t.l,.int .i64 t.c]):=zz ((((((a.out.set 0 (.int .i64 (-1))).set 1 (.string ⟨#[]⟩)).set 2 (.int .i64 0)).set 3 (.int .i64 t.l)).set 4 (.int .i64 t.c)).alloc _);generalize (((((((x.drewN nq).setCell ⟨w.heap.size,0,none⟩ (.int .i64 (-1))).setCell ⟨w.heap.size,1,none⟩ (.string ⟨#[]⟩)).setCell ⟨w.heap.size,2,none⟩ (.int .i64 0)).setCell ⟨w.heap.size,3,none⟩ (.int .i64 t.l)).setCell ⟨w.heap.size,4,none⟩ (.int .i64 t.c)).alloc (.cells #[.int .i64 (-1),.string ⟨#[]⟩,.int .i64 0,.int .i64 t.l,.int .i64 t.c] 53))=Q at *;clear g r u c3 c4 fz;have g:=d.out.cell (j:=0) rfl;have r:=d.out.cell (j:=1) rfl;have u:=d.out.cell (j:=2) rfl;have c3:=d.out.cell (j:=3) rfl;have c4:=d.out.cell (j:=4) rfl;refine bodyPost_ret (v:=tkV (noTk t.l t.c)) (by clear H z f a d y F G;simp [results,Tryz.results19,go_sem,g,r,u,c3,c4,tkV,noTk];try rfl) rfl ?_;exact ⟨rfl,y.out⟩
theorem mnow_any {ts:List Tk} {aL:Option Addr} {n cap i q:Nat} {d f g j:Int} (w:World) (b:Bo w q 51 #[.slice aL n cap,.int .i64 (i:Int),.int .i64 d,.int .i64 f,.int .i64 g,.int .i64 j]) (h:MemW w (.s 5 (tkRows ts)) (.slice aL n cap)):
    Calls Tryz.prog 19 #[.pointer (some ⟨q,0,none⟩)] w fun e m=>e=.returned (tkV (nowT ts i))∧Below w.heap.size w m:=by
  by_cases a:i<n
  · exact mnow_in w b h a
  · exact mnow_out w b h a
end
end Go.Proofs.YtcoiagfeoonpbaaGreat
