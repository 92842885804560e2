/-
  What the parser's functions are to answer: an expression and where one is then, or what is thrown. Definitions and plain lemmas. No condition.
-/
import Derived.Test.YtcoiagfeoonpbaaGreatSm14
set_option maxHeartbeats 20000000
set_option maxRecDepth 100000
namespace Go.Proofs.YtcoiagfeoonpbaaGreat
section
open Go.RowKit
section
variable (ts:List Tk) (aL:Option Addr) (n cap q:Nat)
def Ans (r:Rd1) (deep:Nat) (W:World) (e:Ending) (w':World):Prop:=
  match r with
  | .ok x j=>∃ a m c,e=.returned (exV x a m c)∧FarQ q W w'∧PS ts aL n cap q j (deep:Int) w'∧Mem (Nw 0 W.heap.size w'.heap.size) w' (.s 6 (Ex.rows x.args)) (.slice a m c)
  | .bad l c=>e=.panicked (faultV l c)∧FarQ q W w'∧∃ i' d':Int,Bo w' q 162 #[.slice aL n cap,.int .i64 i',.int .i64 d']
def Reads (fn:FuncId) (nt:Nt) (f:Nat):Prop:=∀ (i deep:Nat) (r:Rd1) (w:World),deep≤40→readE ts f nt i deep=some r→PS ts aL n cap q i (deep:Int) w→
  Calls Tryz.prog fn #[.pointer (some ⟨q,0,none⟩)] w (Ans ts aL n cap q r deep w)
def ReadsL (f:Nat):Prop:=∀ (rank i deep:Nat) (r:Rd1) (w:World),rank≤5→deep≤40→readE ts f (.left rank) i deep=some r→PS ts aL n cap q i (deep:Int) w→
  Calls Tryz.prog 147 #[.pointer (some ⟨q,0,none⟩),.int .i64 (rank:Int)] w (Ans ts aL n cap q r deep w)
def ReadsA (f:Nat):Prop:=∀ (i deep:Nat) (r:Rd1) (w:World),deep≤40→(andT (readE ts f .atom i deep) fun x j=>readE ts f (.apps [x]) j deep)=some r→PS ts aL n cap q i (deep:Int) w→
  Calls Tryz.prog 151 #[.pointer (some ⟨q,0,none⟩)] w (Ans ts aL n cap q r deep w)
structure AllR (F:Nat):Prop where
  ex:∀ g,g<F→Reads ts aL n cap q 97 .expr g
  or:∀ g,g<F→Reads ts aL n cap q 136 .or g
  le:∀ g,g<F→ReadsL ts aL n cap q g
  ap:∀ g,g<F→ReadsA ts aL n cap q g
  tm:∀ g,g<F→Reads ts aL n cap q 152 .atom g
end
section
variable {ts:List Tk} {aL:Option Addr} {n cap q i:Nat} {d:Int} {w w':World}
theorem PS.any (h:PS ts aL n cap q i d w):∃ i' d':Int,Bo w q 162 #[.slice aL n cap,.int .i64 i',.int .i64 d']:=⟨_,_,h.bo⟩
theorem Nw.lift {base base' top top' b:Nat} (h:Nw 0 base' top b) (h1:base≤base') (h2:top≤top'):Nw 0 base top' b:=by
  unfold Nw at h ⊢;omega
theorem memNw {base base':Nat} {x:At} {y:Value} (h:Mem (Nw 0 base' w.heap.size) w x y) (h1:base≤base'):Mem (Nw 0 base w.heap.size) w x y:=
  h.mono (fun _ hb=>hb.lift h1 (Nat.le_refl _)) fun _ _=>rfl
theorem memFar {base:Nat} {Z:Nat→Prop} {x:At} {y:Value} (h:Mem (Nw 0 base w.heap.size) w x y) (hf:Far Z w w') (hz:∀ b,base≤b→ ¬Z b):Mem (Nw 0 base w'.heap.size) w' x y:=
  h.mono (fun _ hb=>hb.lift (Nat.le_refl _) hf.size) fun b hb=>hf.block b hb.2 (hz b (by have :=hb.1;omega))
theorem Far.setNew {Z:Nat→Prop} {a:World} (h:Far Z a w) {g:Nat} (hg:a.heap.size≤g) (j:Nat) (v:Value):Far Z a (w.setCell ⟨g,j,none⟩ v):=
  ⟨h.os,h.tape,h.output,(by simpa [World.setCell] using h.size),fun k hk hz=>(heap_setCell_other w ⟨g,j,none⟩ k v (by show k≠g;omega)).trans (h.block k hk hz)⟩
theorem memAlloc {base:Nat} {x:At} {y:Value} (h:Mem (Nw 0 base w.heap.size) w x y) (o:Obj):Mem (Nw 0 base (w.alloc o).heap.size) (w.alloc o) x y:=memFar (Z:=fun _=>False) h (Far.of (below_new w o)) fun _ _ h=>h
theorem memSet {base g:Nat} {x:At} {y:Value} (h:Mem (Nw 0 base w.heap.size) w x y) (hg:g<base) (j:Nat) (v:Value):Mem (Nw 0 base (w.setCell ⟨g,j,none⟩ v).heap.size) (w.setCell ⟨g,j,none⟩ v) x y:=
  memFar (Z:=fun b=>b=g) h ((Far.refl (fun b=>b=g) w).setCell (p:=⟨g,j,none⟩) rfl v) fun b hb e=>by have :b=g:=e;omega
theorem row_ex {S:Nat→Prop} {w:World} (x:Ex) {a:Option Addr} {m c:Nat} (h:Mem S w (.s 6 (Ex.rows x.args)) (.slice a m c)):
    All2 (Mem S w) x.row [.int .i64 x.kind,.string x.name,.int .i64 x.n,.slice a m c,.int .i64 x.line,.int .i64 x.col]:=by
  cases x with
  | mk k s nn xs l cc =>
    rw [Ex.row];exact .cons (.v _ rfl) (.cons (.v _ rfl) (.cons (.v _ rfl) (.cons h (.cons (.v _ rfl) (.cons (.v _ rfl) .nil)))))
theorem OwnD.farZ {base:Nat} {e:TypeId} {sz:Nat} {y:Value} {rs:List (List At)} {Z:Nat→Prop} (h:OwnD 0 base e sz w y rs) (hf:Far Z w w') (hz:∀ b,base≤b→b<w.heap.size→ ¬Z b):OwnD 0 base e sz w' y rs:=by
  obtain ⟨css,h1,h2⟩:=h
  refine ⟨css,⟨h1.1,?_⟩,h2.imp fun r cs ⟨hc,hm⟩=>⟨hc,hm.imp fun x y' hx=>hx.mono (fun b ⟨hb,h2⟩=>⟨hb.lift (Nat.le_refl _) hf.size,h2⟩) fun b ⟨hb,_⟩=>hf.block b hb.2 (hz b (by have :=hb.1;omega) hb.2)⟩⟩
  rcases h1.2 with hn | ⟨g,cap,cur,rfl,hb,hgg,rest⟩
  · exact .inl hn
  · have hg:=(Array.getElem?_eq_some_iff.1 hgg).1
    exact .inr ⟨g,cap,cur,rfl,hb,(hf.block g hg (hz g hb hg)).trans hgg,rest⟩
theorem OwnD.farq {base:Nat} {e:TypeId} {sz:Nat} {y:Value} {rs:List (List At)} (h:OwnD 0 base e sz w y rs) (hf:FarQ q w w') (hq:q<base):OwnD 0 base e sz w' y rs:=h.farZ hf fun b hb _ e=>by have :b=q:=e;omega
theorem OwnD.setB {base:Nat} {e:TypeId} {sz:Nat} {y:Value} {rs:List (List At)} (h:OwnD 0 base e sz w y rs) {g:Nat} (hg:g<base) (j:Nat) (v:Value):OwnD 0 base e sz (w.setCell ⟨g,j,none⟩ v) y rs:=
  h.farZ ((Far.refl (fun b=>b=g) w).setCell (p:=⟨g,j,none⟩) rfl v) fun b hb _ e=>by have :b=g:=e;omega
theorem grownFar {r:Option Nat} (h:w.grownBy w' r):Far (fun b=>r=some b) w w':=⟨h.os,h.tape,h.output,h.size,fun k hk hr=>h.block k hk fun e=>hr e.symm⟩
theorem PS.grown {r:Option Nat} (h:PS ts aL n cap q i d w) (hg:w.grownBy w' r) (hr:∀ k,r=some k→q<k):PS ts aL n cap q i d w':=
  ⟨h.bo.grown hg fun k hk e=>by have :=hr k hk;omega,h.tk.mono (fun _ hb=>hb) fun b hb=>hg.block b (Nat.lt_trans hb h.lt) (fun e=>by have :=hr b e.symm;have :b<q:=hb;omega),h.sm⟩
theorem FarB.grown {B:Nat} {a:World} {r:Option Nat} (h:FarB q B a w) (hg:w.grownBy w' r) (hr:∀ k,r=some k→B≤k):FarB q B a w':=Far.trans h ((grownFar hg).mono fun b e=>.inr (hr b e))
theorem Ex.rows_app (a b:List Ex):Ex.rows (a++b)=Ex.rows a++Ex.rows b:=by rw [Ex.rows_eq,Ex.rows_eq,Ex.rows_eq,List.map_append]
theorem Ex.rows_len (a:List Ex):(Ex.rows a).length=a.length:=by rw [Ex.rows_eq,List.length_map]
theorem OwnD.form' {B base:Nat} {e:TypeId} {sz:Nat} {y:Value} {rs:List (List At)} (h:OwnD B base e sz w y rs):∃ a m c,y=.slice a m c:=by
  obtain ⟨a,c,e,_,_⟩:=h.form;exact ⟨a,_,c,e⟩
theorem info_ex:(Tryz.prog.info? 60).map (fun i=>(i.zero,i.size,i.bytes))=some (some (.agg #[.int .i64 0,.string .empty,.int .i64 0,.slice none 0 0,.int .i64 0,.int .i64 0]),6,72):=by kernel_rfl
def NwX (base g top:Nat) (b:Nat):Prop:=base≤b∧b<top∧b≠g
theorem memX_of {base base' g:Nat} {x:At} {y:Value} (h:Mem (Nw 0 base' w.heap.size) w x y) (h1:base≤base') (hg:g<base'∨w.heap.size≤g):Mem (NwX base g w.heap.size) w x y:=
  h.mono (fun b hb=>by unfold Nw at hb;unfold NwX;omega) fun _ _=>rfl
theorem memX_nw {base g:Nat} {x:At} {y:Value} (h:Mem (NwX base g w.heap.size) w x y):Mem (Nw 0 base w.heap.size) w x y:=
  h.mono (fun b hb=>by unfold NwX at hb;unfold Nw;omega) fun _ _=>rfl
theorem memXFar {base g:Nat} {Z:Nat→Prop} {x:At} {y:Value} (h:Mem (NwX base g w.heap.size) w x y) (hf:Far Z w w') (hz:∀ b,base≤b→b≠g→ ¬Z b):Mem (NwX base g w'.heap.size) w' x y:=
  h.mono (fun _b hb=>⟨hb.1,Nat.lt_of_lt_of_le hb.2.1 hf.size,hb.2.2⟩) fun b hb=>hf.block b hb.2.1 (hz b hb.1 hb.2.2)
theorem memXQ {base g:Nat} {x:At} {y:Value} (h:Mem (NwX base g w.heap.size) w x y) (hf:FarQ q w w') (hq:q<base):Mem (NwX base g w'.heap.size) w' x y:=memXFar h hf fun b h1 _ e=>by have :b=q:=e;omega
theorem memXAlloc {base g:Nat} {x:At} {y:Value} (h:Mem (NwX base g w.heap.size) w x y) (o:Obj):Mem (NwX base g (w.alloc o).heap.size) (w.alloc o) x y:=memXFar (Z:=fun _=>False) h (Far.of (below_new w o)) fun _ _ _ h=>h
theorem memXSet {base g k:Nat} {x:At} {y:Value} (h:Mem (NwX base g w.heap.size) w x y) (hg:k<base∨k=g) (j:Nat) (v:Value):Mem (NwX base g (w.setCell ⟨k,j,none⟩ v).heap.size) (w.setCell ⟨k,j,none⟩ v) x y:=
  memXFar (Z:=fun b=>b=k) h ((Far.refl (fun b=>b=k) w).setCell (p:=⟨k,j,none⟩) rfl v) fun b h1 h2 e=>by have :b=k:=e;omega
theorem builtX2 {base g:Nat} {x y:Ex} {a a':Option Addr} {m c m' c':Nat} (h:Mem (NwX base g w.heap.size) w (.s 6 (Ex.rows x.args)) (.slice a m c)) (h':Mem (NwX base g w.heap.size) w (.s 6 (Ex.rows y.args)) (.slice a' m' c')) (hb:base≤w.heap.size) (hg:g<w.heap.size):
    Mem (NwX base g (w.alloc (.cells #[.int .i64 x.kind,.string x.name,.int .i64 x.n,.slice a m c,.int .i64 x.line,.int .i64 x.col,.int .i64 y.kind,.string y.name,.int .i64 y.n,.slice a' m' c',.int .i64 y.line,.int .i64 y.col] 60)).heap.size) (w.alloc (.cells #[.int .i64 x.kind,.string x.name,.int .i64 x.n,.slice a m c,.int .i64 x.line,.int .i64 x.col,.int .i64 y.kind,.string y.name,.int .i64 y.n,.slice a' m' c',.int .i64 y.line,.int .i64 y.col] 60)) (.s 6 (Ex.rows [x,y])) (.slice (some ⟨w.heap.size,0,none⟩) 2 2):=by
  have hB:=Bo.new w 60 #[.int .i64 x.kind,.string x.name,.int .i64 x.n,.slice a m c,.int .i64 x.line,.int .i64 x.col,.int .i64 y.kind,.string y.name,.int .i64 y.n,.slice a' m' c',.int .i64 y.line,.int .i64 y.col];have hx:=(row_ex x (memXAlloc h (.cells #[.int .i64 x.kind,.string x.name,.int .i64 x.n,.slice a m c,.int .i64 x.line,.int .i64 x.col,.int .i64 y.kind,.string y.name,.int .i64 y.n,.slice a' m' c',.int .i64 y.line,.int .i64 y.col] 60)));have hy:=(row_ex y (memXAlloc h' (.cells #[.int .i64 x.kind,.string x.name,.int .i64 x.n,.slice a m c,.int .i64 x.line,.int .i64 x.col,.int .i64 y.kind,.string y.name,.int .i64 y.n,.slice a' m' c',.int .i64 y.line,.int .i64 y.col] 60)));have hlx:x.row.length=6:=hx.len;have hly:y.row.length=6:=hy.len
  have hv0:∀ j (hj:j<6),((#[.int .i64 x.kind,.string x.name,.int .i64 x.n,.slice a m c,.int .i64 x.line,.int .i64 x.col,.int .i64 y.kind,.string y.name,.int .i64 y.n,.slice a' m' c',.int .i64 y.line,.int .i64 y.col]:Array Value)[0 * 6+j]?).getD undef=([.int .i64 x.kind,.string x.name,.int .i64 x.n,.slice a m c,.int .i64 x.line,.int .i64 x.col]:List Value)[j]'hj:=fun j hj=>by
    match j,hj with
    | 0,_=>rfl
    | 1,_=>rfl
    | 2,_=>rfl
    | 3,_=>rfl
    | 4,_=>rfl
    | 5,_=>rfl
  have hv1:∀ j (hj:j<6),((#[.int .i64 x.kind,.string x.name,.int .i64 x.n,.slice a m c,.int .i64 x.line,.int .i64 x.col,.int .i64 y.kind,.string y.name,.int .i64 y.n,.slice a' m' c',.int .i64 y.line,.int .i64 y.col]:Array Value)[1 * 6+j]?).getD undef=([.int .i64 y.kind,.string y.name,.int .i64 y.n,.slice a' m' c',.int .i64 y.line,.int .i64 y.col]:List Value)[j]'hj:=fun j hj=>by
    match j,hj with
    | 0,_=>rfl
    | 1,_=>rfl
    | 2,_=>rfl
    | 3,_=>rfl
    | 4,_=>rfl
    | 5,_=>rfl
  rw [Ex.rows_eq];refine .s w.heap.size 0 2 2 6 _ (fun i j=>(#[Value.int .i64 x.kind,.string x.name,.int .i64 x.n,.slice a m c,.int .i64 x.line,.int .i64 x.col,.int .i64 y.kind,.string y.name,.int .i64 y.n,.slice a' m' c',.int .i64 y.line,.int .i64 y.col][i * 6+j]?).getD undef) rfl (Nat.le_refl _) (by decide) ⟨hb,by rw [World.size_alloc];omega,by omega⟩ (fun i hi=>?_) (fun i j hi hj=>?_) (fun i j hi hj=>?_)
  · match i,hi with
    | 0,_=>exact hlx
    | 1,_=>exact hly
  · refine hB.cell ?_
    rw [Nat.zero_add,Array.getElem?_eq_getElem (by simp;omega)]
    rfl
  · match i,hi with
    | 0, _ =>
      have hj':j<6:=by have :j<x.row.length:=hj;omega
      show Mem _ _ _ (((#[.int .i64 x.kind,.string x.name,.int .i64 x.n,.slice a m c,.int .i64 x.line,.int .i64 x.col,.int .i64 y.kind,.string y.name,.int .i64 y.n,.slice a' m' c',.int .i64 y.line,.int .i64 y.col]:Array Value)[0 * 6+j]?).getD undef)
      rw [hv0 j hj'];exact hx.at j (by omega) hj'
    | 1, _ =>
      have hj':j<6:=by have :j<y.row.length:=hj;omega
      show Mem _ _ _ (((#[.int .i64 x.kind,.string x.name,.int .i64 x.n,.slice a m c,.int .i64 x.line,.int .i64 x.col,.int .i64 y.kind,.string y.name,.int .i64 y.n,.slice a' m' c',.int .i64 y.line,.int .i64 y.col]:Array Value)[1 * 6+j]?).getD undef)
      rw [hv1 j hj'];exact hy.at j (by omega) hj'
def posQ (q:Nat) (w:World):Nat:=
  match w.cell? ⟨q,1,none⟩ with
  | some (.int _ k)=>k.toNat
  | _=>0
theorem PS.pos (h:PS ts aL n cap q i d w):posQ q w=i:=by
  unfold posQ;rw [h.c3.2.1];simp
theorem builtE1 {base:Nat} {x:Ex} {a:Option Addr} {m c:Nat} (h:Mem (Nw 0 base w.heap.size) w (.s 6 (Ex.rows x.args)) (.slice a m c)) (hb:base≤w.heap.size):
    OwnD 0 base 60 6 (w.alloc (.cells #[.int .i64 x.kind,.string x.name,.int .i64 x.n,.slice a m c,.int .i64 x.line,.int .i64 x.col] 60)) (.slice (some ⟨w.heap.size,0,none⟩) 1 1) (Ex.rows [x]):=by
  rw [Ex.rows_eq];exact OwnD.built (css:=[[.int .i64 x.kind,.string x.name,.int .i64 x.n,.slice a m c,.int .i64 x.line,.int .i64 x.col]]) (.cons ⟨rfl,row_ex x h⟩ .nil) hb 1 rfl (by decide) _ rfl
theorem builtE2 {base:Nat} {x y:Ex} {a a':Option Addr} {m c m' c':Nat} (h:Mem (Nw 0 base w.heap.size) w (.s 6 (Ex.rows x.args)) (.slice a m c)) (h':Mem (Nw 0 base w.heap.size) w (.s 6 (Ex.rows y.args)) (.slice a' m' c')) (hb:base≤w.heap.size):
    OwnD 0 base 60 6 (w.alloc (.cells #[.int .i64 x.kind,.string x.name,.int .i64 x.n,.slice a m c,.int .i64 x.line,.int .i64 x.col,.int .i64 y.kind,.string y.name,.int .i64 y.n,.slice a' m' c',.int .i64 y.line,.int .i64 y.col] 60)) (.slice (some ⟨w.heap.size,0,none⟩) 2 2) (Ex.rows [x,y]):=by
  rw [Ex.rows_eq];exact OwnD.built (css:=[[.int .i64 x.kind,.string x.name,.int .i64 x.n,.slice a m c,.int .i64 x.line,.int .i64 x.col],[.int .i64 y.kind,.string y.name,.int .i64 y.n,.slice a' m' c',.int .i64 y.line,.int .i64 y.col]]) (.cons ⟨rfl,row_ex x h⟩ (.cons ⟨rfl,row_ex y h'⟩ .nil)) hb 2 rfl (by decide) _ rfl
theorem builtE3 {base:Nat} {x y z:Ex} {a a' a2:Option Addr} {m c m' c' m2 c2:Nat} (h:Mem (Nw 0 base w.heap.size) w (.s 6 (Ex.rows x.args)) (.slice a m c)) (h':Mem (Nw 0 base w.heap.size) w (.s 6 (Ex.rows y.args)) (.slice a' m' c')) (h2:Mem (Nw 0 base w.heap.size) w (.s 6 (Ex.rows z.args)) (.slice a2 m2 c2)) (hb:base≤w.heap.size):
    OwnD 0 base 60 6 (w.alloc (.cells #[.int .i64 x.kind,.string x.name,.int .i64 x.n,.slice a m c,.int .i64 x.line,.int .i64 x.col,.int .i64 y.kind,.string y.name,.int .i64 y.n,.slice a' m' c',.int .i64 y.line,.int .i64 y.col,.int .i64 z.kind,.string z.name,.int .i64 z.n,.slice a2 m2 c2,.int .i64 z.line,.int .i64 z.col] 60)) (.slice (some ⟨w.heap.size,0,none⟩) 3 3) (Ex.rows [x,y,z]):=by
  rw [Ex.rows_eq];exact OwnD.built (css:=[[.int .i64 x.kind,.string x.name,.int .i64 x.n,.slice a m c,.int .i64 x.line,.int .i64 x.col],[.int .i64 y.kind,.string y.name,.int .i64 y.n,.slice a' m' c',.int .i64 y.line,.int .i64 y.col],[.int .i64 z.kind,.string z.name,.int .i64 z.n,.slice a2 m2 c2,.int .i64 z.line,.int .i64 z.col]]) (.cons ⟨rfl,row_ex x h⟩ (.cons ⟨rfl,row_ex y h'⟩ (.cons ⟨rfl,row_ex z h2⟩ .nil))) hb 3 rfl (by decide) _ rfl
theorem ex_at {S:Nat→Prop} {w:World} {l:List Ex} {a:Option Addr} {m c:Nat} (h:Mem S w (.s 6 (Ex.rows l)) (.slice a m c)) (i:Nat) (hi:i<l.length):
    ∃ b o x a' m' c',a=some ⟨b,o,none⟩∧Hid (l[i]?=some x)∧w.cell? ⟨b,o+i * 6,none⟩=some (.int .i64 x.kind)∧w.cell? ⟨b,o+i * 6+1,none⟩=some (.string x.name)∧w.cell? ⟨b,o+i * 6+2,none⟩=some (.int .i64 x.n)∧w.cell? ⟨b,o+i * 6+3,none⟩=some (.slice a' m' c')∧w.cell? ⟨b,o+i * 6+4,none⟩=some (.int .i64 x.line)∧w.cell? ⟨b,o+i * 6+5,none⟩=some (.int .i64 x.col)∧Hid (Mem S w (.s 6 (Ex.rows x.args)) (.slice a' m' c')):=by
  obtain ⟨b,o,ha,_,_,cs,h2,hc⟩:=Mem.at h i (by rw [Ex.rows_len];exact hi)
  have e:(Ex.rows l)[i]'(by rw [Ex.rows_len];exact hi)=l[i].row:=by simp [Ex.rows_eq]
  rw [e] at h2;obtain ⟨x,hx⟩:∃ x,l[i]=x:=⟨_,rfl⟩;rw [hx] at h2
  cases x with
  | mk k s nn xs ln cl =>
    rw [Ex.row] at h2
    cases h2 with
    | cons g0 h2=>
    cases h2 with
    | cons g1 h2=>
    cases h2 with
    | cons g2 h2=>
    cases h2 with
    | cons g3 h2=>
    cases h2 with
    | cons g4 h2=>
    cases h2 with
    | cons g5 h2=>
    cases h2;obtain ⟨a',m',c',e3,_⟩:=g3.parts;subst e3;have c0:=hc 0 (by simp);have c1:=hc 1 (by simp);have c2:=hc 2 (by simp);have c3:=hc 3 (by simp);have c4:=hc 4 (by simp);have c5:=hc 5 (by simp);simp only [List.getElem_cons_zero,List.getElem_cons_succ,g0.val,g1.val,g2.val,g4.val,g5.val] at c0 c1 c2 c3 c4 c5;exact ⟨b,o,.mk k s nn xs ln cl,a',m',c',ha,zz (by rw [List.getElem?_eq_getElem hi,hx]),c0,c1,c2,c3,c4,c5,zz g3⟩
def lenV:Value→Nat
  | .slice _ m _=>m
  | _=>0
theorem OwnD.form2 {B base:Nat} {e:TypeId} {sz:Nat} {w:World} {y:Value} {l:List Ex} (h:OwnD B base e sz w y (Ex.rows l)):∃ a m c,y=.slice a m c∧m=l.length∧m≤c∧c≤9223372036854775807:=by
  obtain ⟨a,c,e,h1,h2⟩:=h.form;rw [Ex.rows_len] at e h1;exact ⟨a,_,c,e,rfl,h1,h2⟩
theorem newRow {base:Nat} {y:Value} {rs:List (List At)} {W:World} {x:Ex} {a:Option Addr} {m c:Nat} (h:OwnD 0 base 60 6 W y rs) (hb:base≤W.heap.size) (hs:W.heap.size≤w.heap.size) (hm:Mem (Nw 0 W.heap.size w.heap.size) w (.s 6 (Ex.rows x.args)) (.slice a m c)):
    Mem (fun b=>Nw 0 base (w.alloc (.cells #[.int .i64 x.kind,.string x.name,.int .i64 x.n,.slice a m c,.int .i64 x.line,.int .i64 x.col] 60)).heap.size b∧y.ownBlock≠some b) (w.alloc (.cells #[.int .i64 x.kind,.string x.name,.int .i64 x.n,.slice a m c,.int .i64 x.line,.int .i64 x.col] 60)) (.s 6 (Ex.rows [x])) (.slice (some ⟨w.heap.size,0,none⟩) 1 1):=
  h.apart (Nat.zero_le _) hb (builtE1 hm hs).mem
end
section
variable {P:Program} {md:Region.Mode} {Q:Exit→Act→World→Prop} {S:World→Prop} {l:List Oper}
theorem twoL (i j:Nat) {oi oj:Oper} {fuel:Nat} {listed:Array Bool} {a:Act} {w:World} (hi:l[i]?=some oi) (hj:l[j]?=some oj) (hr:Region.ready md l.toArray listed=[i,j]) (hwi:Region.wanted oi (yielded l.toArray a.tmps)=true) (hwj:Region.wanted oj (yielded l.toArray a.tmps)=true)
    (h1:∀ K':Act→World→Prop,Shut (∀ a w,S w→(S w→wpAnyH P md l.toArray Q S fuel (listed.setIfInBounds i true) a w)→K' a w)→Oper.wp P oi a w K' Q)
    (h2:∀ K':Act→World→Prop,Shut (∀ a w,S w→(S w→wpAnyH P md l.toArray Q S fuel (listed.setIfInBounds j true) a w)→K' a w)→Oper.wp P oj a w K' Q):wpAnyH P md l.toArray Q S (fuel+1) listed a w:=
  wpAnyH_ready hr (by simp) (consL i hi hwi h1 (consL j hj hwj h2 AllReadyH.nil))
end
section
variable {w w' a:World} {q g j B:Nat} {t:TypeId}
theorem Bo.c1z {v0:Value} (h:Bo w q t #[v0]):w.cell? ⟨q,0,none⟩=some v0∧∀ i:Nat,w.frozen? ⟨q,i,none⟩=false:=⟨h.cell (j:=0) rfl,fun i=>Bo.frozen h i⟩
theorem Far.c1z {v0:Value} {Z:Nat→Prop} (h:w.cell? ⟨q,0,none⟩=some v0∧∀ i:Nat,w.frozen? ⟨q,i,none⟩=false) (hf:Far Z w w') (hz: ¬Z q:=by intro e;rcases e with e | e <;> omega) (hq:q<w.heap.size:=by omega):w'.cell? ⟨q,0,none⟩=some v0∧∀ i:Nat,w'.frozen? ⟨q,i,none⟩=false:=
  ⟨(World.cell?_of_block (hf.block q hq hz)).trans h.1,fun i=>(by have e:=hf.block q hq hz;have e2:=h.2 i;unfold World.frozen? at e2 ⊢;rw [e];exact e2)⟩
theorem Bo.c2z {v0 v1:Value} (h:Bo w q t #[v0,v1]):w.cell? ⟨q,0,none⟩=some v0∧w.cell? ⟨q,1,none⟩=some v1∧∀ i:Nat,w.frozen? ⟨q,i,none⟩=false:=⟨h.cell (j:=0) rfl,h.cell (j:=1) rfl,fun i=>Bo.frozen h i⟩
theorem Far.c2z {v0 v1:Value} {Z:Nat→Prop} (h:w.cell? ⟨q,0,none⟩=some v0∧w.cell? ⟨q,1,none⟩=some v1∧∀ i:Nat,w.frozen? ⟨q,i,none⟩=false) (hf:Far Z w w') (hz: ¬Z q:=by intro e;rcases e with e | e <;> omega) (hq:q<w.heap.size:=by omega):w'.cell? ⟨q,0,none⟩=some v0∧w'.cell? ⟨q,1,none⟩=some v1∧∀ i:Nat,w'.frozen? ⟨q,i,none⟩=false:=
  ⟨(World.cell?_of_block (hf.block q hq hz)).trans h.1,(World.cell?_of_block (hf.block q hq hz)).trans h.2.1,fun i=>(by have e:=hf.block q hq hz;have e2:=h.2.2 i;unfold World.frozen? at e2 ⊢;rw [e];exact e2)⟩
theorem Bo.set2 {a0 a1:Value} {v0 v1:Value} (h:Bo w q t #[a0,a1]) (e:((w.setCell ⟨q,0,none⟩ v0).setCell ⟨q,1,none⟩ v1)=w'):Bo w' q t #[v0,v1]:=e ▸ ((h.set 0 v0).set 1 v1)
theorem Bo.c3z {v0 v1 v2:Value} (h:Bo w q t #[v0,v1,v2]):w.cell? ⟨q,0,none⟩=some v0∧w.cell? ⟨q,1,none⟩=some v1∧w.cell? ⟨q,2,none⟩=some v2∧∀ i:Nat,w.frozen? ⟨q,i,none⟩=false:=⟨h.cell (j:=0) rfl,h.cell (j:=1) rfl,h.cell (j:=2) rfl,fun i=>Bo.frozen h i⟩
theorem Far.c3z {v0 v1 v2:Value} {Z:Nat→Prop} (h:w.cell? ⟨q,0,none⟩=some v0∧w.cell? ⟨q,1,none⟩=some v1∧w.cell? ⟨q,2,none⟩=some v2∧∀ i:Nat,w.frozen? ⟨q,i,none⟩=false) (hf:Far Z w w') (hz: ¬Z q:=by intro e;rcases e with e | e <;> omega) (hq:q<w.heap.size:=by omega):w'.cell? ⟨q,0,none⟩=some v0∧w'.cell? ⟨q,1,none⟩=some v1∧w'.cell? ⟨q,2,none⟩=some v2∧∀ i:Nat,w'.frozen? ⟨q,i,none⟩=false:=
  ⟨(World.cell?_of_block (hf.block q hq hz)).trans h.1,(World.cell?_of_block (hf.block q hq hz)).trans h.2.1,(World.cell?_of_block (hf.block q hq hz)).trans h.2.2.1,fun i=>(by have e:=hf.block q hq hz;have e2:=h.2.2.2 i;unfold World.frozen? at e2 ⊢;rw [e];exact e2)⟩
theorem Bo.set3 {a0 a1 a2:Value} {v0 v1 v2:Value} (h:Bo w q t #[a0,a1,a2]) (e:(((w.setCell ⟨q,0,none⟩ v0).setCell ⟨q,1,none⟩ v1).setCell ⟨q,2,none⟩ v2)=w'):Bo w' q t #[v0,v1,v2]:=e ▸ (((h.set 0 v0).set 1 v1).set 2 v2)
theorem Bo.c5z {v0 v1 v2 v3 v4:Value} (h:Bo w q t #[v0,v1,v2,v3,v4]):w.cell? ⟨q,0,none⟩=some v0∧w.cell? ⟨q,1,none⟩=some v1∧w.cell? ⟨q,2,none⟩=some v2∧w.cell? ⟨q,3,none⟩=some v3∧w.cell? ⟨q,4,none⟩=some v4∧∀ i:Nat,w.frozen? ⟨q,i,none⟩=false:=⟨h.cell (j:=0) rfl,h.cell (j:=1) rfl,h.cell (j:=2) rfl,h.cell (j:=3) rfl,h.cell (j:=4) rfl,fun i=>Bo.frozen h i⟩
theorem Far.c5z {v0 v1 v2 v3 v4:Value} {Z:Nat→Prop} (h:w.cell? ⟨q,0,none⟩=some v0∧w.cell? ⟨q,1,none⟩=some v1∧w.cell? ⟨q,2,none⟩=some v2∧w.cell? ⟨q,3,none⟩=some v3∧w.cell? ⟨q,4,none⟩=some v4∧∀ i:Nat,w.frozen? ⟨q,i,none⟩=false) (hf:Far Z w w') (hz: ¬Z q:=by intro e;rcases e with e | e <;> omega) (hq:q<w.heap.size:=by omega):w'.cell? ⟨q,0,none⟩=some v0∧w'.cell? ⟨q,1,none⟩=some v1∧w'.cell? ⟨q,2,none⟩=some v2∧w'.cell? ⟨q,3,none⟩=some v3∧w'.cell? ⟨q,4,none⟩=some v4∧∀ i:Nat,w'.frozen? ⟨q,i,none⟩=false:=
  ⟨(World.cell?_of_block (hf.block q hq hz)).trans h.1,(World.cell?_of_block (hf.block q hq hz)).trans h.2.1,(World.cell?_of_block (hf.block q hq hz)).trans h.2.2.1,(World.cell?_of_block (hf.block q hq hz)).trans h.2.2.2.1,(World.cell?_of_block (hf.block q hq hz)).trans h.2.2.2.2.1,fun i=>(by have e:=hf.block q hq hz;have e2:=h.2.2.2.2.2 i;unfold World.frozen? at e2 ⊢;rw [e];exact e2)⟩
theorem Bo.set5 {a0 a1 a2 a3 a4:Value} {v0 v1 v2 v3 v4:Value} (h:Bo w q t #[a0,a1,a2,a3,a4]) (e:(((((w.setCell ⟨q,0,none⟩ v0).setCell ⟨q,1,none⟩ v1).setCell ⟨q,2,none⟩ v2).setCell ⟨q,3,none⟩ v3).setCell ⟨q,4,none⟩ v4)=w'):Bo w' q t #[v0,v1,v2,v3,v4]:=e ▸ (((((h.set 0 v0).set 1 v1).set 2 v2).set 3 v3).set 4 v4)
theorem Bo.c6z {v0 v1 v2 v3 v4 v5:Value} (h:Bo w q t #[v0,v1,v2,v3,v4,v5]):w.cell? ⟨q,0,none⟩=some v0∧w.cell? ⟨q,1,none⟩=some v1∧w.cell? ⟨q,2,none⟩=some v2∧w.cell? ⟨q,3,none⟩=some v3∧w.cell? ⟨q,4,none⟩=some v4∧w.cell? ⟨q,5,none⟩=some v5∧∀ i:Nat,w.frozen? ⟨q,i,none⟩=false:=⟨h.cell (j:=0) rfl,h.cell (j:=1) rfl,h.cell (j:=2) rfl,h.cell (j:=3) rfl,h.cell (j:=4) rfl,h.cell (j:=5) rfl,fun i=>Bo.frozen h i⟩
theorem Far.c6z {v0 v1 v2 v3 v4 v5:Value} {Z:Nat→Prop} (h:w.cell? ⟨q,0,none⟩=some v0∧w.cell? ⟨q,1,none⟩=some v1∧w.cell? ⟨q,2,none⟩=some v2∧w.cell? ⟨q,3,none⟩=some v3∧w.cell? ⟨q,4,none⟩=some v4∧w.cell? ⟨q,5,none⟩=some v5∧∀ i:Nat,w.frozen? ⟨q,i,none⟩=false) (hf:Far Z w w') (hz: ¬Z q:=by intro e;rcases e with e | e <;> omega) (hq:q<w.heap.size:=by omega):w'.cell? ⟨q,0,none⟩=some v0∧w'.cell? ⟨q,1,none⟩=some v1∧w'.cell? ⟨q,2,none⟩=some v2∧w'.cell? ⟨q,3,none⟩=some v3∧w'.cell? ⟨q,4,none⟩=some v4∧w'.cell? ⟨q,5,none⟩=some v5∧∀ i:Nat,w'.frozen? ⟨q,i,none⟩=false:=
  ⟨(World.cell?_of_block (hf.block q hq hz)).trans h.1,(World.cell?_of_block (hf.block q hq hz)).trans h.2.1,(World.cell?_of_block (hf.block q hq hz)).trans h.2.2.1,(World.cell?_of_block (hf.block q hq hz)).trans h.2.2.2.1,(World.cell?_of_block (hf.block q hq hz)).trans h.2.2.2.2.1,(World.cell?_of_block (hf.block q hq hz)).trans h.2.2.2.2.2.1,fun i=>(by have e:=hf.block q hq hz;have e2:=h.2.2.2.2.2.2 i;unfold World.frozen? at e2 ⊢;rw [e];exact e2)⟩
theorem Bo.set6 {a0 a1 a2 a3 a4 a5:Value} {v0 v1 v2 v3 v4 v5:Value} (h:Bo w q t #[a0,a1,a2,a3,a4,a5]) (e:((((((w.setCell ⟨q,0,none⟩ v0).setCell ⟨q,1,none⟩ v1).setCell ⟨q,2,none⟩ v2).setCell ⟨q,3,none⟩ v3).setCell ⟨q,4,none⟩ v4).setCell ⟨q,5,none⟩ v5)=w'):Bo w' q t #[v0,v1,v2,v3,v4,v5]:=e ▸ ((((((h.set 0 v0).set 1 v1).set 2 v2).set 3 v3).set 4 v4).set 5 v5)
theorem Bo.far1 {cs:Array Value} {v0:Value} (h:Bo w q t cs) (e:(w.setCell ⟨g,j,none⟩ v0)=w') (hg:q≠g):Bo w' q t cs:=e ▸ (h.far j v0 hg)
theorem memSet1 {base:Nat} {x:At} {y:Value} {v0:Value} (h:Mem (Nw 0 base w.heap.size) w x y) (e:(w.setCell ⟨g,j,none⟩ v0)=w') (hg:g<base):Mem (Nw 0 base w'.heap.size) w' x y:=e ▸ (memSet h hg j v0)
theorem memXSet1 {base k:Nat} {x:At} {y:Value} {v0:Value} (h:Mem (NwX base k w.heap.size) w x y) (e:(w.setCell ⟨g,j,none⟩ v0)=w') (hg:g<base∨g=k):Mem (NwX base k w'.heap.size) w' x y:=e ▸ (memXSet h hg j v0)
theorem OwnD.setB1 {base sz:Nat} {et:TypeId} {y:Value} {rs:List (List At)} {v0:Value} (h:OwnD 0 base et sz w y rs) (e:(w.setCell ⟨g,j,none⟩ v0)=w') (hg:g<base):OwnD 0 base et sz w' y rs:=e ▸ (h.setB hg j v0)
theorem FarB.setN1 {v0:Value} (h:FarB q B a w) (e:(w.setCell ⟨g,j,none⟩ v0)=w') (hg:B≤g):FarB q B a w':=e ▸ (h.setN hg j v0)
theorem PS.off1 {ts:List Tk} {aL:Option Addr} {n cap i:Nat} {d:Int} {v0:Value} (h:PS ts aL n cap q i d w) (e:(w.setCell ⟨g,j,none⟩ v0)=w') (hg:q<g):PS ts aL n cap q i d w':=e ▸ (h.off hg j v0)
theorem sizeS1 {v0:Value} (e:(w.setCell ⟨g,j,none⟩ v0)=w'):w'.heap.size=w.heap.size:=by rw [←e];simp only [World.setCell,Array.size_modify]
theorem Bo.far2 {cs:Array Value} {v0 v1:Value} (h:Bo w q t cs) (e:((w.setCell ⟨g,0,none⟩ v0).setCell ⟨g,1,none⟩ v1)=w') (hg:q≠g):Bo w' q t cs:=e ▸ ((h.far 0 v0 hg).far 1 v1 hg)
theorem FarB.setN2 {v0 v1:Value} (h:FarB q B a w) (e:((w.setCell ⟨g,0,none⟩ v0).setCell ⟨g,1,none⟩ v1)=w') (hg:B≤g):FarB q B a w':=e ▸ ((h.setN hg 0 v0).setN hg 1 v1)
theorem sizeS2 {v0 v1:Value} (e:((w.setCell ⟨g,0,none⟩ v0).setCell ⟨g,1,none⟩ v1)=w'):w'.heap.size=w.heap.size:=by rw [←e];simp only [World.setCell,Array.size_modify]
theorem Bo.far3 {cs:Array Value} {v0 v1 v2:Value} (h:Bo w q t cs) (e:(((w.setCell ⟨g,0,none⟩ v0).setCell ⟨g,1,none⟩ v1).setCell ⟨g,2,none⟩ v2)=w') (hg:q≠g):Bo w' q t cs:=e ▸ (((h.far 0 v0 hg).far 1 v1 hg).far 2 v2 hg)
theorem memSet3 {base:Nat} {x:At} {y:Value} {v0 v1 v2:Value} (h:Mem (Nw 0 base w.heap.size) w x y) (e:(((w.setCell ⟨g,0,none⟩ v0).setCell ⟨g,1,none⟩ v1).setCell ⟨g,2,none⟩ v2)=w') (hg:g<base):Mem (Nw 0 base w'.heap.size) w' x y:=e ▸ (memSet (memSet (memSet h hg 0 v0) hg 1 v1) hg 2 v2)
theorem FarB.setN3 {v0 v1 v2:Value} (h:FarB q B a w) (e:(((w.setCell ⟨g,0,none⟩ v0).setCell ⟨g,1,none⟩ v1).setCell ⟨g,2,none⟩ v2)=w') (hg:B≤g):FarB q B a w':=e ▸ (((h.setN hg 0 v0).setN hg 1 v1).setN hg 2 v2)
theorem sizeS3 {v0 v1 v2:Value} (e:(((w.setCell ⟨g,0,none⟩ v0).setCell ⟨g,1,none⟩ v1).setCell ⟨g,2,none⟩ v2)=w'):w'.heap.size=w.heap.size:=by rw [←e];simp only [World.setCell,Array.size_modify]
theorem Bo.far5 {cs:Array Value} {v0 v1 v2 v3 v4:Value} (h:Bo w q t cs) (e:(((((w.setCell ⟨g,0,none⟩ v0).setCell ⟨g,1,none⟩ v1).setCell ⟨g,2,none⟩ v2).setCell ⟨g,3,none⟩ v3).setCell ⟨g,4,none⟩ v4)=w') (hg:q≠g):Bo w' q t cs:=e ▸ (((((h.far 0 v0 hg).far 1 v1 hg).far 2 v2 hg).far 3 v3 hg).far 4 v4 hg)
theorem OwnD.setB5 {base sz:Nat} {et:TypeId} {y:Value} {rs:List (List At)} {v0 v1 v2 v3 v4:Value} (h:OwnD 0 base et sz w y rs) (e:(((((w.setCell ⟨g,0,none⟩ v0).setCell ⟨g,1,none⟩ v1).setCell ⟨g,2,none⟩ v2).setCell ⟨g,3,none⟩ v3).setCell ⟨g,4,none⟩ v4)=w') (hg:g<base):OwnD 0 base et sz w' y rs:=e ▸ (((((h.setB hg 0 v0).setB hg 1 v1).setB hg 2 v2).setB hg 3 v3).setB hg 4 v4)
theorem FarB.setN5 {v0 v1 v2 v3 v4:Value} (h:FarB q B a w) (e:(((((w.setCell ⟨g,0,none⟩ v0).setCell ⟨g,1,none⟩ v1).setCell ⟨g,2,none⟩ v2).setCell ⟨g,3,none⟩ v3).setCell ⟨g,4,none⟩ v4)=w') (hg:B≤g):FarB q B a w':=e ▸ (((((h.setN hg 0 v0).setN hg 1 v1).setN hg 2 v2).setN hg 3 v3).setN hg 4 v4)
theorem sizeS5 {v0 v1 v2 v3 v4:Value} (e:(((((w.setCell ⟨g,0,none⟩ v0).setCell ⟨g,1,none⟩ v1).setCell ⟨g,2,none⟩ v2).setCell ⟨g,3,none⟩ v3).setCell ⟨g,4,none⟩ v4)=w'):w'.heap.size=w.heap.size:=by rw [←e];simp only [World.setCell,Array.size_modify]
theorem Bo.far6 {cs:Array Value} {v0 v1 v2 v3 v4 v5:Value} (h:Bo w q t cs) (e:((((((w.setCell ⟨g,0,none⟩ v0).setCell ⟨g,1,none⟩ v1).setCell ⟨g,2,none⟩ v2).setCell ⟨g,3,none⟩ v3).setCell ⟨g,4,none⟩ v4).setCell ⟨g,5,none⟩ v5)=w') (hg:q≠g):Bo w' q t cs:=e ▸ ((((((h.far 0 v0 hg).far 1 v1 hg).far 2 v2 hg).far 3 v3 hg).far 4 v4 hg).far 5 v5 hg)
theorem memSet6 {base:Nat} {x:At} {y:Value} {v0 v1 v2 v3 v4 v5:Value} (h:Mem (Nw 0 base w.heap.size) w x y) (e:((((((w.setCell ⟨g,0,none⟩ v0).setCell ⟨g,1,none⟩ v1).setCell ⟨g,2,none⟩ v2).setCell ⟨g,3,none⟩ v3).setCell ⟨g,4,none⟩ v4).setCell ⟨g,5,none⟩ v5)=w') (hg:g<base):Mem (Nw 0 base w'.heap.size) w' x y:=e ▸ (memSet (memSet (memSet (memSet (memSet (memSet h hg 0 v0) hg 1 v1) hg 2 v2) hg 3 v3) hg 4 v4) hg 5 v5)
theorem memXSet6 {base k:Nat} {x:At} {y:Value} {v0 v1 v2 v3 v4 v5:Value} (h:Mem (NwX base k w.heap.size) w x y) (e:((((((w.setCell ⟨g,0,none⟩ v0).setCell ⟨g,1,none⟩ v1).setCell ⟨g,2,none⟩ v2).setCell ⟨g,3,none⟩ v3).setCell ⟨g,4,none⟩ v4).setCell ⟨g,5,none⟩ v5)=w') (hg:g<base∨g=k):Mem (NwX base k w'.heap.size) w' x y:=e ▸ (memXSet (memXSet (memXSet (memXSet (memXSet (memXSet h hg 0 v0) hg 1 v1) hg 2 v2) hg 3 v3) hg 4 v4) hg 5 v5)
theorem OwnD.setB6 {base sz:Nat} {et:TypeId} {y:Value} {rs:List (List At)} {v0 v1 v2 v3 v4 v5:Value} (h:OwnD 0 base et sz w y rs) (e:((((((w.setCell ⟨g,0,none⟩ v0).setCell ⟨g,1,none⟩ v1).setCell ⟨g,2,none⟩ v2).setCell ⟨g,3,none⟩ v3).setCell ⟨g,4,none⟩ v4).setCell ⟨g,5,none⟩ v5)=w') (hg:g<base):OwnD 0 base et sz w' y rs:=e ▸ ((((((h.setB hg 0 v0).setB hg 1 v1).setB hg 2 v2).setB hg 3 v3).setB hg 4 v4).setB hg 5 v5)
theorem FarB.setN6 {v0 v1 v2 v3 v4 v5:Value} (h:FarB q B a w) (e:((((((w.setCell ⟨g,0,none⟩ v0).setCell ⟨g,1,none⟩ v1).setCell ⟨g,2,none⟩ v2).setCell ⟨g,3,none⟩ v3).setCell ⟨g,4,none⟩ v4).setCell ⟨g,5,none⟩ v5)=w') (hg:B≤g):FarB q B a w':=e ▸ ((((((h.setN hg 0 v0).setN hg 1 v1).setN hg 2 v2).setN hg 3 v3).setN hg 4 v4).setN hg 5 v5)
theorem PS.off6 {ts:List Tk} {aL:Option Addr} {n cap i:Nat} {d:Int} {v0 v1 v2 v3 v4 v5:Value} (h:PS ts aL n cap q i d w) (e:((((((w.setCell ⟨g,0,none⟩ v0).setCell ⟨g,1,none⟩ v1).setCell ⟨g,2,none⟩ v2).setCell ⟨g,3,none⟩ v3).setCell ⟨g,4,none⟩ v4).setCell ⟨g,5,none⟩ v5)=w') (hg:q<g):PS ts aL n cap q i d w':=e ▸ ((((((h.off hg 0 v0).off hg 1 v1).off hg 2 v2).off hg 3 v3).off hg 4 v4).off hg 5 v5)
theorem sizeS6 {v0 v1 v2 v3 v4 v5:Value} (e:((((((w.setCell ⟨g,0,none⟩ v0).setCell ⟨g,1,none⟩ v1).setCell ⟨g,2,none⟩ v2).setCell ⟨g,3,none⟩ v3).setCell ⟨g,4,none⟩ v4).setCell ⟨g,5,none⟩ v5)=w'):w'.heap.size=w.heap.size:=by rw [←e];simp only [World.setCell,Array.size_modify]
theorem Bo.allocE {cs:Array Value} {o:Obj} (h:Bo w q t cs) (e:w.alloc o=w'):Bo w' q t cs:=e ▸ h.alloc o
theorem memAllocE {base:Nat} {x:At} {y:Value} {o:Obj} (h:Mem (Nw 0 base w.heap.size) w x y) (e:w.alloc o=w'):Mem (Nw 0 base w'.heap.size) w' x y:=e ▸ memAlloc h o
theorem memXAllocE {base k:Nat} {x:At} {y:Value} {o:Obj} (h:Mem (NwX base k w.heap.size) w x y) (e:w.alloc o=w'):Mem (NwX base k w'.heap.size) w' x y:=e ▸ memXAlloc h o
theorem OwnD.allocE {base sz:Nat} {et:TypeId} {y:Value} {rs:List (List At)} {o:Obj} (h:OwnD 0 base et sz w y rs) (e:w.alloc o=w'):OwnD 0 base et sz w' y rs:=e ▸ h.alloc o
theorem FarB.allocE {o:Obj} (h:FarB q B a w) (e:w.alloc o=w'):FarB q B a w':=e ▸ h.alloc o
theorem PS.allocE {ts:List Tk} {aL:Option Addr} {n cap i:Nat} {d:Int} {o:Obj} (h:PS ts aL n cap q i d w) (e:w.alloc o=w'):PS ts aL n cap q i d w':=e ▸ h.alloc o
theorem sizeA {o:Obj} (e:w.alloc o=w'):w'.heap.size=w.heap.size+1:=by rw [←e,World.size_alloc]
theorem Bo.newE {cs:Array Value} {b:Nat} (e:w.alloc (.cells cs t)=w') (hb:w.heap.size=b):Bo w' b t cs:=e ▸ hb ▸ Bo.new w t cs
theorem Bo.drewE {cs:Array Value} (h:Bo w q t cs) (e:w.drew=w'):Bo w' q t cs:=e ▸ h.drew
theorem memDrewE {base:Nat} {x:At} {y:Value} (h:Mem (Nw 0 base w.heap.size) w x y) (e:w.drew=w'):Mem (Nw 0 base w'.heap.size) w' x y:=e ▸ memFar (Z:=fun _=>False) h (Far.of (below_drew _)) fun _ _ h=>h
theorem OwnD.drewE {base sz:Nat} {et:TypeId} {y:Value} {rs:List (List At)} (h:OwnD 0 base et sz w y rs) (e:w.drew=w'):OwnD 0 base et sz w' y rs:=e ▸ h.keep (below_drew _)
theorem FarB.drewE (h:FarB q B a w) (e:w.drew=w'):FarB q B a w':=e ▸ h.drew
theorem PS.drewE {ts:List Tk} {aL:Option Addr} {n cap i:Nat} {d:Int} (h:PS ts aL n cap q i d w) (e:w.drew=w'):PS ts aL n cap q i d w':=e ▸ h.drew
theorem sizeD (e:w.drew=w'):w'.heap.size=w.heap.size:=e ▸ rfl
theorem builtE1E {base:Nat} {x:Ex} {ax:Option Addr} {mx cx:Nat} (hx:Mem (Nw 0 base w.heap.size) w (.s 6 (Ex.rows x.args)) (.slice ax mx cx)) (e:w.alloc (.cells #[.int .i64 x.kind,.string x.name,.int .i64 x.n,.slice ax mx cx,.int .i64 x.line,.int .i64 x.col] 60)=w') {b:Nat} (hb:w.heap.size=b) (hl:base≤w.heap.size):OwnD 0 base 60 6 w' (.slice (some ⟨b,0,none⟩) 1 1) (Ex.rows [x]):=e ▸ hb ▸ builtE1 hx hl
theorem builtE2E {base:Nat} {x y:Ex} {ax ay:Option Addr} {mx cx my cy:Nat} (hx:Mem (Nw 0 base w.heap.size) w (.s 6 (Ex.rows x.args)) (.slice ax mx cx)) (hy:Mem (Nw 0 base w.heap.size) w (.s 6 (Ex.rows y.args)) (.slice ay my cy)) (e:w.alloc (.cells #[.int .i64 x.kind,.string x.name,.int .i64 x.n,.slice ax mx cx,.int .i64 x.line,.int .i64 x.col,.int .i64 y.kind,.string y.name,.int .i64 y.n,.slice ay my cy,.int .i64 y.line,.int .i64 y.col] 60)=w') {b:Nat} (hb:w.heap.size=b) (hl:base≤w.heap.size):OwnD 0 base 60 6 w' (.slice (some ⟨b,0,none⟩) 2 2) (Ex.rows [x,y]):=e ▸ hb ▸ builtE2 hx hy hl
theorem builtX2E {base k:Nat} {x y:Ex} {ax ay:Option Addr} {mx cx my cy:Nat} (hx:Mem (NwX base k w.heap.size) w (.s 6 (Ex.rows x.args)) (.slice ax mx cx)) (hy:Mem (NwX base k w.heap.size) w (.s 6 (Ex.rows y.args)) (.slice ay my cy)) (e:w.alloc (.cells #[.int .i64 x.kind,.string x.name,.int .i64 x.n,.slice ax mx cx,.int .i64 x.line,.int .i64 x.col,.int .i64 y.kind,.string y.name,.int .i64 y.n,.slice ay my cy,.int .i64 y.line,.int .i64 y.col] 60)=w') {b:Nat} (hb:w.heap.size=b) (hl:base≤w.heap.size) (hk:k<w.heap.size):Mem (NwX base k w'.heap.size) w' (.s 6 (Ex.rows [x,y])) (.slice (some ⟨b,0,none⟩) 2 2):=e ▸ hb ▸ builtX2 hx hy hl hk
theorem builtE3E {base:Nat} {x y z:Ex} {ax ay az:Option Addr} {mx cx my cy mz cz:Nat} (hx:Mem (Nw 0 base w.heap.size) w (.s 6 (Ex.rows x.args)) (.slice ax mx cx)) (hy:Mem (Nw 0 base w.heap.size) w (.s 6 (Ex.rows y.args)) (.slice ay my cy)) (hz:Mem (Nw 0 base w.heap.size) w (.s 6 (Ex.rows z.args)) (.slice az mz cz)) (e:w.alloc (.cells #[.int .i64 x.kind,.string x.name,.int .i64 x.n,.slice ax mx cx,.int .i64 x.line,.int .i64 x.col,.int .i64 y.kind,.string y.name,.int .i64 y.n,.slice ay my cy,.int .i64 y.line,.int .i64 y.col,.int .i64 z.kind,.string z.name,.int .i64 z.n,.slice az mz cz,.int .i64 z.line,.int .i64 z.col] 60)=w') {b:Nat} (hb:w.heap.size=b) (hl:base≤w.heap.size):OwnD 0 base 60 6 w' (.slice (some ⟨b,0,none⟩) 3 3) (Ex.rows [x,y,z]):=e ▸ hb ▸ builtE3 hx hy hz hl
theorem PS.setIE {ts:List Tk} {aL:Option Addr} {n cap i:Nat} {d:Int} (h:PS ts aL n cap q i d w) {k:Nat} {v:Int} (e:w.setCell ⟨q,1,none⟩ (.int .i64 v)=w') (hv:v=(k:Int)):PS ts aL n cap q k d w':=e ▸ h.setI hv
theorem PS.setDE {ts:List Tk} {aL:Option Addr} {n cap i:Nat} {d:Int} (h:PS ts aL n cap q i d w) {k v:Int} (e:w.setCell ⟨q,2,none⟩ (.int .i64 v)=w') (hv:v=k):PS ts aL n cap q i k w':=e ▸ hv ▸ h.setD v
theorem FarB.setQE {v:Value} (h:FarB q B a w) (e:w.setCell ⟨q,j,none⟩ v=w'):FarB q B a w':=e ▸ h.setQ j v
theorem PS.c3z {ts:List Tk} {aL:Option Addr} {n cap i:Nat} {d:Int} (h:PS ts aL n cap q i d w):w.cell? ⟨q,0,none⟩=some (.slice aL n cap)∧w.cell? ⟨q,1,none⟩=some (.int .i64 (i:Int))∧w.cell? ⟨q,2,none⟩=some (.int .i64 d)∧∀ i:Nat,w.frozen? ⟨q,i,none⟩=false:=h.bo.c3z
theorem bF1 {cs:Array Value} {v0:Value} (h:Hid (Bo w q t cs)) (e:(w.setCell ⟨g,j,none⟩ v0)=w') (hg:q≠g:=by omega):Hid (Bo w' q t cs):=zz (h.out.far1 e hg)
theorem mS1 {base:Nat} {x:At} {y:Value} {v0:Value} (h:Hid (Mem (Nw 0 base w.heap.size) w x y)) (e:(w.setCell ⟨g,j,none⟩ v0)=w') (hg:g<base:=by omega):Hid (Mem (Nw 0 base w'.heap.size) w' x y):=zz (memSet1 h.out e hg)
theorem xS1 {base k:Nat} {x:At} {y:Value} {v0:Value} (h:Hid (Mem (NwX base k w.heap.size) w x y)) (e:(w.setCell ⟨g,j,none⟩ v0)=w') (hg:g<base∨g=k:=by omega):Hid (Mem (NwX base k w'.heap.size) w' x y):=zz (memXSet1 h.out e hg)
theorem oS1 {base sz:Nat} {et:TypeId} {y:Value} {rs:List (List At)} {v0:Value} (h:Hid (OwnD 0 base et sz w y rs)) (e:(w.setCell ⟨g,j,none⟩ v0)=w') (hg:g<base:=by omega):Hid (OwnD 0 base et sz w' y rs):=zz (h.out.setB1 e hg)
theorem fN1 {v0:Value} (h:Hid (FarB q B a w)) (e:(w.setCell ⟨g,j,none⟩ v0)=w') (hg:B≤g:=by omega):Hid (FarB q B a w'):=zz (h.out.setN1 e hg)
theorem pO1 {ts:List Tk} {aL:Option Addr} {n cap i:Nat} {d:Int} {v0:Value} (h:Hid (PS ts aL n cap q i d w)) (e:(w.setCell ⟨g,j,none⟩ v0)=w') (hg:q<g:=by omega):Hid (PS ts aL n cap q i d w'):=zz (h.out.off1 e hg)
theorem bF2 {cs:Array Value} {v0 v1:Value} (h:Hid (Bo w q t cs)) (e:((w.setCell ⟨g,0,none⟩ v0).setCell ⟨g,1,none⟩ v1)=w') (hg:q≠g:=by omega):Hid (Bo w' q t cs):=zz (h.out.far2 e hg)
theorem fN2 {v0 v1:Value} (h:Hid (FarB q B a w)) (e:((w.setCell ⟨g,0,none⟩ v0).setCell ⟨g,1,none⟩ v1)=w') (hg:B≤g:=by omega):Hid (FarB q B a w'):=zz (h.out.setN2 e hg)
theorem bS2 {a0 a1:Value} {v0 v1:Value} (h:Hid (Bo w q t #[a0,a1])) (e:((w.setCell ⟨q,0,none⟩ v0).setCell ⟨q,1,none⟩ v1)=w'):Hid (Bo w' q t #[v0,v1]):=zz (h.out.set2 e)
theorem bF3 {cs:Array Value} {v0 v1 v2:Value} (h:Hid (Bo w q t cs)) (e:(((w.setCell ⟨g,0,none⟩ v0).setCell ⟨g,1,none⟩ v1).setCell ⟨g,2,none⟩ v2)=w') (hg:q≠g:=by omega):Hid (Bo w' q t cs):=zz (h.out.far3 e hg)
theorem mS3 {base:Nat} {x:At} {y:Value} {v0 v1 v2:Value} (h:Hid (Mem (Nw 0 base w.heap.size) w x y)) (e:(((w.setCell ⟨g,0,none⟩ v0).setCell ⟨g,1,none⟩ v1).setCell ⟨g,2,none⟩ v2)=w') (hg:g<base:=by omega):Hid (Mem (Nw 0 base w'.heap.size) w' x y):=zz (memSet3 h.out e hg)
theorem fN3 {v0 v1 v2:Value} (h:Hid (FarB q B a w)) (e:(((w.setCell ⟨g,0,none⟩ v0).setCell ⟨g,1,none⟩ v1).setCell ⟨g,2,none⟩ v2)=w') (hg:B≤g:=by omega):Hid (FarB q B a w'):=zz (h.out.setN3 e hg)
theorem bS3 {a0 a1 a2:Value} {v0 v1 v2:Value} (h:Hid (Bo w q t #[a0,a1,a2])) (e:(((w.setCell ⟨q,0,none⟩ v0).setCell ⟨q,1,none⟩ v1).setCell ⟨q,2,none⟩ v2)=w'):Hid (Bo w' q t #[v0,v1,v2]):=zz (h.out.set3 e)
theorem bF5 {cs:Array Value} {v0 v1 v2 v3 v4:Value} (h:Hid (Bo w q t cs)) (e:(((((w.setCell ⟨g,0,none⟩ v0).setCell ⟨g,1,none⟩ v1).setCell ⟨g,2,none⟩ v2).setCell ⟨g,3,none⟩ v3).setCell ⟨g,4,none⟩ v4)=w') (hg:q≠g:=by omega):Hid (Bo w' q t cs):=zz (h.out.far5 e hg)
theorem oS5 {base sz:Nat} {et:TypeId} {y:Value} {rs:List (List At)} {v0 v1 v2 v3 v4:Value} (h:Hid (OwnD 0 base et sz w y rs)) (e:(((((w.setCell ⟨g,0,none⟩ v0).setCell ⟨g,1,none⟩ v1).setCell ⟨g,2,none⟩ v2).setCell ⟨g,3,none⟩ v3).setCell ⟨g,4,none⟩ v4)=w') (hg:g<base:=by omega):Hid (OwnD 0 base et sz w' y rs):=zz (h.out.setB5 e hg)
theorem fN5 {v0 v1 v2 v3 v4:Value} (h:Hid (FarB q B a w)) (e:(((((w.setCell ⟨g,0,none⟩ v0).setCell ⟨g,1,none⟩ v1).setCell ⟨g,2,none⟩ v2).setCell ⟨g,3,none⟩ v3).setCell ⟨g,4,none⟩ v4)=w') (hg:B≤g:=by omega):Hid (FarB q B a w'):=zz (h.out.setN5 e hg)
theorem bS5 {a0 a1 a2 a3 a4:Value} {v0 v1 v2 v3 v4:Value} (h:Hid (Bo w q t #[a0,a1,a2,a3,a4])) (e:(((((w.setCell ⟨q,0,none⟩ v0).setCell ⟨q,1,none⟩ v1).setCell ⟨q,2,none⟩ v2).setCell ⟨q,3,none⟩ v3).setCell ⟨q,4,none⟩ v4)=w'):Hid (Bo w' q t #[v0,v1,v2,v3,v4]):=zz (h.out.set5 e)
theorem bF6 {cs:Array Value} {v0 v1 v2 v3 v4 v5:Value} (h:Hid (Bo w q t cs)) (e:((((((w.setCell ⟨g,0,none⟩ v0).setCell ⟨g,1,none⟩ v1).setCell ⟨g,2,none⟩ v2).setCell ⟨g,3,none⟩ v3).setCell ⟨g,4,none⟩ v4).setCell ⟨g,5,none⟩ v5)=w') (hg:q≠g:=by omega):Hid (Bo w' q t cs):=zz (h.out.far6 e hg)
theorem mS6 {base:Nat} {x:At} {y:Value} {v0 v1 v2 v3 v4 v5:Value} (h:Hid (Mem (Nw 0 base w.heap.size) w x y)) (e:((((((w.setCell ⟨g,0,none⟩ v0).setCell ⟨g,1,none⟩ v1).setCell ⟨g,2,none⟩ v2).setCell ⟨g,3,none⟩ v3).setCell ⟨g,4,none⟩ v4).setCell ⟨g,5,none⟩ v5)=w') (hg:g<base:=by omega):Hid (Mem (Nw 0 base w'.heap.size) w' x y):=zz (memSet6 h.out e hg)
theorem xS6 {base k:Nat} {x:At} {y:Value} {v0 v1 v2 v3 v4 v5:Value} (h:Hid (Mem (NwX base k w.heap.size) w x y)) (e:((((((w.setCell ⟨g,0,none⟩ v0).setCell ⟨g,1,none⟩ v1).setCell ⟨g,2,none⟩ v2).setCell ⟨g,3,none⟩ v3).setCell ⟨g,4,none⟩ v4).setCell ⟨g,5,none⟩ v5)=w') (hg:g<base∨g=k:=by omega):Hid (Mem (NwX base k w'.heap.size) w' x y):=zz (memXSet6 h.out e hg)
theorem oS6 {base sz:Nat} {et:TypeId} {y:Value} {rs:List (List At)} {v0 v1 v2 v3 v4 v5:Value} (h:Hid (OwnD 0 base et sz w y rs)) (e:((((((w.setCell ⟨g,0,none⟩ v0).setCell ⟨g,1,none⟩ v1).setCell ⟨g,2,none⟩ v2).setCell ⟨g,3,none⟩ v3).setCell ⟨g,4,none⟩ v4).setCell ⟨g,5,none⟩ v5)=w') (hg:g<base:=by omega):Hid (OwnD 0 base et sz w' y rs):=zz (h.out.setB6 e hg)
theorem fN6 {v0 v1 v2 v3 v4 v5:Value} (h:Hid (FarB q B a w)) (e:((((((w.setCell ⟨g,0,none⟩ v0).setCell ⟨g,1,none⟩ v1).setCell ⟨g,2,none⟩ v2).setCell ⟨g,3,none⟩ v3).setCell ⟨g,4,none⟩ v4).setCell ⟨g,5,none⟩ v5)=w') (hg:B≤g:=by omega):Hid (FarB q B a w'):=zz (h.out.setN6 e hg)
theorem pO6 {ts:List Tk} {aL:Option Addr} {n cap i:Nat} {d:Int} {v0 v1 v2 v3 v4 v5:Value} (h:Hid (PS ts aL n cap q i d w)) (e:((((((w.setCell ⟨g,0,none⟩ v0).setCell ⟨g,1,none⟩ v1).setCell ⟨g,2,none⟩ v2).setCell ⟨g,3,none⟩ v3).setCell ⟨g,4,none⟩ v4).setCell ⟨g,5,none⟩ v5)=w') (hg:q<g:=by omega):Hid (PS ts aL n cap q i d w'):=zz (h.out.off6 e hg)
theorem bS6 {a0 a1 a2 a3 a4 a5:Value} {v0 v1 v2 v3 v4 v5:Value} (h:Hid (Bo w q t #[a0,a1,a2,a3,a4,a5])) (e:((((((w.setCell ⟨q,0,none⟩ v0).setCell ⟨q,1,none⟩ v1).setCell ⟨q,2,none⟩ v2).setCell ⟨q,3,none⟩ v3).setCell ⟨q,4,none⟩ v4).setCell ⟨q,5,none⟩ v5)=w'):Hid (Bo w' q t #[v0,v1,v2,v3,v4,v5]):=zz (h.out.set6 e)
theorem bA {cs:Array Value} {o:Obj} (h:Hid (Bo w q t cs)) (e:w.alloc o=w'):Hid (Bo w' q t cs):=zz (Bo.allocE h.out e)
theorem bD {cs:Array Value} (h:Hid (Bo w q t cs)) (e:w.drew=w'):Hid (Bo w' q t cs):=zz (Bo.drewE h.out e)
theorem mA {base:Nat} {x:At} {y:Value} {o:Obj} (h:Hid (Mem (Nw 0 base w.heap.size) w x y)) (e:w.alloc o=w'):Hid (Mem (Nw 0 base w'.heap.size) w' x y):=zz (memAllocE h.out e)
theorem mD {base:Nat} {x:At} {y:Value} (h:Hid (Mem (Nw 0 base w.heap.size) w x y)) (e:w.drew=w'):Hid (Mem (Nw 0 base w'.heap.size) w' x y):=zz (memDrewE h.out e)
theorem xA {base k:Nat} {x:At} {y:Value} {o:Obj} (h:Hid (Mem (NwX base k w.heap.size) w x y)) (e:w.alloc o=w'):Hid (Mem (NwX base k w'.heap.size) w' x y):=zz (memXAllocE h.out e)
theorem oA {base sz:Nat} {et:TypeId} {y:Value} {rs:List (List At)} {o:Obj} (h:Hid (OwnD 0 base et sz w y rs)) (e:w.alloc o=w'):Hid (OwnD 0 base et sz w' y rs):=zz (OwnD.allocE h.out e)
theorem oD {base sz:Nat} {et:TypeId} {y:Value} {rs:List (List At)} (h:Hid (OwnD 0 base et sz w y rs)) (e:w.drew=w'):Hid (OwnD 0 base et sz w' y rs):=zz (OwnD.drewE h.out e)
theorem fA {o:Obj} (h:Hid (FarB q B a w)) (e:w.alloc o=w'):Hid (FarB q B a w'):=zz (FarB.allocE h.out e)
theorem fD (h:Hid (FarB q B a w)) (e:w.drew=w'):Hid (FarB q B a w'):=zz (FarB.drewE h.out e)
theorem pA {ts:List Tk} {aL:Option Addr} {n cap i:Nat} {d:Int} {o:Obj} (h:Hid (PS ts aL n cap q i d w)) (e:w.alloc o=w'):Hid (PS ts aL n cap q i d w'):=zz (PS.allocE h.out e)
theorem pD {ts:List Tk} {aL:Option Addr} {n cap i:Nat} {d:Int} (h:Hid (PS ts aL n cap q i d w)) (e:w.drew=w'):Hid (PS ts aL n cap q i d w'):=zz (PS.drewE h.out e)
theorem nB {cs:Array Value} (e:w.alloc (.cells cs t)=w') (b:Nat) (hb:w.heap.size=b:=by omega):Hid (Bo w' b t cs):=zz (Bo.newE e hb)
theorem kB {cs:Array Value} (h:Hid (Bo w q t cs)) (hb:Below w.heap.size w w'):Hid (Bo w' q t cs):=zz (h.out.keep hb)
theorem kP {ts:List Tk} {aL:Option Addr} {n cap i:Nat} {d:Int} (h:Hid (PS ts aL n cap q i d w)) (hb:Below w.heap.size w w'):Hid (PS ts aL n cap q i d w'):=zz (h.out.keep hb)
theorem kO {base sz:Nat} {et:TypeId} {y:Value} {rs:List (List At)} (h:Hid (OwnD 0 base et sz w y rs)) (hb:Below w.heap.size w w'):Hid (OwnD 0 base et sz w' y rs):=zz (h.out.keep hb)
theorem kF (h:Hid (FarB q B a w)) (hb:Below w.heap.size w w'):Hid (FarB q B a w'):=zz (h.out.below hb)
theorem kM {base:Nat} {x:At} {y:Value} (h:Hid (Mem (Nw 0 base w.heap.size) w x y)) (hb:Below w.heap.size w w'):Hid (Mem (Nw 0 base w'.heap.size) w' x y):=zz (memFar (Z:=fun _=>False) h.out (Far.of hb) fun _ _ h=>h)
theorem qB {cs:Array Value} (h:Hid (Bo w j t cs)) (hf:FarQ q w w') (hq:j≠q:=by omega):Hid (Bo w' j t cs):=zz (FarQ.bo h.out hf hq)
theorem qM {base:Nat} {x:At} {y:Value} (h:Hid (Mem (Nw 0 base w.heap.size) w x y)) (hf:FarQ q w w') (hq:q<base:=by omega):Hid (Mem (Nw 0 base w'.heap.size) w' x y):=zz (FarQ.mem h.out hf hq)
theorem qO {base sz:Nat} {et:TypeId} {y:Value} {rs:List (List At)} (h:Hid (OwnD 0 base et sz w y rs)) (hf:FarQ q w w') (hq:q<base:=by omega):Hid (OwnD 0 base et sz w' y rs):=zz (h.out.farq hf hq)
theorem qX {k:Nat} {base:Nat} {x:At} {y:Value} (h:Hid (Mem (NwX base k w.heap.size) w x y)) (hf:FarQ q w w') (hq:q<base:=by omega):Hid (Mem (NwX base k w'.heap.size) w' x y):=zz (memXQ h.out hf hq)
theorem qF (h:Hid (FarB q B a w)) (hf:FarQ q w w'):Hid (FarB q B a w'):=zz (h.out.farq hf)
theorem kc1 {v0:Value} (h:Hid (Bo w q t #[v0])):w.cell? ⟨q,0,none⟩=some v0∧∀ i:Nat,w.frozen? ⟨q,i,none⟩=false:=h.out.c1z
theorem kc2 {v0 v1:Value} (h:Hid (Bo w q t #[v0,v1])):w.cell? ⟨q,0,none⟩=some v0∧w.cell? ⟨q,1,none⟩=some v1∧∀ i:Nat,w.frozen? ⟨q,i,none⟩=false:=h.out.c2z
theorem kc3 {v0 v1 v2:Value} (h:Hid (Bo w q t #[v0,v1,v2])):w.cell? ⟨q,0,none⟩=some v0∧w.cell? ⟨q,1,none⟩=some v1∧w.cell? ⟨q,2,none⟩=some v2∧∀ i:Nat,w.frozen? ⟨q,i,none⟩=false:=h.out.c3z
theorem kc5 {v0 v1 v2 v3 v4:Value} (h:Hid (Bo w q t #[v0,v1,v2,v3,v4])):w.cell? ⟨q,0,none⟩=some v0∧w.cell? ⟨q,1,none⟩=some v1∧w.cell? ⟨q,2,none⟩=some v2∧w.cell? ⟨q,3,none⟩=some v3∧w.cell? ⟨q,4,none⟩=some v4∧∀ i:Nat,w.frozen? ⟨q,i,none⟩=false:=h.out.c5z
theorem kc6 {v0 v1 v2 v3 v4 v5:Value} (h:Hid (Bo w q t #[v0,v1,v2,v3,v4,v5])):w.cell? ⟨q,0,none⟩=some v0∧w.cell? ⟨q,1,none⟩=some v1∧w.cell? ⟨q,2,none⟩=some v2∧w.cell? ⟨q,3,none⟩=some v3∧w.cell? ⟨q,4,none⟩=some v4∧w.cell? ⟨q,5,none⟩=some v5∧∀ i:Nat,w.frozen? ⟨q,i,none⟩=false:=h.out.c6z
theorem kcP {ts:List Tk} {aL:Option Addr} {n cap i:Nat} {d:Int} (h:Hid (PS ts aL n cap q i d w)):w.cell? ⟨q,0,none⟩=some (.slice aL n cap)∧w.cell? ⟨q,1,none⟩=some (.int .i64 (i:Int))∧w.cell? ⟨q,2,none⟩=some (.int .i64 d)∧∀ i:Nat,w.frozen? ⟨q,i,none⟩=false:=h.out.c3z
theorem gB {o:Obj} {r:Option Nat} {cs:Array Value} (A:Nat) (h:Hid (Bo w q t cs)) (hg:(w.alloc o).grownBy w' r) (e:r=some A) (hn:A≠q:=by omega):Hid (Bo w' q t cs):=zz ((h.out.alloc o).grown hg fun k hk=>by rw [e] at hk;cases hk;exact hn)
theorem rB {o:Obj} {r:Option Nat} {cs:Array Value} (h:Hid (Bo w q t cs)) (hg:(w.alloc o).grownBy w' r) (e:r=none):Hid (Bo w' q t cs):=zz ((h.out.alloc o).grown hg fun k hk=>by rw [e] at hk;cases hk)
theorem gF {o:Obj} {r:Option Nat} (A:Nat) (h:Hid (FarB q B a w)) (hg:(w.alloc o).grownBy w' r) (e:r=some A) (hn:B≤A:=by omega):Hid (FarB q B a w'):=zz ((h.out.alloc o).grown hg fun k hk=>by rw [e] at hk;cases hk;exact hn)
theorem rF {o:Obj} {r:Option Nat} (h:Hid (FarB q B a w)) (hg:(w.alloc o).grownBy w' r) (e:r=none):Hid (FarB q B a w'):=zz ((h.out.alloc o).grown hg fun k hk=>by rw [e] at hk;cases hk)
theorem gP {o:Obj} {r:Option Nat} {ts:List Tk} {aL:Option Addr} {n cap i:Nat} {d:Int} (A:Nat) (h:Hid (PS ts aL n cap q i d w)) (hg:(w.alloc o).grownBy w' r) (e:r=some A) (hn:q<A:=by omega):Hid (PS ts aL n cap q i d w'):=zz ((h.out.alloc o).grown hg fun k hk=>by rw [e] at hk;cases hk;exact hn)
theorem rP {o:Obj} {r:Option Nat} {ts:List Tk} {aL:Option Addr} {n cap i:Nat} {d:Int} (h:Hid (PS ts aL n cap q i d w)) (hg:(w.alloc o).grownBy w' r) (e:r=none):Hid (PS ts aL n cap q i d w'):=zz ((h.out.alloc o).grown hg fun k hk=>by rw [e] at hk;cases hk)
theorem pu1 {α:Type _} (i:Nat) (a:α) (l:List α):l.toArray.setIfInBounds i a=(l.set i a).toArray:=List.setIfInBounds_toArray ..
theorem pu2 {α:Type _} {a b:α} {l:List α} :(a::l).set 0 b=b::l:=List.set_cons_zero
theorem pu3 {α:Type _} {a b:α} {l:List α} {i:Nat} :(a::l).set (i+1) b=a::l.set i b:=List.set_cons_succ
theorem pu:(∀ (a:Act) (d:Nat) (v:Value),a.put (some d) v= { a with tmps:=a.tmps.setIfInBounds d v })∧(∀ (a:Act) (v:Value),a.put none v=a)∧(∀ (i:Nat) (a:Value) (l:List Value),l.toArray.setIfInBounds i a=(l.set i a).toArray)∧(∀ (a b:Value) (l:List Value),(a::l).set 0 b=b::l)∧(∀ (a b:Value) (l:List Value) (i:Nat),(a::l).set (i+1) b=a::l.set i b):=⟨fun _ _ _=>rfl,fun _ _=>rfl,fun i a l=>pu1 i a l,fun _ _ _=>pu2,fun _ _ _ _=>pu3⟩
section
variable {P:Program} {md:Region.Mode} {Q:Exit→Act→World→Prop} {S:World→Prop} {l:List Oper} (i:Nat) {oi:Oper} {fuel:Nat} {listed:Array Bool} {a:Act} {w:World}
theorem takeA {v:Value} (hi:l[i]?=some oi) (hy:∀ w,S w→(execOp a.eval oi).run P w=.ok (.value v) w) (h:wpAnyH P md l.toArray Q S fuel (listed.setIfInBounds i true) (a.put oi.dst v) w)
    (hs:Region.noSelect l.toArray=true:=by kernel_rfl) (hf:Region.free md l.toArray listed i=true:=by kernel_rfl) (hr:(Region.ready md l.toArray listed).contains i=true:=by kernel_rfl)
    (hQ:∀ c a w,Q (.panic c) (a.put oi.dst v) w→Q (.panic c) a w:=by exact fun _ _ _ h=>h) (hw:Region.wanted oi (yielded l.toArray a.tmps)=true:=by rfl) (hS:S w:=by assumption):wpAnyH P md l.toArray Q S (fuel+1) listed a w:=
  takeL i hi hs hf hr hQ hw hy hS h
theorem skipA (hi:l[i]?=some oi) (h:wpAnyH P md l.toArray Q S fuel (listed.setIfInBounds i true) (a.put oi.dst undef) w)
    (hs:Region.noSelect l.toArray=true:=by kernel_rfl) (hf:Region.free md l.toArray listed i=true:=by kernel_rfl) (hr:(Region.ready md l.toArray listed).contains i=true:=by kernel_rfl)
    (hQ:∀ c a w,Q (.panic c) (a.put oi.dst undef) w→Q (.panic c) a w:=by exact fun _ _ _ h=>h) (hw:Region.wanted oi (yielded l.toArray a.tmps)=false:=by rfl) (hS:S w:=by assumption):wpAnyH P md l.toArray Q S (fuel+1) listed a w:=
  skipL i hi hs hf hr hQ hw hS h
theorem callA (hi:l[i]?=some oi)
    (h:∀ K':Act→World→Prop,Shut (∀ a w,S w→(S w→wpAnyH P md l.toArray Q S fuel (listed.setIfInBounds i true) a w)→K' a w)→Oper.wp P oi a w K' Q) (hr:Region.ready md l.toArray listed=[i]:=by kernel_rfl) (hw:Region.wanted oi (yielded l.toArray a.tmps)=true:=by rfl):wpAnyH P md l.toArray Q S (fuel+1) listed a w:=
  callL i hi hr hw h
end
end
theorem chain2 (x0 x1:Nat) (h0:x0<x1:=by omega):x0<x1∧x0≠x1∧x1≠x0:=by
  refine ⟨?_,?_,?_⟩ <;> omega
theorem chain3 (x0 x1 x2:Nat) (h0:x0<x1:=by omega) (h1:x1<x2:=by omega):x0<x1∧x0≠x1∧x1≠x0∧x0<x2∧x0≠x2∧x2≠x0∧x1<x2∧x1≠x2∧x2≠x1:=by
  refine ⟨?_,?_,?_,?_,?_,?_,?_,?_,?_⟩ <;> omega
theorem chain4 (x0 x1 x2 x3:Nat) (h0:x0<x1:=by omega) (h1:x1<x2:=by omega) (h2:x2<x3:=by omega):x0<x1∧x0≠x1∧x1≠x0∧x0<x2∧x0≠x2∧x2≠x0∧x0<x3∧x0≠x3∧x3≠x0∧x1<x2∧x1≠x2∧x2≠x1∧x1<x3∧x1≠x3∧x3≠x1∧x2<x3∧x2≠x3∧x3≠x2:=by
  refine ⟨?_,?_,?_,?_,?_,?_,?_,?_,?_,?_,?_,?_,?_,?_,?_,?_,?_,?_⟩ <;> omega
theorem chain5 (x0 x1 x2 x3 x4:Nat) (h0:x0<x1:=by omega) (h1:x1<x2:=by omega) (h2:x2<x3:=by omega) (h3:x3<x4:=by omega):x0<x1∧x0≠x1∧x1≠x0∧x0<x2∧x0≠x2∧x2≠x0∧x0<x3∧x0≠x3∧x3≠x0∧x0<x4∧x0≠x4∧x4≠x0∧x1<x2∧x1≠x2∧x2≠x1∧x1<x3∧x1≠x3∧x3≠x1∧x1<x4∧x1≠x4∧x4≠x1∧x2<x3∧x2≠x3∧x3≠x2∧x2<x4∧x2≠x4∧x4≠x2∧x3<x4∧x3≠x4∧x4≠x3:=by
  refine ⟨?_,?_,?_,?_,?_,?_,?_,?_,?_,?_,?_,?_,?_,?_,?_,?_,?_,?_,?_,?_,?_,?_,?_,?_,?_,?_,?_,?_,?_,?_⟩ <;> omega
theorem chain6 (x0 x1 x2 x3 x4 x5:Nat) (h0:x0<x1:=by omega) (h1:x1<x2:=by omega) (h2:x2<x3:=by omega) (h3:x3<x4:=by omega) (h4:x4<x5:=by omega):x0<x1∧x0≠x1∧x1≠x0∧x0<x2∧x0≠x2∧x2≠x0∧x0<x3∧x0≠x3∧x3≠x0∧x0<x4∧x0≠x4∧x4≠x0∧x0<x5∧x0≠x5∧x5≠x0∧x1<x2∧x1≠x2∧x2≠x1∧x1<x3∧x1≠x3∧x3≠x1∧x1<x4∧x1≠x4∧x4≠x1∧x1<x5∧x1≠x5∧x5≠x1∧x2<x3∧x2≠x3∧x3≠x2∧x2<x4∧x2≠x4∧x4≠x2∧x2<x5∧x2≠x5∧x5≠x2∧x3<x4∧x3≠x4∧x4≠x3∧x3<x5∧x3≠x5∧x5≠x3∧x4<x5∧x4≠x5∧x5≠x4:=by
  refine ⟨?_,?_,?_,?_,?_,?_,?_,?_,?_,?_,?_,?_,?_,?_,?_,?_,?_,?_,?_,?_,?_,?_,?_,?_,?_,?_,?_,?_,?_,?_,?_,?_,?_,?_,?_,?_,?_,?_,?_,?_,?_,?_,?_,?_,?_⟩ <;> omega
theorem i01 (a:World):type_of% (chain2 a.heap.size (a.heap.size+1)):=chain2 _ _
theorem i012 (a:World):type_of% (chain3 a.heap.size (a.heap.size+1) (a.heap.size+2)):=chain3 _ _ _
theorem i01_0 (a:World) (b:World) (h1:(a.heap.size+1)<b.heap.size:=by omega):type_of% (chain3 a.heap.size (a.heap.size+1) b.heap.size):=chain3 _ _ _
theorem i01_01 (a:World) (b:World) (h1:(a.heap.size+1)<b.heap.size:=by omega):type_of% (chain4 a.heap.size (a.heap.size+1) b.heap.size (b.heap.size+1)):=chain4 _ _ _ _
theorem i01_012 (a:World) (b:World) (h1:(a.heap.size+1)<b.heap.size:=by omega):type_of% (chain5 a.heap.size (a.heap.size+1) b.heap.size (b.heap.size+1) (b.heap.size+2)):=chain5 _ _ _ _ _
theorem i01_01_0 (a:World) (b:World) (c:World) (h1:(a.heap.size+1)<b.heap.size:=by omega) (h2:(b.heap.size+1)<c.heap.size:=by omega):type_of% (chain5 a.heap.size (a.heap.size+1) b.heap.size (b.heap.size+1) c.heap.size):=chain5 _ _ _ _ _
theorem i01_0_0 (a:World) (b:World) (c:World) (h1:(a.heap.size+1)<b.heap.size:=by omega) (h2:b.heap.size<c.heap.size:=by omega):type_of% (chain4 a.heap.size (a.heap.size+1) b.heap.size c.heap.size):=chain4 _ _ _ _
theorem i01_0_01 (a:World) (b:World) (c:World) (h1:(a.heap.size+1)<b.heap.size:=by omega) (h2:b.heap.size<c.heap.size:=by omega):type_of% (chain5 a.heap.size (a.heap.size+1) b.heap.size c.heap.size (c.heap.size+1)):=chain5 _ _ _ _ _
theorem i01_0_0_0 (a:World) (b:World) (c:World) (d:World) (h1:(a.heap.size+1)<b.heap.size:=by omega) (h2:b.heap.size<c.heap.size:=by omega) (h3:c.heap.size<d.heap.size:=by omega):type_of% (chain5 a.heap.size (a.heap.size+1) b.heap.size c.heap.size d.heap.size):=chain5 _ _ _ _ _
theorem i01_q_q_0 (a:World) (b:Nat) (c:Nat) (d:World) (h1:(a.heap.size+1)<b:=by omega) (h2:b<c:=by omega) (h3:c<d.heap.size:=by omega):type_of% (chain5 a.heap.size (a.heap.size+1) b c d.heap.size):=chain5 _ _ _ _ _
theorem i0_0 (a:World) (b:World) (h1:a.heap.size<b.heap.size:=by omega):type_of% (chain2 a.heap.size b.heap.size):=chain2 _ _
theorem iq_01 (a:Nat) (b:World) (h1:a<b.heap.size:=by omega):type_of% (chain3 a b.heap.size (b.heap.size+1)):=chain3 _ _ _
theorem iq_012 (a:Nat) (b:World) (h1:a<b.heap.size:=by omega):type_of% (chain4 a b.heap.size (b.heap.size+1) (b.heap.size+2)):=chain4 _ _ _ _
theorem iq_012_0 (a:Nat) (b:World) (c:World) (h1:a<b.heap.size:=by omega) (h2:(b.heap.size+2)<c.heap.size:=by omega):type_of% (chain5 a b.heap.size (b.heap.size+1) (b.heap.size+2) c.heap.size):=chain5 _ _ _ _ _
theorem iq_01_0 (a:Nat) (b:World) (c:World) (h1:a<b.heap.size:=by omega) (h2:(b.heap.size+1)<c.heap.size:=by omega):type_of% (chain4 a b.heap.size (b.heap.size+1) c.heap.size):=chain4 _ _ _ _
theorem iq_0_0 (a:Nat) (b:World) (c:World) (h1:a<b.heap.size:=by omega) (h2:b.heap.size<c.heap.size:=by omega):type_of% (chain3 a b.heap.size c.heap.size):=chain3 _ _ _
theorem iq_0_01 (a:Nat) (b:World) (c:World) (h1:a<b.heap.size:=by omega) (h2:b.heap.size<c.heap.size:=by omega):type_of% (chain4 a b.heap.size c.heap.size (c.heap.size+1)):=chain4 _ _ _ _
theorem iq_0_0_0 (a:Nat) (b:World) (c:World) (d:World) (h1:a<b.heap.size:=by omega) (h2:b.heap.size<c.heap.size:=by omega) (h3:c.heap.size<d.heap.size:=by omega):type_of% (chain4 a b.heap.size c.heap.size d.heap.size):=chain4 _ _ _ _
theorem iq_0_0_01 (a:Nat) (b:World) (c:World) (d:World) (h1:a<b.heap.size:=by omega) (h2:b.heap.size<c.heap.size:=by omega) (h3:c.heap.size<d.heap.size:=by omega):type_of% (chain5 a b.heap.size c.heap.size d.heap.size (d.heap.size+1)):=chain5 _ _ _ _ _
theorem iq_0_0_0_0 (a:Nat) (b:World) (c:World) (d:World) (e:World) (h1:a<b.heap.size:=by omega) (h2:b.heap.size<c.heap.size:=by omega) (h3:c.heap.size<d.heap.size:=by omega) (h4:d.heap.size<e.heap.size:=by omega):type_of% (chain5 a b.heap.size c.heap.size d.heap.size e.heap.size):=chain5 _ _ _ _ _
theorem iq_0_0_0_01 (a:Nat) (b:World) (c:World) (d:World) (e:World) (h1:a<b.heap.size:=by omega) (h2:b.heap.size<c.heap.size:=by omega) (h3:c.heap.size<d.heap.size:=by omega) (h4:d.heap.size<e.heap.size:=by omega):type_of% (chain6 a b.heap.size c.heap.size d.heap.size e.heap.size (e.heap.size+1)):=chain6 _ _ _ _ _ _
theorem iq_0_0_0_0_0 (a:Nat) (b:World) (c:World) (d:World) (e:World) (f:World) (h1:a<b.heap.size:=by omega) (h2:b.heap.size<c.heap.size:=by omega) (h3:c.heap.size<d.heap.size:=by omega) (h4:d.heap.size<e.heap.size:=by omega) (h5:e.heap.size<f.heap.size:=by omega):type_of% (chain6 a b.heap.size c.heap.size d.heap.size e.heap.size f.heap.size):=chain6 _ _ _ _ _ _
theorem iq_0_0_0_1 (a:Nat) (b:World) (c:World) (d:World) (e:World) (h1:a<b.heap.size:=by omega) (h2:b.heap.size<c.heap.size:=by omega) (h3:c.heap.size<d.heap.size:=by omega) (h4:d.heap.size<(e.heap.size+1):=by omega):type_of% (chain5 a b.heap.size c.heap.size d.heap.size (e.heap.size+1)):=chain5 _ _ _ _ _
theorem iq_12_0 (a:Nat) (b:World) (c:World) (h1:a<(b.heap.size+1):=by omega) (h2:(b.heap.size+2)<c.heap.size:=by omega):type_of% (chain4 a (b.heap.size+1) (b.heap.size+2) c.heap.size):=chain4 _ _ _ _
theorem iq_12_1 (a:Nat) (b:World) (c:World) (h1:a<(b.heap.size+1):=by omega) (h2:(b.heap.size+2)<(c.heap.size+1):=by omega):type_of% (chain4 a (b.heap.size+1) (b.heap.size+2) (c.heap.size+1)):=chain4 _ _ _ _
theorem iq_1_01 (a:Nat) (b:World) (c:World) (h1:a<(b.heap.size+1):=by omega) (h2:(b.heap.size+1)<c.heap.size:=by omega):type_of% (chain4 a (b.heap.size+1) c.heap.size (c.heap.size+1)):=chain4 _ _ _ _
theorem iq_1_0_0 (a:Nat) (b:World) (c:World) (d:World) (h1:a<(b.heap.size+1):=by omega) (h2:(b.heap.size+1)<c.heap.size:=by omega) (h3:c.heap.size<d.heap.size:=by omega):type_of% (chain4 a (b.heap.size+1) c.heap.size d.heap.size):=chain4 _ _ _ _
theorem iq_1_0_1 (a:Nat) (b:World) (c:World) (d:World) (h1:a<(b.heap.size+1):=by omega) (h2:(b.heap.size+1)<c.heap.size:=by omega) (h3:c.heap.size<(d.heap.size+1):=by omega):type_of% (chain4 a (b.heap.size+1) c.heap.size (d.heap.size+1)):=chain4 _ _ _ _
end
end Go.Proofs.YtcoiagfeoonpbaaGreat
