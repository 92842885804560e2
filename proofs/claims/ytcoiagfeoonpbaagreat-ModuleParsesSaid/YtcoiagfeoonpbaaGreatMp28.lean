/-
  A row of tokens that a call rearranges: its elements, what is loaded, what a store of a whole token does. Plain lemmas. No condition.
-/
import Derived.Test.YtcoiagfeoonpbaaGreatMp27
import Derived.Sort.LotA
import Derived.Sort.Lot0
import Derived.Laws.IdiomCopy
import Derived.Test.YtcoiagfeoonpbaaGreatMp7
import Derived.Test.YtcoiagfeoonpbaaGreatMp24
import Derived.Test.YtcoiagfeoonpbaaGreatMp4
set_option maxHeartbeats 20000000
set_option maxRecDepth 100000
namespace Go.Proofs.YtcoiagfeoonpbaaGreat
section
open Go.RowKit
instance:Inhabited Tok:=⟨⟨0,.empty,0,0,0⟩⟩
def WrP (w:World) (q o:Nat):Prop:=∀ j,j<5→(w.cell? ⟨q,o+j,none⟩).isSome=true∧w.frozen? ⟨q,o+j,none⟩=false
theorem tokR_len (t:Tok):(tokR t).length=5:=rfl
def TRow (w:World) (q:Nat) (d:Array Tok):Prop:=∀ i,i<d.size→∀ j (hj:j<5),w.cell? ⟨q,i * 5+j,none⟩=some ((tokR d[i]!)[j]'(by rw [tokR_len];exact hj))∧w.frozen? ⟨q,i * 5+j,none⟩=false
section
variable {w w':World} {q:Nat} {d:Array Tok}
theorem TRow.wr (h:TRow w q d) {i:Nat} (e:i<d.size):WrP w q (i * 5):=fun j f=>by
  obtain ⟨a,b⟩:=h i e j f;exact ⟨by rw [a];rfl,b⟩
theorem TRow.c5 (h:TRow w q d) {i:Nat} (a:i<d.size) {e:Tok} (b:d[i]! =e):w.cell? ⟨q,i * 5,none⟩=some (.int .i64 e.k)∧w.cell? ⟨q,i * 5+1,none⟩=some (.string e.s)∧w.cell? ⟨q,i * 5+2,none⟩=some (.int .i64 e.n)∧w.cell? ⟨q,i * 5+3,none⟩=some (.int .i64 e.l)∧w.cell? ⟨q,i * 5+4,none⟩=some (.int .i64 e.c):=by
  subst b;exact ⟨(h i a 0 (by decide)).1,(h i a 1 (by decide)).1,(h i a 2 (by decide)).1,(h i a 3 (by decide)).1,(h i a 4 (by decide)).1⟩
theorem TRow.keep (h:TRow w q d) (b:q<w.heap.size) (a:Below w.heap.size w w'):TRow w' q d:=fun i g j m=>by
  obtain ⟨e,f⟩:=h i g j m;exact ⟨(a.cell (p:=⟨q,i * 5+j,none⟩) b).trans e,by rw [World.frozen?,a.block q b];exact f⟩
theorem TRow.set (h:TRow w q d) {i:Nat} (m:i<d.size) (e:Tok):TRow (w.setCells q (i * 5) (tokR e)) q (d.setIfInBounds i e):=fun k a j b=>by
  rw [Array.size_setIfInBounds] at a;refine ⟨?_,by rw [World.frozen?_setCells];exact (h k a j b).2⟩
  by_cases g:k=i
  · subst g
    have f:(d.setIfInBounds k e)[k]! =e:=by simp [a]
    rw [World.cell?_setCells_in q (tokR e) (k * 5) w (fun j b=>(h.wr a j b).1) j b]
    simp only [f];rfl
  · have f:(d.setIfInBounds i e)[k]! =d[k]! :=by simp [a,Ne.symm g]
    rw [World.cell?_setCells_out q _ _ _ _ (fun _ _=>by show k * 5+j<_∨_≤k * 5+j;rw [tokR_len];omega),(h k a j b).1]
    simp [f]
theorem grownBy_setCells5 (w:World) (g:Nat) (a:List Value):∀ p,w.grownBy (w.setCells g p a) (some g):=by
  induction a generalizing w with
  | nil=>intro p;exact grownBy_refl _ _
  | cons c a ih=>intro p;rw [World.setCells];exact grownBy_trans (grownBy_setCell w g p c) (ih _ _)
structure DS (w0:World) (q:Nat) (d:Array Tok) (w:World):Prop where
  hq:q<w0.heap.size
  gr:w0.grownBy w (some q)
  row:TRow w q d
variable {w0:World}
theorem DS.lt (h:DS w0 q d w):q<w.heap.size:=Nat.lt_of_lt_of_le h.hq h.gr.size
theorem DS.keep (h:DS w0 q d w) (a:Below w.heap.size w w'):DS w0 q d w':=
  ⟨h.hq,grownBy_trans h.gr ⟨a.os,a.tape,a.output,a.size,fun k b _=>a.block k b⟩,h.row.keep h.lt a⟩
theorem DS.alloc (h:DS w0 q d w) (o:Obj):DS w0 q d (w.alloc o):=h.keep (below_new w o)
theorem DS.put (h:DS w0 q d w) {i:Nat} (a:i<d.size) (e:Tok):DS w0 q (d.setIfInBounds i e) (w.setCells q (i * 5) (tokR e)):=
  ⟨h.hq,grownBy_trans h.gr (grownBy_setCells5 w q _ _),h.row.set a e⟩
end
def stFp:Value→Nat | .pointer (some a)=>a.off | _=>0
def stBp:Value→Nat | .pointer (some a)=>a.block | _=>0
def stCp:Value→List Value | .agg cs=>cs.toList | _=>[]
theorem stFp_eq (a:Addr):stFp (.pointer (some a))=a.off:=rfl
theorem stBp_eq (a:Addr):stBp (.pointer (some a))=a.block:=rfl
theorem stCp_eq (a:Array Value):stCp (.agg a)=a.toList:=rfl
def StP (w:World) (x y:Value):Prop:=∃ g p cs,x=.pointer (some ⟨g,p,none⟩)∧y=.agg cs∧cs.size=5∧cs.all (·.oneCell')=true∧WrP w g p
theorem stP_eq {w:World} {g p:Nat} {k n l c:Int} {s:ByteArray} :StP w (.pointer (some ⟨g,p,none⟩)) (.agg #[.int .i64 k,.string s,.int .i64 n,.int .i64 l,.int .i64 c])=WrP w g p:=by
  refine propext ⟨?_,fun a=>⟨g,p,_,rfl,rfl,rfl,by simp [Value.oneCell'],a⟩⟩;rintro ⟨h,i,e,b,f,_,_,a⟩;cases b;exact a
theorem wp_store_P {dst:Option Nat} {ty:TypeId} {pos:String} {after:Array Edge} {guard:Option (Nat × Bool)} {x y:Operand} {a:Act} {w:World} {K:Act→World→Prop} {Q:Exit→Act→World→Prop} (h:StP w (a.eval x) (a.eval y)):
    Oper.wp Tryz.prog { dst:=dst,op:=.store 53 x y,type:=ty,pos:=pos,after:=after,guard:=guard } a w K Q=K (a.put dst undef) (w.setCells (stBp (a.eval x)) (stFp (a.eval x)) (stCp (a.eval y))):=by
  obtain ⟨g,p,cs,hx,hy,hn,h1,hw⟩:=h
  have hl:cs.toList.length=5:=by rw [Array.length_toList];exact hn
  have hs:=run_storeCells_cells (P:=Tryz.prog) g p cs.toList 0 w (fun j hj=>(hw j (by omega)).1) (fun j hj=>(hw j (by omega)).2) (fun v hv=>(Array.all_eq_true_iff_forall_mem.1 h1) v (by simpa using hv))
  have hi:(Tryz.prog.info? 53).map (·.size)=some 5:=by kernel_rfl
  have hst:(storeVar 53 ⟨g,p,none⟩ (.agg cs)).run Tryz.prog w=.ok () (w.setCells g p cs.toList):=by
    cases hq:Tryz.prog.info? 53 with
    | none=>simp [hq] at hi
    | some i =>
      have hs4:cs.size=i.size:=by simp [hq] at hi;omega
      simp [storeVar,sizeOf,typeInfo,hq,Value.cells,hs4]
      simpa using hs
  unfold Oper.wp execOp;simp only [hx,hy,Instr.storeAt,Instr.sureAddr,Sem.run_bind,Sem.run_pure,Result.andThen_ok,hst]
  rfl
end
section
open Go.RowKit
attribute [local go_sem ↓] wp_store_P
attribute [local go_sem] stP_eq stBp_eq stCp_eq stFp_eq
end
section
open Go.RowKit
def tkOf (t:Tok):Tk:=⟨t.k,t.s,t.n,t.l,t.c⟩
inductive Pr1 where
  | ok (x:Ex)
  | bad (k l c:Int)
theorem OwnT.ds {base:Nat} {w:World} {a:Option Addr} {n cap:Nat} {ts:List Tok} (h:OwnT base w (.slice a n cap) ts) (hn:ts≠[]):∃ q,a=some ⟨q,0,none⟩∧base≤q∧n=ts.length∧n≤cap∧cap≤9223372036854775807∧DS w q ts.toArray w:=by
  rcases h.2 with ⟨e,hz⟩ | ⟨g,cap',cur,e,hb,hgg,hncap,hcap,hsz,htake⟩
  · exact absurd (List.eq_nil_of_length_eq_zero hz) hn
  · cases e
    refine ⟨g,rfl,hb,rfl,hncap,by simpa [maxLen] using hcap,⟨(Array.getElem?_eq_some_iff.1 hgg).1,grownBy_refl _ _,fun i hi j hj=>?_⟩⟩
    have hi':i<ts.length:=by simpa using hi
    refine ⟨?_,frozen_of_row w g _ cur _ hgg⟩;have hc:=World.ownsRow.cellAt h (i * 5+j) (by omega);rw [hc]
    have e1:∀ (l:List Tok) (i:Nat) (hi:i<l.length),(tokVs l)[i * 5+j]?=some ((tokR l[i])[j]'(by rw [tokR_len];exact hj)):=by
      intro l
      induction l with
      | nil=>intro i hi;simp at hi
      | cons t l ih =>
        intro i hi
        have ec:tokVs (t::l)=tokR t++tokVs l:=by simp [tokVs]
        rw [ec]
        cases i with
        | zero =>
          rw [Nat.zero_mul,Nat.zero_add,List.getElem?_append_left (by rw [tokR_len];exact hj),List.getElem?_eq_getElem (by rw [tokR_len];exact hj)]
          rfl
        | succ i =>
          rw [List.getElem?_append_right (by rw [tokR_len];omega),tokR_len,show (i+1) * 5+j - 5=i * 5+j by omega,ih i (by simpa using hi)]
          simp
    rw [e1 ts i hi']
    congr 2
    simp [hi']
end
section
section
variable {us:List Tk} {g j:Nat} {y:Ex}
end
end
end Go.Proofs.YtcoiagfeoonpbaaGreat
