/-
  A row of tokens that a call rearranges: its elements, what is loaded, what a store of a whole token does. Plain lemmas. No condition.
-/
import Derived.Test.YtcoiagfeoonpbaaGreatSm11
import Derived.Sort.LotA
import Derived.Sort.Lot0
import Derived.Laws.IdiomCopy
set_option maxHeartbeats 20000000
set_option maxRecDepth 100000
namespace Go.Proofs.YtcoiagfeoonpbaaGreat
section
open Go.RowKit
instance:Inhabited Tok:=⟨⟨0,.empty,0,0,0⟩⟩
def WrP (w:World) (q o:Nat):Prop:=∀ j,j<5→(w.cell? ⟨q,o+j,none⟩).isSome=true∧w.frozen? ⟨q,o+j,none⟩=false
theorem tokR_len (t:Tok):(tokR t).length=5:=rfl
def TRow (w:World) (q:Nat) (d:Array Tok):Prop:=∀ i,i<d.size→∀ j (hj:j<5),w.cell? ⟨q,i * 5+j,none⟩=some ((tokR d[i]!)[j]'(by rw [tokR_len];exact hj))∧w.frozen? ⟨q,i * 5+j,none⟩=false
section
variable {w w':World} {q:Nat} {d:Array Tok}
theorem TRow.wr (h:TRow w q d) {i:Nat} (hi:i<d.size):WrP w q (i * 5):=fun j hj=>by
  obtain ⟨h1,h2⟩:=h i hi j hj;exact ⟨by rw [h1];rfl,h2⟩
theorem TRow.c5 (h:TRow w q d) {i:Nat} (hi:i<d.size) {e:Tok} (he:d[i]! =e):w.cell? ⟨q,i * 5,none⟩=some (.int .i64 e.k)∧w.cell? ⟨q,i * 5+1,none⟩=some (.string e.s)∧w.cell? ⟨q,i * 5+2,none⟩=some (.int .i64 e.n)∧w.cell? ⟨q,i * 5+3,none⟩=some (.int .i64 e.l)∧w.cell? ⟨q,i * 5+4,none⟩=some (.int .i64 e.c):=by
  subst he;exact ⟨(h i hi 0 (by decide)).1,(h i hi 1 (by decide)).1,(h i hi 2 (by decide)).1,(h i hi 3 (by decide)).1,(h i hi 4 (by decide)).1⟩
theorem TRow.keep (h:TRow w q d) (hq:q<w.heap.size) (hb:Below w.heap.size w w'):TRow w' q d:=fun i hi j hj=>by
  obtain ⟨h1,h2⟩:=h i hi j hj;exact ⟨(hb.cell (p:=⟨q,i * 5+j,none⟩) hq).trans h1,by rw [World.frozen?,hb.block q hq];exact h2⟩
theorem TRow.set (h:TRow w q d) {i:Nat} (hi:i<d.size) (e:Tok):TRow (w.setCells q (i * 5) (tokR e)) q (d.setIfInBounds i e):=fun k hk j hj=>by
  rw [Array.size_setIfInBounds] at hk;refine ⟨?_,by rw [World.frozen?_setCells];exact (h k hk j hj).2⟩
  by_cases hki:k=i
  · subst hki
    have e1:(d.setIfInBounds k e)[k]! =e:=by simp [hk]
    rw [World.cell?_setCells_in q (tokR e) (k * 5) w (fun j hj=>(h.wr hk j hj).1) j hj]
    simp only [e1];rfl
  · have e1:(d.setIfInBounds i e)[k]! =d[k]! :=by simp [hk,Ne.symm hki]
    rw [World.cell?_setCells_out q _ _ _ _ (fun _ _=>by show k * 5+j<_∨_≤k * 5+j;rw [tokR_len];omega),(h k hk j hj).1]
    simp [e1]
theorem grownBy_setCells5 (w:World) (g:Nat) (cs:List Value):∀ p,w.grownBy (w.setCells g p cs) (some g):=by
  induction cs generalizing w with
  | nil=>intro p;exact grownBy_refl _ _
  | cons c cs ih=>intro p;rw [World.setCells];exact grownBy_trans (grownBy_setCell w g p c) (ih _ _)
structure DS (w0:World) (q:Nat) (d:Array Tok) (w:World):Prop where
  hq:q<w0.heap.size
  gr:w0.grownBy w (some q)
  row:TRow w q d
variable {w0:World}
theorem DS.lt (h:DS w0 q d w):q<w.heap.size:=Nat.lt_of_lt_of_le h.hq h.gr.size
theorem DS.keep (h:DS w0 q d w) (hb:Below w.heap.size w w'):DS w0 q d w':=
  ⟨h.hq,grownBy_trans h.gr ⟨hb.os,hb.tape,hb.output,hb.size,fun k hk _=>hb.block k hk⟩,h.row.keep h.lt hb⟩
theorem DS.alloc (h:DS w0 q d w) (o:Obj):DS w0 q d (w.alloc o):=h.keep (below_new w o)
theorem DS.put (h:DS w0 q d w) {i:Nat} (hi:i<d.size) (e:Tok):DS w0 q (d.setIfInBounds i e) (w.setCells q (i * 5) (tokR e)):=
  ⟨h.hq,grownBy_trans h.gr (grownBy_setCells5 w q _ _),h.row.set hi e⟩
end
def stFp:Value→Nat | .pointer (some a)=>a.off | _=>0
def stBp:Value→Nat | .pointer (some a)=>a.block | _=>0
def stCp:Value→List Value | .agg cs=>cs.toList | _=>[]
theorem stFp_eq (a:Addr):stFp (.pointer (some a))=a.off:=rfl
theorem stBp_eq (a:Addr):stBp (.pointer (some a))=a.block:=rfl
theorem stCp_eq (cs:Array Value):stCp (.agg cs)=cs.toList:=rfl
def StP (w:World) (x y:Value):Prop:=∃ g p cs,x=.pointer (some ⟨g,p,none⟩)∧y=.agg cs∧cs.size=5∧cs.all (·.oneCell')=true∧WrP w g p
theorem stP_eq {w:World} {g p:Nat} {k n l c:Int} {s:ByteArray} :StP w (.pointer (some ⟨g,p,none⟩)) (.agg #[.int .i64 k,.string s,.int .i64 n,.int .i64 l,.int .i64 c])=WrP w g p:=by
  refine propext ⟨?_,fun hw=>⟨g,p,_,rfl,rfl,rfl,by simp [Value.oneCell'],hw⟩⟩;rintro ⟨g',p',cs',e1,e2,_,_,hw⟩;cases e1;exact hw
theorem wp_store_P {dst:Option Nat} {ty:TypeId} {pos:String} {after:Array Edge} {guard:Option (Nat × Bool)} {x y:Operand} {a:Act} {w:World} {K:Act→World→Prop} {Q:Exit→Act→World→Prop} (h:StP w (a.eval x) (a.eval y)):
    Oper.wp Tryz.prog { dst:=dst,op:=.store 53 x y,type:=ty,pos:=pos,after:=after,guard:=guard } a w K Q=K (a.put dst undef) (w.setCells (stBp (a.eval x)) (stFp (a.eval x)) (stCp (a.eval y))):=by
  obtain ⟨g,p,cs,hx,hy,hn,h1,hw⟩:=h
  have hl:cs.toList.length=5:=by rw [Array.length_toList];exact hn
  have hs:=run_storeCells_cells (P:=Tryz.prog) g p cs.toList 0 w (fun j hj=>(hw j (by omega)).1) (fun j hj=>(hw j (by omega)).2) (fun v hv=>(Array.all_eq_true_iff_forall_mem.1 h1) v (by simpa using hv))
  have hi:(Tryz.prog.info? 53).map (·.size)=some 5:=by kernel_rfl
  have hst:(storeVar 53 ⟨g,p,none⟩ (.agg cs)).run Tryz.prog w=.ok () (w.setCells g p cs.toList):=by
    cases hq:Tryz.prog.info? 53 with
    | none=>simp [hq] at hi
    | some i =>
      have hs4:cs.size=i.size:=by simp [hq] at hi;omega
      simp [storeVar,sizeOf,typeInfo,hq,Value.cells,hs4]
      simpa using hs
  unfold Oper.wp execOp;simp only [hx,hy,Instr.storeAt,Instr.sureAddr,Sem.run_bind,Sem.run_pure,Result.andThen_ok,hst]
  rfl
def zeros5:Nat→List Value
  | 0=>[]
  | n+1=>tokR ⟨0,.empty,0,0,0⟩++zeros5 n
theorem zeros5_eq (n:Nat):(Builtin.zeroCells #[.int .i64 0,.string .empty,.int .i64 0,.int .i64 0,.int .i64 0] n).toList=zeros5 n:=by
  have key:∀ n,(List.range (n * 5)).map (fun i=>(#[Value.int .i64 0,.string .empty,.int .i64 0,.int .i64 0,.int .i64 0])[i % 5]!)=zeros5 n:=by
    intro n
    induction n with
    | zero=>rfl
    | succ n ih =>
      rw [show (n+1) * 5=5+n * 5 by omega,List.range_add,List.map_append,List.map_map,zeros5, ←ih]
      congr 1
      refine List.map_congr_left fun i _=>?_;simp only [Function.comp_apply,Nat.add_mod_left]
  rw [←key n];unfold Builtin.zeroCells
  simp
theorem zeros5_one:∀ (n:Nat),∀ v∈zeros5 n,v.oneCell'=true
  | 0,v,hv=>by cases hv
  | n + 1, v, hv => by
    rw [zeros5] at hv
    rcases List.mem_append.1 hv with h | h
    · exact tokR_one _ v h
    · exact zeros5_one n v h
theorem zeros5_len:∀ n:Nat,(zeros5 n).length=n * 5
  | 0=>rfl
  | n+1=>by rw [zeros5,List.length_append,zeros5_len n,tokR_len];omega
theorem run_clear_toks (ty:TypeId) (w:World) (q p m c:Nat) (hm:0<m) (h:∀ j,j<m * 5→(w.cell? ⟨q,p+j,none⟩).isSome=true∧w.frozen? ⟨q,p+j,none⟩=false):
    (Builtin.clear_ #[46] ty #[.slice (some ⟨q,p,none⟩) m c]).run Tryz.prog w=.ok (.tuple #[]) (w.setCells q p (zeros5 m)):=by
  have hz:(zeroValue 53).run Tryz.prog w=.ok (.agg #[.int .i64 0,.string .empty,.int .i64 0,.int .i64 0,.int .i64 0]) w:=Tryz.zeroValue53 w;have hs:=run_storeCells_cells (P:=Tryz.prog) q p (zeros5 m) 0 w (fun j hj=>(h j (by rw [zeros5_len] at hj;omega)).1) (fun j hj=>(h j (by rw [zeros5_len] at hj;omega)).2) (zeros5_one m);obtain ⟨m',rfl⟩:∃ m',m=m'+1:=⟨m - 1,by omega⟩;simp only [Nat.add_zero] at hs
  simp [Builtin.clear_,run_underlying Tryz.underlying46,hz,Value.cells,zeros5_eq,hs]
end
end Go.Proofs.YtcoiagfeoonpbaaGreat
