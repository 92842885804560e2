/-
  Plain words and lemmas for the walks: how a slice reads in memory, what is kept when memory grows, small facts on lists. No condition.
-/
import Derived.Lib.Hide
import Derived.Test.YtcoiagfeoonpbaaGreatRows
import Derived.WalkKit
import Derived.WalkSpells
import Derived.WalkLawsBesides
import Derived.Lib.Strings
import Derived.Deep.Draws
set_option maxHeartbeats 20000000
set_option maxRecDepth 100000
namespace Go.Proofs.YtcoiagfeoonpbaaGreat
section
theorem zz {p:Prop} (h:p):Go.RowKit.Hid p:=Go.Lib.hid h
open Go.RowKit
theorem ret_int {k:IntKind} {a b:Int} (h:a=b):Ending.returned (.int k a)=.returned (.int k b):=by rw [h]
theorem ret_bool {a b:Bool} (h:a=b):Ending.returned (.bool a)=.returned (.bool b):=by rw [h]
theorem ret_str {a b:ByteArray} (h:a=b):Ending.returned (.string a)=.returned (.string b):=by rw [h]
def Rd (B:Nat) (w:World) (a:Option Addr) (n cap sz:Nat) (xs:List Value):Prop:=
  xs.length=n * sz∧n≤cap∧cap≤9223372036854775807∧(n=0∨∃ b o,a=some ⟨b,o,none⟩∧b<B∧∀ (j:Nat) (h:j<xs.length),w.cell? ⟨b,o+j,none⟩=some xs[j])
theorem Rd.mono {B:Nat} {w f:World} {a:Option Addr} {n cap sz:Nat} {xs:List Value} (h:Rd B w a n cap sz xs) (r:Below B w f):Rd B f a n cap sz xs:=by
  obtain ⟨g,i,m,d⟩:=h;refine ⟨g,i,m,?_⟩
  rcases d with d | ⟨b,o,q,e,s⟩
  · exact .inl d
  · exact .inr ⟨b,o,q,e,fun j t=>(r.cell (p:=⟨b,o+j,none⟩) e).trans (s j t)⟩
theorem Rd.le {B B':Nat} {w:World} {a:Option Addr} {n cap sz:Nat} {xs:List Value} (h:Rd B w a n cap sz xs) (j:B≤B'):Rd B' w a n cap sz xs:=by
  obtain ⟨e,f,g,d⟩:=h;refine ⟨e,f,g,?_⟩
  rcases d with d | ⟨b,o,i,m,p⟩
  · exact .inl d
  · exact .inr ⟨b,o,i,Nat.lt_of_lt_of_le m j,p⟩
theorem Below.to {w a b:World} (h:Below w.heap.size w a) (k:Below a.heap.size a b):Below w.heap.size w b:=h.trans (k.mono h.size)
theorem take_snoc (s:ByteArray) (k:Nat) (h:k<s.size):s.data.toList.take (k+1)=s.data.toList.take k++[s[k]]:=by
  rw [List.take_succ_eq_append_getElem (by simpa using h)];rfl
theorem take_all (s:ByteArray) (k:Nat) (h: ¬k<s.size):s.data.toList.take k=s.data.toList:=List.take_of_length_le (by simp;omega)
theorem mem_byte (s:ByteArray) (k:Nat) (h:k<s.size):s[k]∈s.data.toList:=Array.mem_toList_iff.2 (Array.getElem_mem (xs:=s.data) h)
theorem length_data (s:ByteArray):s.data.toList.length=s.size:=by rw [Array.length_toList];rfl
theorem str_eta (s:ByteArray):(⟨s.data.toList.toArray⟩:ByteArray)=s:=by simp
theorem bytes_beq (a b:ByteArray):(a==b)=(a.data==b.data):=by cases a;cases b;rfl
instance bytes_lawful:LawfulBEq ByteArray where
  eq_of_beq {a b} h:=by rw [bytes_beq,beq_iff_eq] at h;cases a;cases b;simp at h;rw [h]
  rfl {a} :=by rw [bytes_beq];exact beq_self_eq_true _
theorem toList_beq (a b:ByteArray):(a.toList==b.toList)=(a==b):=by
  rw [Bool.eq_iff_iff,beq_iff_eq,beq_iff_eq]
  constructor
  · intro h;rw [Lib.toList_data,Lib.toList_data] at h
    cases a;cases b;simp at h;rw [h]
  · intro h;rw [h]
theorem empty_beq (a:ByteArray):a.toList.isEmpty=(a==⟨#[]⟩):=by
  rw [←toList_beq,Bool.eq_iff_iff];simp
theorem beq_comm_bool (a b:ByteArray) (c:Bool) (h:(a==b)=c):(b==a)=c:=by rw [←h,Bool.eq_iff_iff,beq_iff_eq,beq_iff_eq];exact eq_comm
def idxI {α:Type} [BEq α] (l:List α) (s:α):Int:=if l.any (s== ·) then (l.findIdx (s== ·):Int) else -1
theorem idxI_at {α:Type} [BEq α] (l:List α) (s:α) (k:Nat) (b:k<l.length) (h:(s==l[k])=true) (e:∀ (j:Nat) (a:j<l.length),j<k→(s==l[j])=false):idxI l s=k:=by
  have d:l.any (s== ·)=true:=by rw [List.any_eq_true];exact ⟨_,List.getElem_mem b,h⟩
  rw [idxI,if_pos d];have :l.findIdx (s== ·)=k:=(List.findIdx_eq b).2 ⟨h,fun j a=>e j (by omega) a⟩;rw [this]
theorem idxI_no {α:Type} [BEq α] (l:List α) (s:α) (e:∀ (j:Nat) (a:j<l.length),(s==l[j])=false):idxI l s= -1:=by
  have d: ¬l.any (s== ·)=true:=by
    rw [List.any_eq_true];rintro ⟨x,f,b⟩;obtain ⟨j,a,rfl⟩:=List.getElem_of_mem f;rw [e j a] at b;cases b
  rw [idxI,if_neg d]
theorem idxI_ge {α:Type} [BEq α] (l:List α) (s:α):decide (0≤idxI l s)=l.any (s== ·):=by
  unfold idxI;split
  · rename_i h;rw [h];simp
  · rename_i h;simp only [Bool.not_eq_true] at h;rw [h];rfl
end
section
open Go.RowKit
theorem rd_new (w:World) (a:Array Value) (t:TypeId) (n sz:Nat) (h:a.size=n * sz) (e:n≤9223372036854775807):
    Rd (w.heap.size+1) (w.alloc (.cells a t)) (some ⟨w.heap.size,0,none⟩) n n sz a.toList:=by
  refine ⟨by simpa using h,Nat.le_refl _,e,.inr ⟨w.heap.size,0,rfl,Nat.lt_succ_self _,fun j d=>?_⟩⟩;have b:(w.alloc (.cells a t)).heap[w.heap.size]?=some (.cells a t):=(MapKept.heap_alloc w _).1;simp only [World.cell?,b]
  simp at d ⊢
theorem below_new (w:World) (o:Obj):Below w.heap.size w (w.alloc o):=(Below.refl _ w).alloc (Nat.le_refl _) o
theorem below_drewN {B:Nat} {a w:World} (h:Below B a w) (n:Nat):Below B a (w.drewN n):=⟨h.os,h.tape,h.output,h.size,h.block⟩
theorem Below.toA {w a b:World} {o:Obj} (h:Below w.heap.size w a) (k:Below (a.alloc o).heap.size (a.alloc o) b):Below w.heap.size w b:=Below.to (h.alloc h.size o) k
end
section
open Go.RowKit
theorem grownBy_refl (w:World) (r:Option Nat):w.grownBy w r:=⟨rfl,rfl,rfl,Nat.le_refl _,fun _ _ _=>rfl⟩
theorem grownBy_trans {w d e:World} {r:Option Nat} (h:w.grownBy d r) (k:d.grownBy e r):w.grownBy e r:=
  ⟨k.os.trans h.os,k.tape.trans h.tape,k.output.trans h.output,Nat.le_trans h.size k.size,fun i a b=>(k.block i (Nat.lt_of_lt_of_le a h.size) b).trans (h.block i a b)⟩
theorem grownBy_setCell (w:World) (g o:Nat) (v:Value):w.grownBy (w.setCell ⟨g,o,none⟩ v) (some g):=
  ⟨rfl,rfl,rfl,by simp [World.setCell],fun k _ a=>Below.heap_setCell w ⟨g,o,none⟩ v k (fun e=>a (by rw [e]))⟩
theorem grownBy_drew (w:World) (r:Option Nat):w.grownBy w.drew r:=⟨rfl,rfl,rfl,Nat.le_refl _,fun _ _ _=>rfl⟩
theorem cell_set_same (w:World) (g o:Nat) (v:Value) (h:(w.cell? ⟨g,o,none⟩).isSome=true):(w.setCell ⟨g,o,none⟩ v).cell? ⟨g,o,none⟩=some v:=World.cell?_setCell_same' w _ v h
theorem cell_set_other (w:World) (g o j:Nat) (v:Value) (h:j≠o):(w.setCell ⟨g,o,none⟩ v).cell? ⟨g,j,none⟩=w.cell? ⟨g,j,none⟩:=World.cell?_setCell_other w _ _ _ (fun e=>h (by injection e with _ h2;exact h2.symm))
def Dr (w w':World):Prop:=w'.heap=w.heap∧w'.os=w.os∧w'.tape=w.tape∧w'.output=w.output
theorem Dr.refl (w:World):Dr w w:=⟨rfl,rfl,rfl,rfl⟩
theorem Dr.below {w b:World} (h:Dr w b) {B:Nat} {a:World} (k:Below B a w):Below B a b:=
  ⟨h.2.1.trans k.os,h.2.2.1.trans k.tape,h.2.2.2.trans k.output,by rw [h.1];exact k.size,fun i d=>by rw [h.1];exact k.block i d⟩
theorem Dr.cell {w b:World} (h:Dr w b) (a:Addr):b.cell? a=w.cell? a:=by simp only [World.cell?,h.1]
theorem Dr.frozen {w b:World} (h:Dr w b) (a:Addr):b.frozen? a=w.frozen? a:=by simp only [World.frozen?,h.1]
end
section
open Go.RowKit
structure Far (S:Nat→Prop) (w w':World):Prop where
  os:w'.os=w.os
  tape:w'.tape=w.tape
  output:w'.output=w.output
  size:w.heap.size≤w'.heap.size
  block:∀ k,k<w.heap.size→ ¬S k→w'.heap[k]?=w.heap[k]?
theorem Far.refl (S:Nat→Prop) (w:World):Far S w w:=⟨rfl,rfl,rfl,Nat.le_refl _,fun _ _ _=>rfl⟩
theorem Far.trans {S:Nat→Prop} {a b c:World} (h:Far S a b) (k:Far S b c):Far S a c:=
  ⟨k.os.trans h.os,k.tape.trans h.tape,k.output.trans h.output,Nat.le_trans h.size k.size,fun i d e=>(k.block i (Nat.lt_of_lt_of_le d h.size) e).trans (h.block i d e)⟩
theorem Far.mono {S T:Nat→Prop} {w a:World} (h:Far S w a) (d:∀ k,S k→T k):Far T w a:=⟨h.os,h.tape,h.output,h.size,fun k f e=>h.block k f fun b=>e (d k b)⟩
theorem Far.of {S:Nat→Prop} {w a:World} (h:Below w.heap.size w a):Far S w a:=⟨h.os,h.tape,h.output,h.size,fun k b _=>h.block k b⟩
theorem Far.toB {B:Nat} {w a:World} (h:Far (fun k=>B≤k) w a) (b:B≤w.heap.size):Below B w a:=⟨h.os,h.tape,h.output,h.size,fun k d=>h.block k (by omega) (by omega)⟩
theorem Far.drewN {S:Nat→Prop} {a w:World} (h:Far S a w) (n:Nat):Far S a (w.drewN n):=⟨h.os,h.tape,h.output,h.size,h.block⟩
theorem Far.setCell {S:Nat→Prop} {a w:World} (h:Far S a w) {p:Addr} (f:S p.block) (u:Value):Far S a (w.setCell p u):=
  ⟨h.os,h.tape,h.output,by have :=h.size;simpa [World.setCell] using this,fun k d b=>(Below.heap_setCell w p u k (fun e=>b (e ▸ f))).trans (h.block k d b)⟩
theorem Dr.far {w b:World} (h:Dr w b) {S:Nat→Prop} {a:World} (k:Far S a w):Far S a b:=
  ⟨h.2.1.trans k.os,h.2.2.1.trans k.tape,h.2.2.2.trans k.output,by rw [h.1];exact k.size,fun i d e=>by rw [h.1];exact k.block i d e⟩
theorem Far.cell {S:Nat→Prop} {w a:World} (h:Far S w a) {b o:Nat} (d:b<w.heap.size) (e: ¬S b):a.cell? ⟨b,o,none⟩=w.cell? ⟨b,o,none⟩:=World.cell?_of_block (h.block b d e)
end
end Go.Proofs.YtcoiagfeoonpbaaGreat
