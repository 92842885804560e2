/-
  Stores of a whole block of eleven cells: the short words. Plain lemmas. No condition.
-/
import Derived.Test.YtcoiagfeoonpbaaGreatSm20
import Derived.Test.YtcoiagfeoonpbaaGreatSm19
set_option maxHeartbeats 20000000
set_option maxRecDepth 100000
namespace Go.Proofs.YtcoiagfeoonpbaaGreat
section
open Go.RowKit
set_option maxRecDepth 100000
section
variable {w w' a:World} {q g j B:Nat} {t:TypeId}
theorem Bo.set11 {a0 a1 a2 a3 a4 a5 a6 a7 a8 a9 a10:Value} {v0 v1 v2 v3 v4 v5 v6 v7 v8 v9 v10:Value} (h:Bo w q t #[a0,a1,a2,a3,a4,a5,a6,a7,a8,a9,a10]) (e:(((((((((((w.setCell ⟨q,0,none⟩ v0).setCell ⟨q,1,none⟩ v1).setCell ⟨q,2,none⟩ v2).setCell ⟨q,3,none⟩ v3).setCell ⟨q,4,none⟩ v4).setCell ⟨q,5,none⟩ v5).setCell ⟨q,6,none⟩ v6).setCell ⟨q,7,none⟩ v7).setCell ⟨q,8,none⟩ v8).setCell ⟨q,9,none⟩ v9).setCell ⟨q,10,none⟩ v10)=w'):Bo w' q t #[v0,v1,v2,v3,v4,v5,v6,v7,v8,v9,v10]:=by
  have h0:Bo (w.setCell ⟨q,0,none⟩ v0) q t #[v0,a1,a2,a3,a4,a5,a6,a7,a8,a9,a10]:=h.set 0 v0;have h1:Bo ((w.setCell ⟨q,0,none⟩ v0).setCell ⟨q,1,none⟩ v1) q t #[v0,v1,a2,a3,a4,a5,a6,a7,a8,a9,a10]:=h0.set 1 v1;have h2:Bo (((w.setCell ⟨q,0,none⟩ v0).setCell ⟨q,1,none⟩ v1).setCell ⟨q,2,none⟩ v2) q t #[v0,v1,v2,a3,a4,a5,a6,a7,a8,a9,a10]:=h1.set 2 v2;have h3:Bo ((((w.setCell ⟨q,0,none⟩ v0).setCell ⟨q,1,none⟩ v1).setCell ⟨q,2,none⟩ v2).setCell ⟨q,3,none⟩ v3) q t #[v0,v1,v2,v3,a4,a5,a6,a7,a8,a9,a10]:=h2.set 3 v3;have h4:Bo (((((w.setCell ⟨q,0,none⟩ v0).setCell ⟨q,1,none⟩ v1).setCell ⟨q,2,none⟩ v2).setCell ⟨q,3,none⟩ v3).setCell ⟨q,4,none⟩ v4) q t #[v0,v1,v2,v3,v4,a5,a6,a7,a8,a9,a10]:=h3.set 4 v4;have h5:Bo ((((((w.setCell ⟨q,0,none⟩ v0).setCell ⟨q,1,none⟩ v1).setCell ⟨q,2,none⟩ v2).setCell ⟨q,3,none⟩ v3).setCell ⟨q,4,none⟩ v4).setCell ⟨q,5,none⟩ v5) q t #[v0,v1,v2,v3,v4,v5,a6,a7,a8,a9,a10]:=h4.set 5 v5;have h6:Bo (((((((w.setCell ⟨q,0,none⟩ v0).setCell ⟨q,1,none⟩ v1).setCell ⟨q,2,none⟩ v2).setCell ⟨q,3,none⟩ v3).setCell ⟨q,4,none⟩ v4).setCell ⟨q,5,none⟩ v5).setCell ⟨q,6,none⟩ v6) q t #[v0,v1,v2,v3,v4,v5,v6,a7,a8,a9,a10]:=h5.set 6 v6;have h7:Bo ((((((((w.setCell ⟨q,0,none⟩ v0).setCell ⟨q,1,none⟩ v1).setCell ⟨q,2,none⟩ v2).setCell ⟨q,3,none⟩ v3).setCell ⟨q,4,none⟩ v4).setCell ⟨q,5,none⟩ v5).setCell ⟨q,6,none⟩ v6).setCell ⟨q,7,none⟩ v7) q t #[v0,v1,v2,v3,v4,v5,v6,v7,a8,a9,a10]:=h6.set 7 v7;have h8:Bo (((((((((w.setCell ⟨q,0,none⟩ v0).setCell ⟨q,1,none⟩ v1).setCell ⟨q,2,none⟩ v2).setCell ⟨q,3,none⟩ v3).setCell ⟨q,4,none⟩ v4).setCell ⟨q,5,none⟩ v5).setCell ⟨q,6,none⟩ v6).setCell ⟨q,7,none⟩ v7).setCell ⟨q,8,none⟩ v8) q t #[v0,v1,v2,v3,v4,v5,v6,v7,v8,a9,a10]:=h7.set 8 v8;have h9:Bo ((((((((((w.setCell ⟨q,0,none⟩ v0).setCell ⟨q,1,none⟩ v1).setCell ⟨q,2,none⟩ v2).setCell ⟨q,3,none⟩ v3).setCell ⟨q,4,none⟩ v4).setCell ⟨q,5,none⟩ v5).setCell ⟨q,6,none⟩ v6).setCell ⟨q,7,none⟩ v7).setCell ⟨q,8,none⟩ v8).setCell ⟨q,9,none⟩ v9) q t #[v0,v1,v2,v3,v4,v5,v6,v7,v8,v9,a10]:=h8.set 9 v9;have h10:Bo (((((((((((w.setCell ⟨q,0,none⟩ v0).setCell ⟨q,1,none⟩ v1).setCell ⟨q,2,none⟩ v2).setCell ⟨q,3,none⟩ v3).setCell ⟨q,4,none⟩ v4).setCell ⟨q,5,none⟩ v5).setCell ⟨q,6,none⟩ v6).setCell ⟨q,7,none⟩ v7).setCell ⟨q,8,none⟩ v8).setCell ⟨q,9,none⟩ v9).setCell ⟨q,10,none⟩ v10) q t #[v0,v1,v2,v3,v4,v5,v6,v7,v8,v9,v10]:=h9.set 10 v10;rw [←e];exact h10
theorem Bo.far11 {cs:Array Value} {v0 v1 v2 v3 v4 v5 v6 v7 v8 v9 v10:Value} (h:Bo w q t cs) (e:(((((((((((w.setCell ⟨g,0,none⟩ v0).setCell ⟨g,1,none⟩ v1).setCell ⟨g,2,none⟩ v2).setCell ⟨g,3,none⟩ v3).setCell ⟨g,4,none⟩ v4).setCell ⟨g,5,none⟩ v5).setCell ⟨g,6,none⟩ v6).setCell ⟨g,7,none⟩ v7).setCell ⟨g,8,none⟩ v8).setCell ⟨g,9,none⟩ v9).setCell ⟨g,10,none⟩ v10)=w') (hg:q≠g):Bo w' q t cs:=e ▸ (((((((((((h.far 0 v0 hg).far 1 v1 hg).far 2 v2 hg).far 3 v3 hg).far 4 v4 hg).far 5 v5 hg).far 6 v6 hg).far 7 v7 hg).far 8 v8 hg).far 9 v9 hg).far 10 v10 hg)
theorem FarB.setN11 {v0 v1 v2 v3 v4 v5 v6 v7 v8 v9 v10:Value} (h:FarB q B a w) (e:(((((((((((w.setCell ⟨g,0,none⟩ v0).setCell ⟨g,1,none⟩ v1).setCell ⟨g,2,none⟩ v2).setCell ⟨g,3,none⟩ v3).setCell ⟨g,4,none⟩ v4).setCell ⟨g,5,none⟩ v5).setCell ⟨g,6,none⟩ v6).setCell ⟨g,7,none⟩ v7).setCell ⟨g,8,none⟩ v8).setCell ⟨g,9,none⟩ v9).setCell ⟨g,10,none⟩ v10)=w') (hg:B≤g):FarB q B a w':=e ▸ (((((((((((h.setN hg 0 v0).setN hg 1 v1).setN hg 2 v2).setN hg 3 v3).setN hg 4 v4).setN hg 5 v5).setN hg 6 v6).setN hg 7 v7).setN hg 8 v8).setN hg 9 v9).setN hg 10 v10)
theorem sizeS11 {v0 v1 v2 v3 v4 v5 v6 v7 v8 v9 v10:Value} (e:(((((((((((w.setCell ⟨g,0,none⟩ v0).setCell ⟨g,1,none⟩ v1).setCell ⟨g,2,none⟩ v2).setCell ⟨g,3,none⟩ v3).setCell ⟨g,4,none⟩ v4).setCell ⟨g,5,none⟩ v5).setCell ⟨g,6,none⟩ v6).setCell ⟨g,7,none⟩ v7).setCell ⟨g,8,none⟩ v8).setCell ⟨g,9,none⟩ v9).setCell ⟨g,10,none⟩ v10)=w'):w'.heap.size=w.heap.size:=by rw [←e];simp only [World.setCell,Array.size_modify]
theorem bF11 {cs:Array Value} {v0 v1 v2 v3 v4 v5 v6 v7 v8 v9 v10:Value} (h:Hid (Bo w q t cs)) (e:(((((((((((w.setCell ⟨g,0,none⟩ v0).setCell ⟨g,1,none⟩ v1).setCell ⟨g,2,none⟩ v2).setCell ⟨g,3,none⟩ v3).setCell ⟨g,4,none⟩ v4).setCell ⟨g,5,none⟩ v5).setCell ⟨g,6,none⟩ v6).setCell ⟨g,7,none⟩ v7).setCell ⟨g,8,none⟩ v8).setCell ⟨g,9,none⟩ v9).setCell ⟨g,10,none⟩ v10)=w') (hg:q≠g:=by omega):Hid (Bo w' q t cs):=zz (h.out.far11 e hg)
theorem fN11 {v0 v1 v2 v3 v4 v5 v6 v7 v8 v9 v10:Value} (h:Hid (FarB q B a w)) (e:(((((((((((w.setCell ⟨g,0,none⟩ v0).setCell ⟨g,1,none⟩ v1).setCell ⟨g,2,none⟩ v2).setCell ⟨g,3,none⟩ v3).setCell ⟨g,4,none⟩ v4).setCell ⟨g,5,none⟩ v5).setCell ⟨g,6,none⟩ v6).setCell ⟨g,7,none⟩ v7).setCell ⟨g,8,none⟩ v8).setCell ⟨g,9,none⟩ v9).setCell ⟨g,10,none⟩ v10)=w') (hg:B≤g:=by omega):Hid (FarB q B a w'):=zz (h.out.setN11 e hg)
theorem bS11 {a0 a1 a2 a3 a4 a5 a6 a7 a8 a9 a10:Value} {v0 v1 v2 v3 v4 v5 v6 v7 v8 v9 v10:Value} (h:Hid (Bo w q t #[a0,a1,a2,a3,a4,a5,a6,a7,a8,a9,a10])) (e:(((((((((((w.setCell ⟨q,0,none⟩ v0).setCell ⟨q,1,none⟩ v1).setCell ⟨q,2,none⟩ v2).setCell ⟨q,3,none⟩ v3).setCell ⟨q,4,none⟩ v4).setCell ⟨q,5,none⟩ v5).setCell ⟨q,6,none⟩ v6).setCell ⟨q,7,none⟩ v7).setCell ⟨q,8,none⟩ v8).setCell ⟨q,9,none⟩ v9).setCell ⟨q,10,none⟩ v10)=w'):Hid (Bo w' q t #[v0,v1,v2,v3,v4,v5,v6,v7,v8,v9,v10]):=zz (h.out.set11 e)
end
section
variable {w w':World} {g:Nat} {A:Nat→Prop}
theorem rpO11 {ts:List Tk} {aL:Option Addr} {n cap q:Nat} {s:MS} {d:Int} {v0 v1 v2 v3 v4 v5 v6 v7 v8 v9 v10:Value} (h:Hid (RS ts aL n cap q s d w)) (e:(((((((((((w.setCell ⟨g,0,none⟩ v0).setCell ⟨g,1,none⟩ v1).setCell ⟨g,2,none⟩ v2).setCell ⟨g,3,none⟩ v3).setCell ⟨g,4,none⟩ v4).setCell ⟨g,5,none⟩ v5).setCell ⟨g,6,none⟩ v6).setCell ⟨g,7,none⟩ v7).setCell ⟨g,8,none⟩ v8).setCell ⟨g,9,none⟩ v9).setCell ⟨g,10,none⟩ v10)=w') (hg:q<g:=by omega):Hid (RS ts aL n cap q s d w'):=zz (e ▸ (((((((((((h.out.off hg 0 v0).off hg 1 v1).off hg 2 v2).off hg 3 v3).off hg 4 v4).off hg 5 v5).off hg 6 v6).off hg 7 v7).off hg 8 v8).off hg 9 v9).off hg 10 v10))
theorem yS11 {x:At} {y:Value} {v0 v1 v2 v3 v4 v5 v6 v7 v8 v9 v10:Value} (h:Hid (Mem (NwS A w.heap.size) w x y)) (e:(((((((((((w.setCell ⟨g,0,none⟩ v0).setCell ⟨g,1,none⟩ v1).setCell ⟨g,2,none⟩ v2).setCell ⟨g,3,none⟩ v3).setCell ⟨g,4,none⟩ v4).setCell ⟨g,5,none⟩ v5).setCell ⟨g,6,none⟩ v6).setCell ⟨g,7,none⟩ v7).setCell ⟨g,8,none⟩ v8).setCell ⟨g,9,none⟩ v9).setCell ⟨g,10,none⟩ v10)=w') (hg: ¬A g:=by first | (unfold Av;omega) | (unfold Bt;omega)):Hid (Mem (NwS A w'.heap.size) w' x y):=zz (e ▸ (memS_set (memS_set (memS_set (memS_set (memS_set (memS_set (memS_set (memS_set (memS_set (memS_set (memS_set h.out hg 0 v0) hg 1 v1) hg 2 v2) hg 3 v3) hg 4 v4) hg 5 v5) hg 6 v6) hg 7 v7) hg 8 v8) hg 9 v9) hg 10 v10))
end
end
section
open Go.RowKit
section
variable {P:Program} {w:World} {t e:TypeId} {z:Value} {sz bytes:Nat} {o:Oper} {act:Act} {K:Act→World→Prop} {Q:Exit→Act→World→Prop}
theorem wp_append_S (s x:Operand) {A:Nat→Prop} {base:Nat} (ho:o.op=.call { callee:=.builtin .append,args:=#[s,x],argTypes:=#[t,t] }) (ht:P.underlying t=some (.slice e)) (hinfo:(P.info? e).map (fun i=>(i.zero,i.size,i.bytes))=some (some z,sz,bytes)) (hz:z.cells.size=sz) (hsz:0<sz)
    {y:Value} {rs new:List (List At)} {a:Option Addr} {m c:Nat} (hs:act.eval s=y) (hx:act.eval x=.slice a m c) (h:OwnS A base e sz w y rs) (hnew:new≠[]) (hM:Mem (fun b=>NwS A w.heap.size b∧y.ownBlock≠some b) w (.s sz new) (.slice a m c)) (hby:(rs.length+new.length) * bytes≤140737488355328) (hbl:rs.length+new.length≤4611686018427387904) (hbase:base≤w.heap.size)
    (hK:∀ v' w',OwnS A base e sz w' v' (rs++new)→w.grownBy w' y.ownBlock→(v'.ownBlock=y.ownBlock∨∀ k,v'.ownBlock=some k→w.heap.size≤k)→K (act.put o.dst v') w'):Oper.wp P o act w K Q:=by
  obtain ⟨v',w',hr,h2,h3,h4⟩:=run_append_S o.type ht hinfo hz hsz h hnew hM hby hbl hbase;unfold Oper.wp execOp;simp only [ho,resolve,invoke,builtin,Sem.run_bind,Sem.run_pure,Result.andThen_ok,List.map_toArray,List.map_cons,List.map_nil,hs,hx,hr];exact hK _ _ h2 h3 h4
end
structure OwnX (x:Option Nat) (base:Nat) (e:TypeId) (sz:Nat) (w:World) (y:Value) (rs:List (List At)):Prop where
  ow:OwnS (fun b=>base≤b∧x≠some b) base e sz w y rs
  ne:∀ k,y.ownBlock=some k→x≠some k
section
variable {x:Option Nat} {base sz:Nat} {e t:TypeId} {w w' W:World} {y:Value} {rs:List (List At)}
theorem OwnX.nil (x:Option Nat) (base:Nat) (e:TypeId) (sz:Nat) (w:World):OwnX x base e sz w (.slice none 0 0) []:=⟨⟨[],World.ownsRow_nil w base e sz,.nil⟩,fun k h=>by cases h⟩
theorem OwnX.lt (h:OwnX x base e sz w y rs):∀ k,y.ownBlock=some k→base≤k∧k<w.heap.size:=h.ow.lt
theorem OwnX.far {Z:Nat→Prop} (h:OwnX x base e sz w y rs) (hf:Far Z w w') (hz:∀ b,base≤b→ ¬Z b):OwnX x base e sz w' y rs:=
  ⟨h.ow.farZ hf (fun b hb _=>hz b hb.1) fun b hb _=>hz b hb,h.ne⟩
theorem OwnX.alloc (h:OwnX x base e sz w y rs) (o:Obj):OwnX x base e sz (w.alloc o) y rs:=h.far (Z:=fun _=>False) (Far.of (below_new w o)) fun _ _ h=>h
theorem OwnX.drew (h:OwnX x base e sz w y rs):OwnX x base e sz w.drew y rs:=h.far (Z:=fun _=>False) (Far.of (below_drew w)) fun _ _ h=>h
theorem OwnX.farq {q:Nat} (h:OwnX x base e sz w y rs) (hf:FarQ q w w') (hq:q<base):OwnX x base e sz w' y rs:=h.far hf fun b hb e=>by have :b=q:=e;omega
theorem OwnX.set {g:Nat} (h:OwnX x base e sz w y rs) (hg:g<base) (j:Nat) (v:Value):OwnX x base e sz (w.setCell ⟨g,j,none⟩ v) y rs:=
  h.far ((Far.refl (fun b=>b=g) w).setCell (p:=⟨g,j,none⟩) rfl v) fun b h1 e=>by have :b=g:=e;omega
theorem OwnX.conv {x':Option Nat} (h:OwnX x base e sz w y rs) (hx:x'=x∨∀ k,x'=some k→w.heap.size≤k):OwnX x' base e sz w y rs:=by
  rcases hx with rfl | hx
  · exact h
  · obtain ⟨css,h1,h2⟩:=h.ow
    refine ⟨⟨css,h1,h2.imp fun r cs ⟨hc,hm⟩=>⟨hc,hm.imp fun x y' hx'=>hx'.mono (fun b hb=>⟨⟨⟨hb.1.1.1,fun e=>by have :=hx b e;have :=hb.1.2;omega⟩,hb.1.2⟩,hb.2⟩) fun _ _=>rfl⟩⟩,fun k hk e=>?_⟩
    have :=hx k e;have :=(h.lt k hk).2
    omega
theorem OwnX.other (h:OwnX x base e sz w y rs) (hg:w.grownBy w' x):OwnX x base e sz w' y rs:=by
  refine ⟨?_,h.ne⟩;obtain ⟨css,h1,h2⟩:=h.ow;refine ⟨css,⟨h1.1,?_⟩,h2.imp fun r cs ⟨hc,hm⟩=>⟨hc,hm.imp fun x y' hx=>hx.mono (fun b hb=>⟨⟨hb.1.1,Nat.lt_of_lt_of_le hb.1.2 hg.size⟩,hb.2⟩) fun b hb=>hg.block b hb.1.2 fun e=>hb.1.1.2 e.symm⟩⟩
  rcases h1.2 with hn | ⟨g,cap,cur,rfl,hb,hgg,rest⟩
  · exact .inl hn
  · have hg0:=(Array.getElem?_eq_some_iff.1 hgg).1
    exact .inr ⟨g,cap,cur,rfl,hb,(hg.block g hg0 (fun e=>h.ne g rfl e.symm)).trans hgg,rest⟩
theorem OwnX.mem (h:OwnX x base e sz w y rs):Mem (Nw 0 base w.heap.size) w (.s sz rs) y:=memS_nw h.ow.mem fun _ hb=>hb.elim (fun h=>h.1) id
theorem OwnX.other2 {x':Option Nat} (h:OwnX x base e sz w y rs) (hg:w.grownBy w' x) (hx:x'=x∨∀ k,x'=some k→w.heap.size≤k):OwnX x' base e sz w' y rs:=by
  rcases hx with rfl | hx
  · exact h.other hg
  · obtain ⟨css,h1,h2⟩:=h.ow
    refine ⟨⟨css,⟨h1.1,?_⟩,h2.imp fun r cs ⟨hc,hm⟩=>⟨hc,hm.imp fun x y' hx'=>hx'.mono (fun b hb=>⟨⟨⟨hb.1.1.1,fun e=>by have :=hx b e;have :=hb.1.2;omega⟩,Nat.lt_of_lt_of_le hb.1.2 hg.size⟩,hb.2⟩) fun b hb=>hg.block b hb.1.2 fun e=>hb.1.1.2 e.symm⟩⟩,fun k hk e=>?_⟩
    · rcases h1.2 with hn | ⟨g,cap,cur,rfl,hb,hgg,rest⟩
      · exact .inl hn
      · have hg0:=(Array.getElem?_eq_some_iff.1 hgg).1
        exact .inr ⟨g,cap,cur,rfl,hb,(hg.block g hg0 (fun e=>h.ne g rfl e.symm)).trans hgg,rest⟩
    · have :=hx k e
      have :=(h.lt k hk).2
      omega
theorem OwnX.app {v:Value} {rs':List (List At)} (h:OwnX x base e sz w y rs) (ho:OwnS (fun b=>base≤b∧x≠some b) base e sz w' v rs') (hx:∀ k,x=some k→k<w.heap.size) (hv:v.ownBlock=y.ownBlock∨∀ k,v.ownBlock=some k→w.heap.size≤k):OwnX x base e sz w' v rs':=
  ⟨ho,fun k hk e=>by
    rcases hv with hv | hv
    · exact h.ne k (hv ▸ hk) e
    · have :=hv k hk
      have :=hx k e
      omega⟩
theorem row_appX {r:List At} {cs:Array Value} (h:OwnX x base t sz W y rs) (hx:∀ k,x=some k→k<W.heap.size) (hb:base≤W.heap.size) (hs:W.heap.size≤w.heap.size) (hr:All2 (Mem (Nw 0 W.heap.size w.heap.size) w) r cs.toList) (hsz:cs.toList.length=sz):
    Mem (fun b=>NwS (fun b=>base≤b∧x≠some b) (w.alloc (.cells cs t)).heap.size b∧y.ownBlock≠some b) (w.alloc (.cells cs t)) (.s sz [r]) (.slice (some ⟨w.heap.size,0,none⟩) 1 1):=
  (row_new hr hsz hs).mem.mono (fun b hb'=>by
    have h1:W.heap.size≤b:=by rcases hb'.1 with h | h <;> omega
    refine ⟨⟨⟨by omega,fun e=>?_⟩,hb'.2⟩,fun e=>?_⟩
    · have :=hx b e;omega
    · have :=(h.lt b e).2;omega) fun _ _=>rfl
end
section
variable {x:Option Nat} {base sz:Nat} {e:TypeId} {w w':World} {y:Value} {rs:List (List At)}
theorem qxO {q:Nat} (h:Hid (OwnX x base e sz w y rs)) (hf:FarQ q w w') (hq:q<base:=by omega):Hid (OwnX x base e sz w' y rs):=zz (h.out.farq hf hq)
theorem oxS1 {g j:Nat} {v0:Value} (h:Hid (OwnX x base e sz w y rs)) (ee:(w.setCell ⟨g,j,none⟩ v0)=w') (hg:g<base:=by omega):Hid (OwnX x base e sz w' y rs):=zz (ee ▸ (h.out.set hg j v0))
end
end
end Go.Proofs.YtcoiagfeoonpbaaGreat
