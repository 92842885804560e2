/-
  The document's Binds and Starts. No condition.
-/
import Derived.Test.YtcoiagfeoonpbaaGreatSm17
import Derived.Test.YtcoiagfeoonpbaaGreatSm15
set_option maxHeartbeats 20000000
set_option maxRecDepth 100000
namespace Go.Proofs.YtcoiagfeoonpbaaGreat
section
open Go.RowKit
theorem rbinds_any (s:ByteArray) (w:World):
    Calls Tryz.prog 118 #[.string s] w fun e w'=>e=.returned (.int .i64 (bindsE s:Nat))∧w=w':=by
  go_enter Tryz.func118,Tryz.ntmps118
  by_cases h0:s=⟨#[63]⟩
  · subst h0
    go_wp2
    refine bodyPost_ret (results_tmp rfl _ _ _) rfl ?_;exact ⟨rfl,rfl⟩
  have e0:(s.toList==[63])=false:=by have h:=str_ne h0;simpa using h
  by_cases h1:s=⟨#[61,61]⟩
  · subst h1
    go_wp2
    refine bodyPost_ret (results_tmp rfl _ _ _) rfl ?_;exact ⟨rfl,rfl⟩
  have e1:(s.toList==[61,61])=false:=by have h:=str_ne h1;simpa using h
  by_cases h2:s=⟨#[60]⟩
  · subst h2
    go_wp2
    refine bodyPost_ret (results_tmp rfl _ _ _) rfl ?_;exact ⟨rfl,rfl⟩
  have e2:(s.toList==[60])=false:=by have h:=str_ne h2;simpa using h
  by_cases h3:s=⟨#[43]⟩
  · subst h3
    go_wp2
    refine bodyPost_ret (results_tmp rfl _ _ _) rfl ?_;exact ⟨rfl,rfl⟩
  have e3:(s.toList==[43])=false:=by have h:=str_ne h3;simpa using h
  by_cases h4:s=⟨#[45]⟩
  · subst h4
    go_wp2
    refine bodyPost_ret (results_tmp rfl _ _ _) rfl ?_;exact ⟨rfl,rfl⟩
  have e4:(s.toList==[45])=false:=by have h:=str_ne h4;simpa using h
  by_cases h5:s=⟨#[42]⟩
  · subst h5
    go_wp2
    refine bodyPost_ret (results_tmp rfl _ _ _) rfl ?_;exact ⟨rfl,rfl⟩
  have e5:(s.toList==[42])=false:=by have h:=str_ne h5;simpa using h
  have hb:bindsE s=0:=by
    unfold bindsE wOr;rw [if_neg h0,if_neg (fun h=>h.elim h1 h2),if_neg (fun h=>h.elim h3 h4),if_neg h5]
  rw [hb]
  go_wp2
  refine bodyPost_ret (results_tmp rfl _ _ _) rfl ?_;exact ⟨rfl,rfl⟩
end
section
open Go.RowKit
def NwS (A:Nat→Prop) (top b:Nat):Prop:=A b∧b<top
def Av (base g h:Nat) (b:Nat):Prop:=base≤b∧b≠g∧b≠h
def Bt (base top b:Nat):Prop:=base≤b∧b<top
section
variable {w w':World} {A:Nat→Prop} {x:At} {y:Value}
theorem memS_far {Z:Nat→Prop} (h:Mem (NwS A w.heap.size) w x y) (hf:Far Z w w') (hz:∀ b,A b→ ¬Z b):Mem (NwS A w'.heap.size) w' x y:=
  h.mono (fun _ hb=>⟨hb.1,Nat.lt_of_lt_of_le hb.2 hf.size⟩) fun b hb=>hf.block b hb.2 (hz b hb.1)
theorem memS_keep (h:Mem (NwS A w.heap.size) w x y) (hb:Below w.heap.size w w'):Mem (NwS A w'.heap.size) w' x y:=
  memS_far (Z:=fun _=>False) h (Far.of hb) fun _ _ h=>h
theorem memS_alloc (h:Mem (NwS A w.heap.size) w x y) (o:Obj):Mem (NwS A (w.alloc o).heap.size) (w.alloc o) x y:=memS_keep h (below_new w o)
theorem memS_set {g:Nat} (h:Mem (NwS A w.heap.size) w x y) (hg: ¬A g) (j:Nat) (v:Value):Mem (NwS A (w.setCell ⟨g,j,none⟩ v).heap.size) (w.setCell ⟨g,j,none⟩ v) x y:=
  memS_far (Z:=fun b=>b=g) h ((Far.refl (fun b=>b=g) w).setCell (p:=⟨g,j,none⟩) rfl v) fun b hb e=>hg (by have e:b=g:=e;rw [←e];exact hb)
theorem memS_grown {r:Option Nat} (h:Mem (NwS A w.heap.size) w x y) (hg:w.grownBy w' r) (hr:∀ k,r=some k→ ¬A k):Mem (NwS A w'.heap.size) w' x y:=
  h.mono (fun _ hb=>⟨hb.1,Nat.lt_of_lt_of_le hb.2 hg.size⟩) fun b hb=>hg.block b hb.2 fun e=>hr b e.symm hb.1
theorem memS_nw {base:Nat} (h:Mem (NwS A w.heap.size) w x y) (hA:∀ b,A b→base≤b):Mem (Nw 0 base w.heap.size) w x y:=
  h.mono (fun b hb=>by have :=hA b hb.1;have :=hb.2;unfold Nw;omega) fun _ _=>rfl
theorem memS_bt {base base':Nat} (h:Mem (Nw 0 base' w.heap.size) w x y) (h1:base≤base'):Mem (NwS (Bt base w.heap.size) w.heap.size) w x y:=
  h.mono (fun b hb=>by unfold Nw at hb;unfold NwS Bt;omega) fun _ _=>rfl
end
def OwnS (A:Nat→Prop) (base:Nat) (e:TypeId) (sz:Nat) (w:World) (y:Value) (rs:List (List At)):Prop:=
  ∃ css:List (List Value),w.ownsRow base e sz y rs.length css.flatten∧All2 (fun r cs=>cs.length=sz∧All2 (Mem (fun b=>NwS A w.heap.size b∧y.ownBlock≠some b) w) r cs) rs css
section
variable {A:Nat→Prop} {base sz:Nat} {e:TypeId} {w w':World} {y:Value} {rs:List (List At)}
theorem OwnS.farZ {Z:Nat→Prop} (h:OwnS A base e sz w y rs) (hf:Far Z w w') (hz:∀ b,A b→b<w.heap.size→ ¬Z b) (hz2:∀ b,base≤b→b<w.heap.size→ ¬Z b):OwnS A base e sz w' y rs:=by
  obtain ⟨css,h1,h2⟩:=h;refine ⟨css,⟨h1.1,?_⟩,h2.imp fun r cs ⟨hc,hm⟩=>⟨hc,hm.imp fun x y' hx=>hx.mono (fun b ⟨hb,h2⟩=>⟨⟨hb.1,Nat.lt_of_lt_of_le hb.2 hf.size⟩,h2⟩) fun b ⟨hb,_⟩=>hf.block b hb.2 (hz b hb.1 hb.2)⟩⟩
  rcases h1.2 with hn | ⟨g,cap,cur,rfl,hb,hgg,rest⟩
  · exact .inl hn
  · have hg:=(Array.getElem?_eq_some_iff.1 hgg).1
    exact .inr ⟨g,cap,cur,rfl,hb,(hf.block g hg (hz2 g hb hg)).trans hgg,rest⟩
theorem OwnS.keep (h:OwnS A base e sz w y rs) (hb:Below w.heap.size w w'):OwnS A base e sz w' y rs:=h.farZ (Z:=fun _=>False) (Far.of hb) (fun _ _ _ h=>h) fun _ _ _ h=>h
theorem OwnS.alloc (h:OwnS A base e sz w y rs) (o:Obj):OwnS A base e sz (w.alloc o) y rs:=h.keep (below_new w o)
theorem OwnS.set {g:Nat} (h:OwnS A base e sz w y rs) (hg: ¬A g) (hb:g<base) (j:Nat) (v:Value):OwnS A base e sz (w.setCell ⟨g,j,none⟩ v) y rs:=
  h.farZ ((Far.refl (fun b=>b=g) w).setCell (p:=⟨g,j,none⟩) rfl v) (fun b hA _ e=>hg (by have e:b=g:=e;rw [←e];exact hA)) fun b h1 _ e=>by have :b=g:=e;omega
theorem OwnS.lt (h:OwnS A base e sz w y rs):∀ k,y.ownBlock=some k→base≤k∧k<w.heap.size:=by
  obtain ⟨css,h1,_⟩:=h;exact h1.lt
theorem OwnS.form (h:OwnS A base e sz w y rs):∃ a m cap,y=.slice a m cap∧m=rs.length∧m≤cap∧cap≤9223372036854775807:=by
  obtain ⟨css,h1,_⟩:=h
  rcases h1.2 with ⟨rfl,hn⟩ | ⟨g,cap,cur,rfl,hb,hgg,hncap,hcap,hsz,htake⟩
  · exact ⟨none,_,0,rfl,hn.symm,by omega,by omega⟩
  · exact ⟨_,_,cap,rfl,rfl,hncap,by simpa [maxLen] using hcap⟩
theorem OwnS.mem (h:OwnS A base e sz w y rs):Mem (NwS (fun b=>A b∨base≤b) w.heap.size) w (.s sz rs) y:=by
  obtain ⟨css,h1,h2⟩:=h;have hlen:=h2.len
  have hcs:∀ cs∈css,cs.length=sz:=fun cs hcs=>by
    obtain ⟨i,hi,rfl⟩:=List.getElem_of_mem hcs;exact (h2.at i (by omega) hi).1
  rcases h1.2 with ⟨rfl,hn⟩ | ⟨g,cap,cur,rfl,hb,hgg,hncap,hcap,hsz,htake⟩
  · have :rs=[]:=List.eq_nil_of_length_eq_zero hn
    subst this;exact .e none 0 sz (by decide)
  · refine .s g 0 rs.length cap sz rs (fun i j=>css.flatten.getD (i * sz+j) undef) rfl hncap (by simpa [maxLen] using hcap) ⟨.inr hb,(Array.getElem?_eq_some_iff.1 hgg).1⟩ (fun i hi=>?_) (fun i j hi hj=>?_) (fun i j hi hj=>?_)
    · have hi':i<css.length:=by omega
      obtain ⟨e1,e2⟩:=h2.at i hi hi';rw [e2.len,e1]
    · have hi':i<css.length:=by omega
      obtain ⟨e1,e2⟩:=h2.at i hi hi';have hf:=flat_at sz css hcs i j hi' (by omega);have :=h1.cells (g:=g) rfl (i * sz+j) _ hf
      have hadd:(⟨g,0,none⟩:Addr).add (i * sz+j)=⟨g,i * sz+j,none⟩:=by unfold Addr.add;split <;> simp_all
      rw [hadd] at this
      rw [Nat.zero_add,this,List.getD_eq_getElem?_getD,hf];rfl
    · have hi':i<css.length:=by omega
      obtain ⟨e1,e2⟩:=h2.at i hi hi'
      have hf:=flat_at sz css hcs i j hi' (by have :=e2.len;omega)
      rw [List.getD_eq_getElem?_getD,hf]
      exact (e2.at j hj (by have :=e2.len;omega)).mono (fun b hb=>⟨.inl hb.1.1,hb.1.2⟩) fun _ _=>rfl
theorem OwnS.nw {base0:Nat} (h:OwnS A base e sz w y rs) (hA:∀ b,A b→base0≤b) (hb:base0≤base):Mem (Nw 0 base0 w.heap.size) w (.s sz rs) y:=
  memS_nw h.mem fun b hb'=>hb'.elim (hA b) fun h2=>Nat.le_trans hb h2
theorem OwnS.apart {v:Value} {x:At} (h:OwnS A base e sz w y rs) (hA:∀ b,w.heap.size≤b→b<w'.heap.size→A b) (hm:Mem (Nw 0 w.heap.size w'.heap.size) w' x v):Mem (fun b=>NwS A w'.heap.size b∧y.ownBlock≠some b) w' x v:=
  hm.mono (fun b hb=>by
    unfold Nw at hb;refine ⟨⟨hA b (by omega) hb.2,hb.2⟩,fun e=>?_⟩;have :=h.lt b e
    omega) fun _ _=>rfl
theorem OwnS.built {css:List (List Value)} (h:All2 (fun r cs=>cs.length=sz∧All2 (Mem (NwS A w.heap.size) w) r cs) rs css) (hbase:base≤w.heap.size) (n:Nat) (hn:rs.length=n) (hm:n≤maxLen) (cs:Array Value) (hcs:cs.toList=css.flatten):
    OwnS A base e sz (w.alloc (.cells cs e)) (.slice (some ⟨w.heap.size,0,none⟩) n n) rs:=by
  subst hn
  have hl:∀ cs∈css,cs.length=sz:=fun cs hcs=>by
    obtain ⟨i,hi,rfl⟩:=List.getElem_of_mem hcs
    exact (h.at i (by have :=h.len;omega) hi).1
  have hfl:=flat_len sz css hl;refine ⟨css,⟨by rw [hfl,h.len],.inr ⟨w.heap.size,rs.length,cs,rfl,hbase,(MapKept.heap_alloc w _).1,Nat.le_refl _,hm,?_,?_⟩⟩,h.imp fun r cs ⟨hc,hm⟩=>⟨hc,hm.imp fun x y' hx=>hx.mono (fun b ⟨h1,h3⟩=>⟨⟨h1,by rw [World.size_alloc];omega⟩,fun e=>by injection e with e;subst e;simp at h3⟩) fun b ⟨_,h1⟩=>(below_new w _).block b h1⟩⟩
  · rw [←Array.length_toList,hcs,hfl,h.len]
  · rw [hcs,List.take_of_length_le (by rw [hfl,h.len];exact Nat.le_refl _)]
end
section
variable {P:Program} {w:World} {t e:TypeId} {z:Value} {sz bytes:Nat}
theorem run_append_S (ty:TypeId) {A:Nat→Prop} {base:Nat} (ht:P.underlying t=some (.slice e)) (hinfo:(P.info? e).map (fun i=>(i.zero,i.size,i.bytes))=some (some z,sz,bytes)) (hz:z.cells.size=sz) (hsz:0<sz)
    {y:Value} {rs new:List (List At)} {a:Option Addr} {m c:Nat} (h:OwnS A base e sz w y rs) (hnew:new≠[]) (hM:Mem (fun b=>NwS A w.heap.size b∧y.ownBlock≠some b) w (.s sz new) (.slice a m c)) (hby:(rs.length+new.length) * bytes≤140737488355328) (hbl:rs.length+new.length≤4611686018427387904) (hbase:base≤w.heap.size):
    ∃ v' w',(Builtin.append_ #[t,t] ty #[y,.slice a m c]).run P w=.ok v' w'∧OwnS A base e sz w' v' (rs++new)∧w.grownBy w' y.ownBlock∧(v'.ownBlock=y.ownBlock∨∀ k,v'.ownBlock=some k→w.heap.size≤k):=by
  obtain ⟨i,hi,hz0,hz1,hz2⟩:=info_parts hinfo;have hlen:=hM.len;obtain ⟨ncs,hn2,hcell⟩:=hM.flat
  have hncs:∀ cs∈ncs,cs.length=sz:=fun cs hcs=>by
    obtain ⟨i,hi,rfl⟩:=List.getElem_of_mem hcs
    exact (hn2.at i (by have :=hn2.len;omega) hi).1
  have hfl:=flat_len sz ncs hncs
  have hone:∀ u∈ncs.flatten,u.oneCell'=true:=fun u hu=>by
    obtain ⟨cs,hcs,hu⟩:=List.mem_flatten.1 hu;obtain ⟨k,hk,rfl⟩:=List.getElem_of_mem hcs;obtain ⟨j,hj,rfl⟩:=List.getElem_of_mem hu
    have h3:=(hn2.at k (by have :=hn2.len;omega) hk).2
    exact (h3.at j (by have :=h3.len;omega) hj).one
  have hmpos:0<m:=by
    rw [←hlen.1];exact List.length_pos_iff.2 hnew
  obtain ⟨ad,rfl⟩:∃ ad,a=some ad:=by
    cases hM with
    | e=>exact absurd rfl hnew
    | s b o n cap _ _ C hn hcap hc hS hsz hcell hm=>exact ⟨_,rfl⟩
  have hl:ncs.flatten.length=m * sz:=by rw [hfl, ←hn2.len,hlen.1]
  obtain ⟨css,h1,h2⟩:=h
  have hml:rs.length+m≤maxLen:=by rw [←hlen.1];unfold maxLen;omega
  have hby':(rs.length+m) * bytes≤140737488355328:=by rw [←hlen.1];exact hby
  obtain ⟨v',w',hr,ho,hg,_⟩:=run_append_own (P:=P) w base t ty e i z sz bytes ht hi hz0 hz1 hz2 hz hsz y rs.length css.flatten h1 ad m c ncs.flatten hl (fun j u hu=>hcell ad rfl j u hu) hone hml hby' hbase
  have hy:v'.ownBlock=y.ownBlock∨∀ k,v'.ownBlock=some k→w.heap.size≤k:=by
    rcases h1.2 with ⟨rfl,hn⟩ | ⟨g,cap,cur,rfl,hb,hgg,hncap,hcap,hsz,htake⟩
    · have h1':w.ownsRow w.heap.size e sz (.slice none 0 0) rs.length css.flatten:=⟨h1.1,.inl ⟨rfl,hn⟩⟩
      obtain ⟨v2,w2,hr2,ho2,_,_⟩:=run_append_own (P:=P) w w.heap.size t ty e i z sz bytes ht hi hz0 hz1 hz2 hz ‹0<sz› _ rs.length css.flatten h1' ad m c ncs.flatten hl (fun j u hu=>hcell ad rfl j u hu) hone hml hby' (Nat.le_refl _);have :=hr.symm.trans hr2
      injection this with e1 e2
      subst e1
      exact .inr fun k hk=>(ho2.lt k hk).1
    · by_cases hroom:rs.length+m≤cap
      · obtain ⟨w2,hr2,_⟩:=run_append_fits (P:=P) w base t ty e i sz ht hi hz1 g rs.length cap css.flatten h1 ad m c ncs.flatten hl (fun j u hu=>hcell ad rfl j u hu) hone hroom
        have :=hr.symm.trans hr2
        injection this with e1 e2
        subst e1;exact .inl rfl
      · have hr2:=run_append_grow (P:=P) w t ty e i z ht hi hz0 ⟨g,0,none⟩ rs.length cap css.flatten (by rw [hz1];exact h1.1) (h1.cells (g:=g) rfl) ad m c ncs.flatten (by rw [hz1];exact hl) (fun j u hu=>hcell ad rfl j u hu) (by omega) (by unfold maxLen at hml;omega) (growslice_fits (by omega) (by rw [hz2];exact hby'))
        have :=hr.symm.trans hr2
        injection this with e1 e2
        subst e1;refine .inr fun k hk=>?_;simp only [Value.ownBlock,Option.some.injEq] at hk
        omega
  refine ⟨v',w',hr,⟨css++ncs,?_,(h2.app hn2).imp fun r cs ⟨hc,hm⟩=>⟨hc,hm.imp fun x zz hx=>hx.mono (fun b ⟨⟨hb0,hb1⟩,hb2⟩=>⟨⟨hb0,Nat.lt_of_lt_of_le hb1 hg.size⟩,fun hk=>?_⟩) fun b ⟨⟨_,hb1⟩,hb2⟩=>hg.block b hb1 fun e=>hb2 e.symm⟩⟩,hg,hy⟩
  · rw [List.length_append,List.flatten_append,hlen.1];exact ho
  · rcases hy with hy | hy
    · rw [hy] at hk;exact hb2 hk
    · have :=hy b hk;omega
end
section
variable {w W:World} {A:Nat→Prop} {base:Nat}
end
section
variable {w w':World} {g j:Nat} {A:Nat→Prop}
theorem memS_set1 {x:At} {y:Value} {v0:Value} (h:Mem (NwS A w.heap.size) w x y) (e:(w.setCell ⟨g,j,none⟩ v0)=w') (hg: ¬A g):Mem (NwS A w'.heap.size) w' x y:=e ▸ (memS_set h hg j v0)
theorem memS_set2 {x:At} {y:Value} {v0 v1:Value} (h:Mem (NwS A w.heap.size) w x y) (e:((w.setCell ⟨g,0,none⟩ v0).setCell ⟨g,1,none⟩ v1)=w') (hg: ¬A g):Mem (NwS A w'.heap.size) w' x y:=e ▸ (memS_set (memS_set h hg 0 v0) hg 1 v1)
theorem OwnS.set2 {base sz:Nat} {et:TypeId} {y:Value} {rs:List (List At)} {v0 v1:Value} (h:OwnS A base et sz w y rs) (e:((w.setCell ⟨g,0,none⟩ v0).setCell ⟨g,1,none⟩ v1)=w') (hg: ¬A g) (hb:g<base):OwnS A base et sz w' y rs:=e ▸ ((h.set hg hb 0 v0).set hg hb 1 v1)
theorem memS_set3 {x:At} {y:Value} {v0 v1 v2:Value} (h:Mem (NwS A w.heap.size) w x y) (e:(((w.setCell ⟨g,0,none⟩ v0).setCell ⟨g,1,none⟩ v1).setCell ⟨g,2,none⟩ v2)=w') (hg: ¬A g):Mem (NwS A w'.heap.size) w' x y:=e ▸ (memS_set (memS_set (memS_set h hg 0 v0) hg 1 v1) hg 2 v2)
theorem OwnS.set3 {base sz:Nat} {et:TypeId} {y:Value} {rs:List (List At)} {v0 v1 v2:Value} (h:OwnS A base et sz w y rs) (e:(((w.setCell ⟨g,0,none⟩ v0).setCell ⟨g,1,none⟩ v1).setCell ⟨g,2,none⟩ v2)=w') (hg: ¬A g) (hb:g<base):OwnS A base et sz w' y rs:=e ▸ (((h.set hg hb 0 v0).set hg hb 1 v1).set hg hb 2 v2)
theorem memS_set5 {x:At} {y:Value} {v0 v1 v2 v3 v4:Value} (h:Mem (NwS A w.heap.size) w x y) (e:(((((w.setCell ⟨g,0,none⟩ v0).setCell ⟨g,1,none⟩ v1).setCell ⟨g,2,none⟩ v2).setCell ⟨g,3,none⟩ v3).setCell ⟨g,4,none⟩ v4)=w') (hg: ¬A g):Mem (NwS A w'.heap.size) w' x y:=e ▸ (memS_set (memS_set (memS_set (memS_set (memS_set h hg 0 v0) hg 1 v1) hg 2 v2) hg 3 v3) hg 4 v4)
theorem OwnS.set5 {base sz:Nat} {et:TypeId} {y:Value} {rs:List (List At)} {v0 v1 v2 v3 v4:Value} (h:OwnS A base et sz w y rs) (e:(((((w.setCell ⟨g,0,none⟩ v0).setCell ⟨g,1,none⟩ v1).setCell ⟨g,2,none⟩ v2).setCell ⟨g,3,none⟩ v3).setCell ⟨g,4,none⟩ v4)=w') (hg: ¬A g) (hb:g<base):OwnS A base et sz w' y rs:=e ▸ (((((h.set hg hb 0 v0).set hg hb 1 v1).set hg hb 2 v2).set hg hb 3 v3).set hg hb 4 v4)
theorem memS_set6 {x:At} {y:Value} {v0 v1 v2 v3 v4 v5:Value} (h:Mem (NwS A w.heap.size) w x y) (e:((((((w.setCell ⟨g,0,none⟩ v0).setCell ⟨g,1,none⟩ v1).setCell ⟨g,2,none⟩ v2).setCell ⟨g,3,none⟩ v3).setCell ⟨g,4,none⟩ v4).setCell ⟨g,5,none⟩ v5)=w') (hg: ¬A g):Mem (NwS A w'.heap.size) w' x y:=e ▸ (memS_set (memS_set (memS_set (memS_set (memS_set (memS_set h hg 0 v0) hg 1 v1) hg 2 v2) hg 3 v3) hg 4 v4) hg 5 v5)
theorem OwnS.set6 {base sz:Nat} {et:TypeId} {y:Value} {rs:List (List At)} {v0 v1 v2 v3 v4 v5:Value} (h:OwnS A base et sz w y rs) (e:((((((w.setCell ⟨g,0,none⟩ v0).setCell ⟨g,1,none⟩ v1).setCell ⟨g,2,none⟩ v2).setCell ⟨g,3,none⟩ v3).setCell ⟨g,4,none⟩ v4).setCell ⟨g,5,none⟩ v5)=w') (hg: ¬A g) (hb:g<base):OwnS A base et sz w' y rs:=e ▸ ((((((h.set hg hb 0 v0).set hg hb 1 v1).set hg hb 2 v2).set hg hb 3 v3).set hg hb 4 v4).set hg hb 5 v5)
theorem memS_allocE {x:At} {y:Value} {o:Obj} (h:Mem (NwS A w.heap.size) w x y) (e:w.alloc o=w'):Mem (NwS A w'.heap.size) w' x y:=e ▸ memS_alloc h o
theorem OwnS.allocE {base sz:Nat} {et:TypeId} {y:Value} {rs:List (List At)} {o:Obj} (h:OwnS A base et sz w y rs) (e:w.alloc o=w'):OwnS A base et sz w' y rs:=e ▸ h.alloc o
theorem memS_drewE {x:At} {y:Value} (h:Mem (NwS A w.heap.size) w x y) (e:w.drew=w'):Mem (NwS A w'.heap.size) w' x y:=e ▸ memS_keep h (below_drew _)
theorem OwnS.drewE {base sz:Nat} {et:TypeId} {y:Value} {rs:List (List At)} (h:OwnS A base et sz w y rs) (e:w.drew=w'):OwnS A base et sz w' y rs:=e ▸ h.keep (below_drew _)
theorem yS1 {x:At} {y:Value} {v0:Value} (h:Hid (Mem (NwS A w.heap.size) w x y)) (e:(w.setCell ⟨g,j,none⟩ v0)=w') (hg: ¬A g:=by first | (unfold Av;omega) | (unfold Bt;omega)):Hid (Mem (NwS A w'.heap.size) w' x y):=zz (memS_set1 h.out e hg)
theorem yS2 {x:At} {y:Value} {v0 v1:Value} (h:Hid (Mem (NwS A w.heap.size) w x y)) (e:((w.setCell ⟨g,0,none⟩ v0).setCell ⟨g,1,none⟩ v1)=w') (hg: ¬A g:=by first | (unfold Av;omega) | (unfold Bt;omega)):Hid (Mem (NwS A w'.heap.size) w' x y):=zz (memS_set2 h.out e hg)
theorem yS3 {x:At} {y:Value} {v0 v1 v2:Value} (h:Hid (Mem (NwS A w.heap.size) w x y)) (e:(((w.setCell ⟨g,0,none⟩ v0).setCell ⟨g,1,none⟩ v1).setCell ⟨g,2,none⟩ v2)=w') (hg: ¬A g:=by first | (unfold Av;omega) | (unfold Bt;omega)):Hid (Mem (NwS A w'.heap.size) w' x y):=zz (memS_set3 h.out e hg)
theorem yS5 {x:At} {y:Value} {v0 v1 v2 v3 v4:Value} (h:Hid (Mem (NwS A w.heap.size) w x y)) (e:(((((w.setCell ⟨g,0,none⟩ v0).setCell ⟨g,1,none⟩ v1).setCell ⟨g,2,none⟩ v2).setCell ⟨g,3,none⟩ v3).setCell ⟨g,4,none⟩ v4)=w') (hg: ¬A g:=by first | (unfold Av;omega) | (unfold Bt;omega)):Hid (Mem (NwS A w'.heap.size) w' x y):=zz (memS_set5 h.out e hg)
theorem yS6 {x:At} {y:Value} {v0 v1 v2 v3 v4 v5:Value} (h:Hid (Mem (NwS A w.heap.size) w x y)) (e:((((((w.setCell ⟨g,0,none⟩ v0).setCell ⟨g,1,none⟩ v1).setCell ⟨g,2,none⟩ v2).setCell ⟨g,3,none⟩ v3).setCell ⟨g,4,none⟩ v4).setCell ⟨g,5,none⟩ v5)=w') (hg: ¬A g:=by first | (unfold Av;omega) | (unfold Bt;omega)):Hid (Mem (NwS A w'.heap.size) w' x y):=zz (memS_set6 h.out e hg)
theorem yA {x:At} {y:Value} {o:Obj} (h:Hid (Mem (NwS A w.heap.size) w x y)) (e:w.alloc o=w'):Hid (Mem (NwS A w'.heap.size) w' x y):=zz (memS_allocE h.out e)
theorem yD {x:At} {y:Value} (h:Hid (Mem (NwS A w.heap.size) w x y)) (e:w.drew=w'):Hid (Mem (NwS A w'.heap.size) w' x y):=zz (memS_drewE h.out e)
theorem kY {x:At} {y:Value} (h:Hid (Mem (NwS A w.heap.size) w x y)) (hb:Below w.heap.size w w'):Hid (Mem (NwS A w'.heap.size) w' x y):=zz (memS_keep h.out hb)
end
end
section
open Go.RowKit
section
variable {ts:List Tk} {aL:Option Addr} {n cap:Nat}
theorem refBelow {w w':World} (hf:FarB w.heap.size w.heap.size w w'):Below w.heap.size w w':=Far.toB (Far.mono hf fun b e=>by rcases e with e | e <;> omega) (Nat.le_refl _)
attribute [local go_sem] tk_pos
theorem tk_text (k n l c:Int) (s:ByteArray) (w:World):Sem.run Tryz.prog (Instr.field 53 (.agg #[.int .i64 k,.string s,.int .i64 n,.int .i64 l,.int .i64 c]) 1) w=.ok (.string s) w:=by kernel_rfl
theorem tk_kind0 (k n l c:Int) (s:ByteArray) (w:World):Sem.run Tryz.prog (Instr.field 53 (.agg #[.int .i64 k,.string s,.int .i64 n,.int .i64 l,.int .i64 c]) 0) w=.ok (.int .i64 k) w:=by kernel_rfl
attribute [local go_sem] tk_text tk_kind0
end
end
section
open Go.RowKit
end
end Go.Proofs.YtcoiagfeoonpbaaGreat
