/-
  lex.Scan, walked: the tokens of a text, or where it is wrong. No condition but sizes.
-/
import Derived.Test.YtcoiagfeoonpbaaGreatSm10
import Derived.Deep.RegionLaw
import Derived.Deep.RegionHeld3
set_option maxHeartbeats 20000000
set_option maxRecDepth 100000
namespace Go.Proofs.YtcoiagfeoonpbaaGreat
section
open Go.RowKit
theorem store_flt {dst:Option Nat} {ty:TypeId} {pos:String} {after:Array Edge} {guard:Option (Nat × Bool)} {x y:Operand} {a:Act} {w:World} {K:Act→World→Prop} {Q:Exit→Act→World→Prop} (h:StOk 31 3 w (a.eval x) (a.eval y)):
    Oper.wp Tryz.prog { dst:=dst,op:=.store 31 x y,type:=ty,pos:=pos,after:=after,guard:=guard } a w K Q=K (a.put dst undef) (w.setRow (stB (a.eval x)) (stC (a.eval y))):=wp_store_T rfl (by kernel_rfl) h
theorem stOk_flt {w:World} {g:Nat} {k l c:Int} :StOk 31 3 w (.pointer (some ⟨g,0,none⟩)) (.agg #[.int .i64 k,.int .i64 l,.int .i64 c])=Wr w g 31 3:=stOk_eq rfl (by simp [Value.oneCell'])
attribute [local go_sem ↓] store_flt store_tok
attribute [local go_sem] stOk_flt stOk_tok stB_eq stC_eq wr_drew wr_alloc wr_row wr_drewN
section
variable {P:Program} {w:World}
theorem wp_app_eq {o:Oper} {a:Act} {K:Act→World→Prop} {Q:Exit→Act→World→Prop} {w':World} {v1 v2 v:Value} {ts:Array TypeId} (s x:Operand)
    (ho:o.op=.call { callee:=.builtin .append,args:=#[s,x],argTypes:=ts }) (hv:a.eval s=v1) (hx:a.eval x=v2) (hr:(Builtin.append_ ts o.type #[v1,v2]).run P w=.ok v w') (h:K (a.put o.dst v) w'):o.wp P a w K Q:=by
  unfold Oper.wp execOp;simp only [ho,resolve,invoke,builtin,Sem.run_bind,Sem.run_pure,Result.andThen_ok,List.map_toArray,List.map_cons,List.map_nil,hv,hx,hr];exact h
theorem step_app_eq {ops:Array Oper} {o:Oper} {a:Act} {K:Act→World→Prop} {Q:Exit→Act→World→Prop} {E:Prop} {w':World} {v1 v2 v:Value} {ts:Array TypeId} (hgd:o.guard=none) (s x:Operand)
    (ho:o.op=.call { callee:=.builtin .append,args:=#[s,x],argTypes:=ts }) (hv:a.eval s=v1) (hx:a.eval x=v2) (hr:(Builtin.append_ ts o.type #[v1,v2]).run P w=.ok v w') (h:K (a.put o.dst v) w'):
    if Region.wanted o (yielded ops a.tmps)=true then Oper.wp P o a w K Q else E:=by
  have hw:Region.wanted o (yielded ops a.tmps)=true:=by simp [Region.wanted,hgd]
  rw [if_pos hw];exact wp_app_eq s x ho hv hx hr h
theorem step_app_ex {ops:Array Oper} {o:Oper} {a:Act} {K:Act→World→Prop} {Q:Exit→Act→World→Prop} {E:Prop} {v1 v2:Value} {ts:Array TypeId} {R:Value→World→Prop} (hgd:o.guard=none) (s x:Operand)
    (ho:o.op=.call { callee:=.builtin .append,args:=#[s,x],argTypes:=ts }) (hv:a.eval s=v1) (hx:a.eval x=v2) (hr:∃ v w',(Builtin.append_ ts o.type #[v1,v2]).run P w=.ok v w'∧R v w') (h:∀ v w',R v w'→K (a.put o.dst v) w'):
    if Region.wanted o (yielded ops a.tmps)=true then Oper.wp P o a w K Q else E:=by
  obtain ⟨v,w',h1,h2⟩:=hr;exact step_app_eq hgd s x ho hv hx h1 (h v w' h2)
end
theorem OwnT.row {base:Nat} {w:World} {y:Value} {ts:List Tok} (h:OwnT base w y ts) (g:Nat) (cs:Array Value) (hg:g<base):OwnT base (w.setRow g cs) y ts:=by
  refine ⟨h.1,?_⟩
  rcases h.2 with hn | ⟨g',cap,cur,rfl,hb,hgg,rest⟩
  · exact .inl hn
  · exact .inr ⟨g',cap,cur,rfl,hb,(setRow_other w g g' cs (by omega)).trans hgg,rest⟩
structure LxSt (w0:World) (s:ByteArray) (out:Value) (w:World) (i l f:Nat) (ts:List Tok):Prop where
  bel:Below w0.heap.size w0 w
  flt:Bo w w0.heap.size 31 #[.int .i64 0,.int .i64 0,.int .i64 0]
  sc:Sc w (w0.heap.size+1) s i l f out
  own:OwnT (w0.heap.size+2) w out ts
theorem Bo.t3 {w:World} {q:Nat} {t:TypeId} {c0 c1 c2:Value} (h:Bo w q t #[c0,c1,c2]):w.cell? ⟨q,0,none⟩=some c0∧w.cell? ⟨q,1,none⟩=some c1∧w.cell? ⟨q,2,none⟩=some c2:=⟨h.cell rfl,h.cell rfl,h.cell rfl⟩
theorem LxSt.dn {w0:World} {s:ByteArray} {out:Value} {w:World} {i l f:Nat} {ts:List Tok} (h:LxSt w0 s out w i l f ts) (n:Nat):LxSt w0 s out (w.drewN n) i l f ts:=⟨below_drewN h.bel n,h.flt,h.sc,h.own⟩
theorem LxSt.dr {w0:World} {s:ByteArray} {out:Value} {w:World} {i l f:Nat} {ts:List Tok} (h:LxSt w0 s out w i l f ts):LxSt w0 s out w.drew i l f ts:=⟨Below.drew h.bel,h.flt,h.sc,h.own⟩
theorem LxSt.keep {w0:World} {s:ByteArray} {out:Value} {w w':World} {i l f:Nat} {ts:List Tok} (h:LxSt w0 s out w i l f ts) (hb:Below w.heap.size w w'):LxSt w0 s out w' i l f ts:=
  ⟨h.bel.trans (hb.mono h.bel.size),h.flt.keep hb,Bo.keep h.sc hb,h.own.keep hb⟩
theorem LxSt.moved {w0:World} {s:ByteArray} {out:Value} {w w':World} {i l f i2 l2 f2:Nat} {ts:List Tok} (h:LxSt w0 s out w i l f ts) (hf:Far (fun k=>k=w0.heap.size+1) w w') (h2:Sc w' (w0.heap.size+1) s i2 l2 f2 out):LxSt w0 s out w' i2 l2 f2 ts:=
  ⟨h.bel.trans ⟨hf.os,hf.tape,hf.output,hf.size,fun k hk=>hf.block k (by have :=h.bel.size;omega) (by omega)⟩,(hf.block _ h.flt.lt (by omega)).trans h.flt,h2,h.own.far hf (by omega)⟩
theorem LxSt.other {w0:World} {s:ByteArray} {out:Value} {w:World} {i l f:Nat} {ts:List Tok} (h:LxSt w0 s out w i l f ts) {tb:Nat} (htb:w0.heap.size+2≤tb) (hne:out.ownBlock≠some tb) (j:Nat) (v:Value):LxSt w0 s out (w.setCell ⟨tb,j,none⟩ v) i l f ts:=
  ⟨h.bel.setCell (p:=⟨tb,j,none⟩) (by show w0.heap.size≤tb;omega) v,h.flt.far j v (by omega),Bo.far h.sc j v (by omega),h.own.grown (grownBy_setCell w tb j v) (fun k hk=>by injection hk with hk;subst hk;exact hne)⟩
theorem size_set1 (w:World) (p:Addr) (u:Value):(w.setCell p u).heap.size=w.heap.size:=by simp [World.setCell]
theorem size_set2 (w:World) (p q:Addr) (u v:Value):((w.setCell p u).setCell q v).heap.size=w.heap.size:=by simp [World.setCell]
theorem LxSt.app {w0:World} {s:ByteArray} {out:Value} {W:World} {i l f:Nat} {ts:List Tok} (h:LxSt w0 s out W i l f ts) (t:Tok) {m:Nat} (hm:ts.length=m) (hts:ts.length≤100000) {G:Nat} (hG:W.heap.size=G) (Wx:World) (hd:Dr (W.alloc (.cells (tokR t).toArray 53)) Wx):
    ∃ v' w', (Builtin.append_ #[46, 46] 46 #[out, .slice (some ⟨G, 0, none⟩) 1 1]).run Tryz.prog Wx = .ok v' w' ∧ ((∃ a c, v' = .slice a (m + 1) c) ∧ w'.cell? ⟨w0.heap.size + 1, 4, none⟩ = some out ∧ w'.frozen? ⟨w0.heap.size + 1, 4, none⟩ = false ∧ LxSt w0 s v' (w'.setCell ⟨w0.heap.size + 1, 4, none⟩ v') i l f (ts ++ [t]) ∧
      (Below w0.heap.size w0 w'∧Bo w' w0.heap.size 31 #[.int .i64 0,.int .i64 0,.int .i64 0]∧OwnT (w0.heap.size+2) w' v' (ts++[t]))∧∀ tb cs,Bo W tb 53 cs→out.ownBlock≠some tb→tb≠w0.heap.size+1→Bo (w'.setCell ⟨w0.heap.size+1,4,none⟩ v') tb 53 cs∧v'.ownBlock≠some tb):=by
  subst hG;subst hm;have h1:=h.keep (below_new W (.cells (tokR t).toArray 53))
  have hz:Wx.heap.size=W.heap.size+1:=by rw [hd.1,World.size_alloc]
  have hx:LxSt w0 s out Wx i l f ts:=⟨hd.below h1.bel,by unfold Bo;rw [hd.1];exact h1.flt,by unfold Sc Bo;rw [hd.1];exact h1.sc,by
    refine h1.own.keep ⟨hd.2.1,hd.2.2.1,hd.2.2.2,by rw [hd.1];exact Nat.le_refl _,fun k _=>by rw [hd.1]⟩⟩
  have hb0:=h.bel.size;have hscl:=Bo.lt h.sc
  obtain ⟨v',w',hr,ho,hg,hy⟩:=app_tok (t:=t) (g:=W.heap.size) 46 hx.own (fun j u hu=>by
    rw [hd.cell]
    exact (Bo.new W 53 (tokR t).toArray).cell (by simpa using hu)) hts (by omega)
  have hob:=hx.own.lt
  have hsc':Sc w' (w0.heap.size+1) s i l f out:=Bo.grown hx.sc hg (fun k hk e=>by have :=(hob k hk).1;omega)
  refine ⟨v',w',hr,(by obtain ⟨a,c,e,_⟩:=ho.form;exact ⟨a,c,by rw [e,List.length_append];rfl⟩),hsc'.c5.2.2.2.2,Bo.frozen hsc' 4,⟨?_,?_,Bo.set hsc' 4 v',?_⟩,⟨grown_below hx.bel hg (Nat.le_refl _) (fun k hk=>by have :=(hob k hk).1;omega),Bo.grown hx.flt hg (fun k hk e=>by have :=(hob k hk).1;omega),ho⟩,?_⟩
  · exact (grown_below hx.bel hg (Nat.le_refl _) (fun k hk=>by have :=(hob k hk).1;omega)).setCell (p:=⟨w0.heap.size+1,4,none⟩) (Nat.le_succ _) v'
  · exact (Bo.grown hx.flt hg (fun k hk e=>by have :=(hob k hk).1;omega)).far 4 v' (by omega)
  · exact ho.grown (grownBy_setCell w' (w0.heap.size+1) 4 v') (fun k hk e=>by injection hk with hk;subst hk;have :=(ho.lt _ e).1;omega)
  · intro tb cs hb hne hq
    have hb':Bo Wx tb 53 cs:=by unfold Bo;rw [hd.1];exact hb.alloc _
    refine ⟨(Bo.grown hb' hg (fun k hk e=>hne (by rw [hk,e]))).far 4 v' hq,fun e=>?_⟩
    rcases hy with hy | hy
    · exact hne (hy ▸ e)
    · have :=hy _ e;have :=hb.lt;omega
def LxLoop (w0:World) (s:ByteArray) (wr:World):Prop:=
  ∃ out i l f ts,LxSt w0 s out wr i l f ts∧i≤s.size∧f≤i∧l≤i+1∧ts.length≤2 * i∧addT ts (scanS (s.data.toList.drop i) l (i - f+1))=scanB false s.data.toList 1 1
theorem lx_next {s:ByteArray} {i l f i2 l2 f2:Nat} {ts:List Tok} {k n:Int} {t:List UInt8} (hi:i<s.size) (hf:f≤i) (hall:addT ts (scanS (s.data.toList.drop i) l (i - f+1))=scanB false s.data.toList 1 1) (ht:tokL (s.data.toList.drop i)=some (k,t,n))
    (hR:skipG false (s.data.toList.drop (i+t.length)) l (i+t.length - f+1)=(s.data.toList.drop i2,l2,i2 - f2+1)) (hi2:i2≤s.size):
    i<i2∧addT (ts++((if i - f+1=1 then [⟨1,str [],0,l,((i - f+1:Nat):Int)⟩] else [])++[⟨k,str t,n,l,((i - f+1:Nat):Int)⟩])) (scanS (s.data.toList.drop i2) l2 (i2 - f2+1))=scanB false s.data.toList 1 1:=by
  obtain ⟨h1,h2,_⟩:=tokL_pre ht;have h3:=skipG_le false (s.data.toList.drop (i+t.length)) l (i+t.length - f+1);have h4:=h2.length_le;rw [hR] at h3;simp only [List.length_drop,length_data] at h3 h4;refine ⟨by omega,?_⟩;rw [←hall,scanS_tok _ _ ht,addT_add,scanB,List.drop_drop,show i - f+1+t.length=i+t.length - f+1 by omega,hR]
theorem LxSt.setI {w0:World} {s:ByteArray} {out:Value} {w:World} {i l f:Nat} {ts:List Tok} (h:LxSt w0 s out w i l f ts) (j:Nat):LxSt w0 s out (w.setCell ⟨w0.heap.size+1,1,none⟩ (.int .i64 j)) j l f ts:=
  h.moved ((Far.refl (fun k=>k=w0.heap.size+1) w).setCell (p:=⟨w0.heap.size+1,1,none⟩) rfl _) (h.sc.setI 0 (j:Int))
theorem lx_done {w0 w':World} {s:ByteArray} {out:Value} {i l f i2 l2 f2 col:Nat} {ts ts':List Tok} {k n:Int} {t:ByteArray} (hi:i<s.size) (hf:f≤i) (hts:ts.length≤2 * i) (hall:addT ts (scanS (s.data.toList.drop i) l (i - f+1))=scanB false s.data.toList 1 1)
    (htok:tokV (s.data.toList.drop i)=(k,t,n,true)) (hcc:col=i - f+1) (hts':ts'=ts++((if col=1 then [(⟨1,str [],0,l,col⟩:Tok)] else [])++[⟨k,t,n,l,col⟩])) (h:LxSt w0 s out w' i2 l2 f2 ts')
    (hR:skipG false (s.data.toList.drop (i+t.size)) l (i+t.size - f+1)=(s.data.toList.drop i2,l2,i2 - f2+1)) (h3:i2≤s.size) (h4:f2≤i2) (h5:l2≤i2+1):i<i2∧LxLoop w0 s w':=by
  have ht:=tokV_tok htok;rw [←length_data t] at hR;obtain ⟨g1,g2⟩:=lx_next hi hf hall ht hR h3;rw [←hcc,show str t.data.toList=t from str_eta t, ←hts'] at g2
  have hlen:ts'.length≤ts.length+2:=by
    rw [hts',List.length_append,List.length_append]
    split <;> simp
  exact ⟨g1,out,i2,l2,f2,ts',h,h3,h4,h5,by omega,g2⟩
theorem tok_fits {s t:ByteArray} {i:Nat} {k n:Int} (hi:i<s.size) (htok:tokV (s.data.toList.drop i)=(k,t,n,true)):i+t.size≤s.size:=by
  have h:=(tokL_pre (tokV_tok htok)).2.1.length_le;rw [List.length_drop,length_data,length_data] at h
  omega
theorem scan_own (s:ByteArray) (w:World) (hs:s.size≤1000000):
    Calls Tryz.prog 17 #[.string s] w fun e w'=>∃ a n cap,e=.returned (.tuple #[.slice a n cap,.agg #[.int .i64 (lexes s).1,.int .i64 (lexes s).2.1,.int .i64 (lexes s).2.2.1]])∧Below w.heap.size w w'∧Rd w'.heap.size w' a n cap 5 (tokVs (lexes s).2.2.2)∧OwnT (w.heap.size+2) w' (.slice a n cap) (lexes s).2.2.2:=by
  by_cases hlong:4096<s.size
  · rw [lexes_long s hlong]
    have e1:decide ((4096:Int)<(s.size:Int))=true:=by rw [decide_eq_true_eq];omega
    go_enter Tryz.func17,Tryz.ntmps17
    go_wp2
    exact bodyPost_ret (v:=.tuple #[.slice none 0 0,.agg #[.int .i64 11,.int .i64 0,.int .i64 0]]) (by simp [results,Tryz.results17,go_sem]) rfl ⟨none,0,0,rfl,below_new _ _,⟨rfl,Nat.le_refl _,by decide,.inl rfl⟩,OwnT.nil _ _⟩
  · have e1:decide ((4096:Int)<(s.size:Int))=false:=by rw [decide_eq_false_iff_not];omega
    have HS0:Hid (LxSt w s (.slice none 0 0) ((w.alloc (.cells #[.int .i64 0,.int .i64 0,.int .i64 0] 31)).alloc (.cells #[.string s,.int .i64 0,.int .i64 1,.int .i64 0,.slice none 0 0] 105)) 0 1 0 []):=by
      have hsc:=Bo.new (w.alloc (.cells #[.int .i64 0,.int .i64 0,.int .i64 0] 31)) 105 #[.string s,.int .i64 0,.int .i64 1,.int .i64 0,.slice none 0 0];rw [World.size_alloc] at hsc;exact zz ⟨((Below.refl _ w).alloc (Nat.le_refl _) _).alloc (by simp) _,(Bo.new w 31 _).alloc _,hsc,OwnT.nil _ _⟩
    have HLX:Hid (∀ W,LxSt w s (.slice none 0 0) W 0 1 0 []→Calls Tryz.prog 51 #[.pointer (some ⟨w.heap.size+1,0,none⟩)] W fun e w'=>e=.returned (.tuple #[])∧LxLoop w s w'):=zz (fun W h=>(skip_any 0 1 0 ⟨h.sc,Far.refl _ _,Nat.zero_le _,Nat.le_refl _,Nat.le_refl _,rfl⟩ hs).mono (by
      rintro e w' ⟨he,i,l,f,h1,h2,h3,h4,h5,h6⟩;refine ⟨he,_,i,l,f,[],h.moved h2 h1,h3,h4,h5,Nat.zero_le _,?_⟩;rw [addT_nil,scanB];simp only [List.drop_zero,Nat.sub_zero,Nat.zero_add] at h6
      rw [h6]))
    go_enter Tryz.func17,Tryz.ntmps17
    go_wp2_with (first
      | (go_at_call 51
         refine (HLX.out _ HS0.out).mono ?_;rintro e w1 ⟨rfl,hl⟩;have HL:=zz hl
         clear hl))
    clear HLX HS0
    go_loopw [5,6] (fun _ _ wr=>Hid (LxLoop w s wr)) (fun _ _ wr=>skM (w.heap.size+1) s.size wr)
    case atStart=>exact HL
    case round=>
      clear HL;obtain ⟨out,i,l,f,ts,hst,hi,hfi,hli,hts,hall⟩:=hrel;have HST:=zz hst;have HALL:=zz hall;obtain ⟨c0,c1,c2,c3,c4⟩:=hst.sc.c5;clear hst hall
      by_cases hlt:i<s.size
      · have hlt':(i:Int)<(s.size:Int):=by omega
        obtain ⟨k,t,n,b,htok⟩:∃ k t n b,tokV (s.data.toList.drop i)=(k,t,n,b):=⟨_,_,_,_,rfl⟩;have HTOK:=zz htok;clear htok
        have hcol:((i:Int) - (f:Int)+1)=((i - f+1:Nat):Int):=by omega
        obtain ⟨col,hcc⟩:∃ col,col=i - f+1:=⟨_,rfl⟩;rw [←hcc] at hcol;have HCOL:=zz hcol;have HCC:=zz hcc;clear hcol hcc
        cases b with
        | false =>
          have HF:Hid (lexes s=(1,(l:Int),(col:Int),[])):=zz (lexes_bad s hlong (by rw [←HALL.out,scanS_bad _ _ (List.ne_nil_of_length_pos (by rw [List.length_drop,length_data];omega)) (tokV_no HTOK.out),HCC.out];rfl))
          go_wp2_with (first
            | (go_at_call 52
               refine (token_any i HST.out.sc hlt hs HTOK.out).mono ?_;rintro e w2 ⟨rfl,hb⟩;have HS2:=zz (HST.out.keep hb);have HT2:=zz (Bo.new w2 53 #[.int .i64 k,.string t,.int .i64 n,.int .i64 0,.int .i64 0]);have HS2':=zz (HS2.out.keep (below_new w2 (.cells #[.int .i64 k,.string t,.int .i64 n,.int .i64 0,.int .i64 0] 53)))
               clear hb)
            | (go_at_call 53
               refine (at_any HS2'.out.sc (by omega) (by omega) (by omega)).mono ?_;rintro e w3 ⟨rfl,hb⟩;rw [HCOL.out];have HS3:=zz (HS2'.out.keep hb);have HT3:=zz (HT2.out.keep hb)
               have hz2:w.heap.size+2≤w2.heap.size:=by have :=Bo.lt HS2.out.sc;omega
               have HNE:Hid (out.ownBlock≠some w2.heap.size):=zz (fun e=>by have :=(HS2.out.own.lt _ e).2;omega)
               have f3:=HT3.out.frozen 3;have f4:=HT3.out.frozen 4;have c33:=HT3.out.cell (j:=3) rfl;have c34:=HT3.out.cell (j:=4) rfl;have HS4:=zz ((HS3.out.other hz2 HNE.out 3 (.int .i64 l)).other hz2 HNE.out 4 (.int .i64 col));have HT4:Hid (Bo ((w3.setCell ⟨w2.heap.size,3,none⟩ (.int .i64 l)).setCell ⟨w2.heap.size,4,none⟩ (.int .i64 col)) w2.heap.size 53 #[.int .i64 k,.string t,.int .i64 n,.int .i64 l,.int .i64 col]):=zz ((HT3.out.set 3 (.int .i64 l)).set 4 (.int .i64 col))
               clear hb))
          obtain ⟨d0,d1,d2,d3,d4⟩:=HT4.out.t5;have yf:Wr ((w3.setCell ⟨w2.heap.size,3,none⟩ (.int .i64 l)).setCell ⟨w2.heap.size,4,none⟩ (.int .i64 col)) w.heap.size 31 3:=HS4.out.flt.wr;clear c33 c34 f3 f4
          go_region
          all_goals go_wp2
          have HE:=zz ((Bo.drew HS4.out.flt).row #[.int .i64 1,.int .i64 l,.int .i64 col]).t3;refine bodyPost_ret (v:=.tuple #[.slice none 0 0,.agg #[.int .i64 1,.int .i64 l,.int .i64 col]]) (by simp [results,Tryz.results17,go_sem,HE.out]) rfl ⟨none,0,0,by rw [HF.out],?_,?_,?_⟩;· exact below_setRow (Below.drew HS4.out.bel) (Nat.le_refl _) _
          · rw [HF.out];exact ⟨rfl,Nat.le_refl _,by decide,.inl rfl⟩
          · rw [HF.out];exact OwnT.nil _ _
        | true =>
          by_cases hc1:col=1
          · have e4:((col:Int)==1)=true:=by rw [beq_iff_eq];omega
            have HC1:=zz hc1;clear hc1
            go_wp2_with (first
              | (go_at_call 52
                 refine (token_any i HST.out.sc hlt hs HTOK.out).mono ?_;rintro e w2 ⟨rfl,hb⟩;have HS2:=zz (HST.out.keep hb);have HT2:=zz (Bo.new w2 53 #[.int .i64 k,.string t,.int .i64 n,.int .i64 0,.int .i64 0]);have HS2':=zz (HS2.out.keep (below_new w2 (.cells #[.int .i64 k,.string t,.int .i64 n,.int .i64 0,.int .i64 0] 53)))
                 clear hb)
              | (go_at_call 53
                 refine (at_any HS2'.out.sc (by omega) (by omega) (by omega)).mono ?_;rintro e w3 ⟨rfl,hb⟩;rw [HCOL.out];have HS3:=zz (HS2'.out.keep hb);have HT3:=zz (HT2.out.keep hb)
                 have hz2:w.heap.size+2≤w2.heap.size:=by have :=Bo.lt HS2.out.sc;omega
                 have HNE:Hid (out.ownBlock≠some w2.heap.size):=zz (fun e=>by have :=(HS2.out.own.lt _ e).2;omega)
                 have f3:=HT3.out.frozen 3;have f4:=HT3.out.frozen 4;have c33:=HT3.out.cell (j:=3) rfl;have c34:=HT3.out.cell (j:=4) rfl;have HS4:=zz ((HS3.out.other hz2 HNE.out 3 (.int .i64 l)).other hz2 HNE.out 4 (.int .i64 col));have HT4:Hid (Bo ((w3.setCell ⟨w2.heap.size,3,none⟩ (.int .i64 l)).setCell ⟨w2.heap.size,4,none⟩ (.int .i64 col)) w2.heap.size 53 #[.int .i64 k,.string t,.int .i64 n,.int .i64 l,.int .i64 col]):=zz ((HT3.out.set 3 (.int .i64 l)).set 4 (.int .i64 col))
                 clear hb))
            have HFIT:=zz (tok_fits hlt HTOK.out);have HTS5:Hid (ts.length≤100000):=zz (by omega);have HTS6:Hid ((ts++[(⟨1,str [],0,l,col⟩:Tok)]).length≤100000):=zz (by rw [List.length_append];simp;omega);clear c33 c34 f3 f4 c0 c1 c2 c3 c4;obtain ⟨d0,d1,d2,d3,d4⟩:=HT4.out.t5;obtain ⟨g0,g1,g2,g3,g4⟩:=HS4.out.sc.c5;have g4':=(HS4.out.keep (below_new _ (.cells #[.int .i64 1,.string ⟨#[]⟩,.int .i64 0,.int .i64 l,.int .i64 col] 53))).sc.c5.2.2.2.2
            go_region_law (refine step_app_ex (by rfl) (.tmp 46) (.tmp 50) (by rfl) (by rfl) (by rfl) (HS4.out.app ⟨1,str [],0,l,col⟩ rfl HTS5.out (size_set2 _ _ _ _ _) _ ⟨rfl,rfl,rfl,rfl⟩) ?_;rintro v' w5 ⟨⟨va5,vc5,rfl⟩,cq5,fq5,h5,hz5,hk5⟩;have HS5:=zz h5;have HK5:=zz (hk5 w2.heap.size);clear h5 hk5)
            all_goals
              obtain ⟨hbt5,hne5⟩:=HK5.out _ HT4.out HNE.out (by omega);have HB5:=zz hbt5;have HN5:=zz hne5;clear hbt5 hne5 d0 d1 d2 d3 d4 g0 g1 g2 g3 g4 g4' cq5 fq5
              go_wp2
            all_goals
              obtain ⟨d0,d1,d2,d3,d4⟩:=HB5.out.t5;obtain ⟨g0,g1,g2,g3,g4⟩:=HS5.out.sc.c5;have g4':=(HS5.out.keep (below_new _ (.cells #[.int .i64 k,.string t,.int .i64 n,.int .i64 l,.int .i64 col] 53))).sc.c5.2.2.2.2
              go_region_law (refine step_app_ex (by rfl) (.tmp 58) (.tmp 60) (by rfl) (by rfl) (by rfl) (HS5.out.app ⟨k,t,n,l,col⟩ (m:=ts.length+1) (List.length_append ..) HTS6.out (size_set1 _ _ _) _ ⟨rfl,rfl,rfl,rfl⟩) ?_;rintro v' w6 ⟨⟨va6,vc6,rfl⟩,cq6,fq6,h6,hz6,hk6⟩;have HS6:=zz h6;have HK6:=zz (hk6 w2.heap.size);clear h6 hk6)
            all_goals
              obtain ⟨hbt6,hne6⟩:=HK6.out _ HB5.out HN5.out (by omega);have HS7:=zz (HS6.out.setI (i+t.size)).dr;clear d0 d1 d2 d3 d4 g0 g1 g2 g3 g4 g4' cq6 fq6;obtain ⟨d0,d1,d2,d3,d4⟩:=hbt6.t5;obtain ⟨g0,g1,g2,g3,g4⟩:=HS6.out.sc.c5;have fq1:=Bo.frozen HS6.out.sc 1
              have hsum:(i:Int)+(t.size:Int)≤1000000:=by have :=HFIT.out;omega
              clear hbt6 hne6
              go_wp2
              go_region
              all_goals go_wp2_with (first
                | (go_at_call 51
                   refine (skip_any (i+t.size) l f ⟨HS7.out.sc,Far.refl _ _,HFIT.out,by omega,by omega,rfl⟩ hs).mono ?_;rintro e w8 ⟨rfl,i2,l2,f2,q1,q2,q3,q4,q5,q6⟩;have HS8:=zz (HS7.out.moved q2 q1);have HDN:=zz (lx_done hlt hfi hts HALL.out HTOK.out HCC.out (by rw [if_pos HC1.out,List.append_assoc]) HS8.out q6 q3 q4 q5)
                   clear q1 q2 q3 q4 q5 q6))
            all_goals
              go_roundw
              case rel=>exact HDN.out.2
              case measure=>have h1:=HDN.out.1;have h2:=skM_eq (n:=s.size) HS8.out.sc;have h3:=skM_eq (n:=s.size) HST.out.sc;omega
          · have e4:((col:Int)==1)=false:=by rw [beq_eq_false_iff_ne];omega
            have HC1:=zz hc1;clear hc1
            go_wp2_with (first
              | (go_at_call 52
                 refine (token_any i HST.out.sc hlt hs HTOK.out).mono ?_;rintro e w2 ⟨rfl,hb⟩;have HS2:=zz (HST.out.keep hb);have HT2:=zz (Bo.new w2 53 #[.int .i64 k,.string t,.int .i64 n,.int .i64 0,.int .i64 0]);have HS2':=zz (HS2.out.keep (below_new w2 (.cells #[.int .i64 k,.string t,.int .i64 n,.int .i64 0,.int .i64 0] 53)))
                 clear hb)
              | (go_at_call 53
                 refine (at_any HS2'.out.sc (by omega) (by omega) (by omega)).mono ?_;rintro e w3 ⟨rfl,hb⟩;rw [HCOL.out];have HS3:=zz (HS2'.out.keep hb);have HT3:=zz (HT2.out.keep hb)
                 have hz2:w.heap.size+2≤w2.heap.size:=by have :=Bo.lt HS2.out.sc;omega
                 have HNE:Hid (out.ownBlock≠some w2.heap.size):=zz (fun e=>by have :=(HS2.out.own.lt _ e).2;omega)
                 have f3:=HT3.out.frozen 3;have f4:=HT3.out.frozen 4;have c33:=HT3.out.cell (j:=3) rfl;have c34:=HT3.out.cell (j:=4) rfl;have HS4:=zz ((HS3.out.other hz2 HNE.out 3 (.int .i64 l)).other hz2 HNE.out 4 (.int .i64 col));have HT4:Hid (Bo ((w3.setCell ⟨w2.heap.size,3,none⟩ (.int .i64 l)).setCell ⟨w2.heap.size,4,none⟩ (.int .i64 col)) w2.heap.size 53 #[.int .i64 k,.string t,.int .i64 n,.int .i64 l,.int .i64 col]):=zz ((HT3.out.set 3 (.int .i64 l)).set 4 (.int .i64 col))
                 clear hb))
            have HFIT:=zz (tok_fits hlt HTOK.out);have HTS5:Hid (ts.length≤100000):=zz (by omega);clear c33 c34 f3 f4 c0 c1 c2 c3 c4
            all_goals
              obtain ⟨d0,d1,d2,d3,d4⟩:=HT4.out.t5;obtain ⟨g0,g1,g2,g3,g4⟩:=HS4.out.sc.c5;have g4':=(HS4.out.keep (below_new _ (.cells #[.int .i64 k,.string t,.int .i64 n,.int .i64 l,.int .i64 col] 53))).sc.c5.2.2.2.2
              go_region_law (refine step_app_ex (by rfl) (.tmp 58) (.tmp 60) (by rfl) (by rfl) (by rfl) (HS4.out.app ⟨k,t,n,l,col⟩ rfl HTS5.out (size_set2 _ _ _ _ _) _ ⟨rfl,rfl,rfl,rfl⟩) ?_;rintro v' w6 ⟨⟨va6,vc6,rfl⟩,cq6,fq6,h6,hz6,hk6⟩;have HS6:=zz h6;have HK6:=zz (hk6 w2.heap.size);clear h6 hk6)
            all_goals
              obtain ⟨hbt6,hne6⟩:=HK6.out _ HT4.out HNE.out (by omega);have HS7:=zz (HS6.out.setI (i+t.size)).dr;clear d0 d1 d2 d3 d4 g0 g1 g2 g3 g4 g4' cq6 fq6;obtain ⟨d0,d1,d2,d3,d4⟩:=hbt6.t5;obtain ⟨g0,g1,g2,g3,g4⟩:=HS6.out.sc.c5;have fq1:=Bo.frozen HS6.out.sc 1
              have hsum:(i:Int)+(t.size:Int)≤1000000:=by have :=HFIT.out;omega
              clear hbt6 hne6
              go_wp2
              go_region
              all_goals go_wp2_with (first
                | (go_at_call 51
                   refine (skip_any (i+t.size) l f ⟨HS7.out.sc,Far.refl _ _,HFIT.out,by omega,by omega,rfl⟩ hs).mono ?_;rintro e w8 ⟨rfl,i2,l2,f2,q1,q2,q3,q4,q5,q6⟩;have HS8:=zz (HS7.out.moved q2 q1);have HDN:=zz (lx_done hlt hfi hts HALL.out HTOK.out HCC.out (by rw [if_neg HC1.out];rfl) HS8.out q6 q3 q4 q5)
                   clear q1 q2 q3 q4 q5 q6))
            all_goals
              go_roundw
              case rel=>exact HDN.out.2
              case measure=>have h1:=HDN.out.1;have h2:=skM_eq (n:=s.size) HS8.out.sc;have h3:=skM_eq (n:=s.size) HST.out.sc;omega
      · have hlt': ¬(i:Int)<(s.size:Int):=by omega
        have hie:i=s.size:=by omega
        have hcol:((i:Int) - (f:Int)+1)=((i - f+1:Nat):Int):=by omega
        obtain ⟨col,hcc⟩:∃ col,col=i - f+1:=⟨_,rfl⟩;rw [←hcc] at hcol;have HCOL:=zz hcol
        have HF:Hid (lexes s=(0,0,0,ts++[⟨0,str [],0,l,col⟩])):=zz (lexes_ok s hlong (by
          rw [←HALL.out,List.drop_eq_nil_of_le (by rw [length_data];omega),scanS_nil,hcc];rfl))
        have HTS5:Hid (ts.length≤100000):=zz (by omega);have HIE:=zz hie;clear hcol hcc hie
        go_wp2
        go_region_held3 (fun w'=>w'.cell? ⟨w.heap.size+1,4,none⟩=some out)
          (first | with_reducible assumption | exact c4 | exact HQ.out | exact HQ2.out | exact HQ3.out | (with_reducible refine cell_row_far _ ?_ (by omega);exact HQ3.out))
          (first
            | (go_at_call 53
               refine (at_any HST.out.dr.sc (by omega) (by omega) (by omega)).mono ?_;rintro e w3 ⟨rfl,hb⟩;rw [HCOL.out];have HS3:=zz (HST.out.dr.keep hb);have HQ:Hid (w3.cell? ⟨w.heap.size+1,4,none⟩=some out):=zz HS3.out.sc.c5.2.2.2.2;have HQ2:=zz (HS3.out.keep (below_new _ (.cells #[.int .i64 0,.string ⟨#[]⟩,.int .i64 0,.int .i64 l,.int .i64 col] 53))).sc.c5.2.2.2.2
               clear hb)
            | (refine step_app_ex (by rfl) (.tmp 77) (.tmp 81) (by rfl) (by rfl) (by rfl) (HS3.out.app ⟨0, str [], 0, l, col⟩ rfl HTS5.out rfl _ ⟨rfl, rfl, rfl, rfl⟩) ?_
               rintro v' w6 ⟨⟨va6,vc6,rfl⟩,cq6,fq6,_,⟨hb6,hf6,ho6⟩,_⟩;have HQ3:=zz cq6;have HB6:=zz hb6;have HF6:=zz hf6;have HO6:=zz ho6;have yf:Wr w6 w.heap.size 31 3:=hf6.wr
               clear cq6 fq6 hb6 hf6 ho6))
        all_goals go_wp2
        have HE:=zz (HF6.out.row #[.int .i64 0,.int .i64 0,.int .i64 0]).t3;have hrd:=(HO6.out.row w.heap.size #[.int .i64 0,.int .i64 0,.int .i64 0] (by omega)).form;obtain ⟨a',c',hv,_,_,hrd⟩:=hrd;simp only [List.length_append,List.length_cons,List.length_nil,Value.slice.injEq] at hv hrd;obtain ⟨rfl,_,rfl⟩:=hv;exact bodyPost_ret (v:=.tuple #[.slice va6 (ts.length+1) vc6,.agg #[.int .i64 0,.int .i64 0,.int .i64 0]]) (by simp [results,Tryz.results17,go_sem,HE.out]) rfl ⟨va6,ts.length+1,vc6,by rw [HF.out],below_setRow HB6.out (Nat.le_refl _) _,by rw [HF.out];exact hrd,by rw [HF.out];exact HO6.out.row w.heap.size #[.int .i64 0,.int .i64 0,.int .i64 0] (by omega)⟩
end
end Go.Proofs.YtcoiagfeoonpbaaGreat
