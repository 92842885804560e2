/-
  lex.Scan, walked: the tokens of a text, or where it is wrong. No condition but sizes.
-/
import Derived.Test.YtcoiagfeoonpbaaGreatMp26
import Derived.Deep.RegionLaw
import Derived.Deep.RegionHeld3
set_option maxHeartbeats 20000000
set_option maxRecDepth 100000
namespace Go.Proofs.YtcoiagfeoonpbaaGreat
section
open Go.RowKit
theorem store_flt {b:Option Nat} {f:TypeId} {pos:String} {d:Array Edge} {e:Option (Nat × Bool)} {x y:Operand} {a:Act} {w:World} {K:Act→World→Prop} {Q:Exit→Act→World→Prop} (h:StOk 31 3 w (a.eval x) (a.eval y)):
    Oper.wp Tryz.prog { dst:=b,op:=.store 31 x y,type:=f,pos:=pos,after:=d,guard:=e } a w K Q=K (a.put b undef) (w.setRow (stB (a.eval x)) (stC (a.eval y))):=wp_store_T rfl (by kernel_rfl) h
theorem stOk_flt {w:World} {g:Nat} {k l c:Int} :StOk 31 3 w (.pointer (some ⟨g,0,none⟩)) (.agg #[.int .i64 k,.int .i64 l,.int .i64 c])=Wr w g 31 3:=stOk_eq rfl (by simp [Value.oneCell'])
attribute [local go_sem ↓] store_flt store_tok
attribute [local go_sem] stOk_flt stOk_tok stB_eq stC_eq wr_drew wr_alloc wr_row wr_drewN
section
variable {P:Program} {w:World}
theorem wp_app_eq {o:Oper} {a:Act} {K:Act→World→Prop} {Q:Exit→Act→World→Prop} {e:World} {b d v:Value} {ts:Array TypeId} (s x:Operand)
    (f:o.op=.call { callee:=.builtin .append,args:=#[s,x],argTypes:=ts }) (i:a.eval s=b) (j:a.eval x=d) (g:(Builtin.append_ ts o.type #[b,d]).run P w=.ok v e) (h:K (a.put o.dst v) e):o.wp P a w K Q:=by
  unfold Oper.wp execOp;simp only [f,resolve,invoke,builtin,Sem.run_bind,Sem.run_pure,Result.andThen_ok,List.map_toArray,List.map_cons,List.map_nil,i,j,g];exact h
theorem step_app_eq {b:Array Oper} {o:Oper} {a:Act} {K:Act→World→Prop} {Q:Exit→Act→World→Prop} {E:Prop} {f:World} {d e v:Value} {ts:Array TypeId} (g:o.guard=none) (s x:Operand)
    (i:o.op=.call { callee:=.builtin .append,args:=#[s,x],argTypes:=ts }) (m:a.eval s=d) (q:a.eval x=e) (j:(Builtin.append_ ts o.type #[d,e]).run P w=.ok v f) (h:K (a.put o.dst v) f):
    if Region.wanted o (yielded b a.tmps)=true then Oper.wp P o a w K Q else E:=by
  have p:Region.wanted o (yielded b a.tmps)=true:=by simp [Region.wanted,g]
  rw [if_pos p];exact wp_app_eq s x i m q j h
theorem step_app_ex {r:Array Oper} {o:Oper} {a:Act} {K:Act→World→Prop} {Q:Exit→Act→World→Prop} {E:Prop} {d e:Value} {ts:Array TypeId} {R:Value→World→Prop} (i:o.guard=none) (s x:Operand)
    (j:o.op=.call { callee:=.builtin .append,args:=#[s,x],argTypes:=ts }) (p:a.eval s=d) (q:a.eval x=e) (m:∃ v b,(Builtin.append_ ts o.type #[d,e]).run P w=.ok v b∧R v b) (h:∀ v b,R v b→K (a.put o.dst v) b):
    if Region.wanted o (yielded r a.tmps)=true then Oper.wp P o a w K Q else E:=by
  obtain ⟨v,b,f,g⟩:=m;exact step_app_eq i s x j p q f (h v b g)
end
theorem OwnT.row {base:Nat} {w:World} {y:Value} {ts:List Tok} (h:OwnT base w y ts) (g:Nat) (a:Array Value) (j:g<base):OwnT base (w.setRow g a) y ts:=by
  refine ⟨h.1,?_⟩
  rcases h.2 with i | ⟨b,cap,d,rfl,e,f,rest⟩
  · exact .inl i
  · exact .inr ⟨b,cap,d,rfl,e,(setRow_other w g b a (by omega)).trans f,rest⟩
structure LxSt (w0:World) (s:ByteArray) (out:Value) (w:World) (i l f:Nat) (ts:List Tok):Prop where
  bel:Below w0.heap.size w0 w
  flt:Bo w w0.heap.size 31 #[.int .i64 0,.int .i64 0,.int .i64 0]
  sc:Sc w (w0.heap.size+1) s i l f out
  own:OwnT (w0.heap.size+2) w out ts
theorem Bo.t3 {w:World} {q:Nat} {t:TypeId} {a b d:Value} (h:Bo w q t #[a,b,d]):w.cell? ⟨q,0,none⟩=some a∧w.cell? ⟨q,1,none⟩=some b∧w.cell? ⟨q,2,none⟩=some d:=⟨h.cell rfl,h.cell rfl,h.cell rfl⟩
theorem LxSt.dn {a:World} {s:ByteArray} {out:Value} {w:World} {i l f:Nat} {ts:List Tok} (h:LxSt a s out w i l f ts) (n:Nat):LxSt a s out (w.drewN n) i l f ts:=⟨below_drewN h.bel n,h.flt,h.sc,h.own⟩
theorem LxSt.dr {a:World} {s:ByteArray} {out:Value} {w:World} {i l f:Nat} {ts:List Tok} (h:LxSt a s out w i l f ts):LxSt a s out w.drew i l f ts:=⟨Below.drew h.bel,h.flt,h.sc,h.own⟩
theorem LxSt.keep {d:World} {s:ByteArray} {out:Value} {w b:World} {i l f:Nat} {ts:List Tok} (h:LxSt d s out w i l f ts) (a:Below w.heap.size w b):LxSt d s out b i l f ts:=
  ⟨h.bel.trans (a.mono h.bel.size),h.flt.keep a,Bo.keep h.sc a,h.own.keep a⟩
theorem LxSt.moved {b:World} {s:ByteArray} {out:Value} {w d:World} {i l f e l2 f2:Nat} {ts:List Tok} (h:LxSt b s out w i l f ts) (a:Far (fun k=>k=b.heap.size+1) w d) (g:Sc d (b.heap.size+1) s e l2 f2 out):LxSt b s out d e l2 f2 ts:=
  ⟨h.bel.trans ⟨a.os,a.tape,a.output,a.size,fun k j=>a.block k (by have :=h.bel.size;omega) (by omega)⟩,(a.block _ h.flt.lt (by omega)).trans h.flt,g,h.own.far a (by omega)⟩
theorem LxSt.other {b:World} {s:ByteArray} {out:Value} {w:World} {i l f:Nat} {ts:List Tok} (h:LxSt b s out w i l f ts) {a:Nat} (g:b.heap.size+2≤a) (e:out.ownBlock≠some a) (j:Nat) (v:Value):LxSt b s out (w.setCell ⟨a,j,none⟩ v) i l f ts:=
  ⟨h.bel.setCell (p:=⟨a,j,none⟩) (by show b.heap.size≤a;omega) v,h.flt.far j v (by omega),Bo.far h.sc j v (by omega),h.own.grown (grownBy_setCell w a j v) (fun k d=>by injection d with d;subst d;exact e)⟩
theorem size_set1 (w:World) (p:Addr) (u:Value):(w.setCell p u).heap.size=w.heap.size:=by simp [World.setCell]
theorem size_set2 (w:World) (p q:Addr) (u v:Value):((w.setCell p u).setCell q v).heap.size=w.heap.size:=by simp [World.setCell]
theorem LxSt.app {w0:World} {s:ByteArray} {out:Value} {W:World} {i l f:Nat} {ts:List Tok} (h:LxSt w0 s out W i l f ts) (t:Tok) {m:Nat} (hm:ts.length=m) (hts:ts.length≤100000) {G:Nat} (hG:W.heap.size=G) (Wx:World) (hd:Dr (W.alloc (.cells (tokR t).toArray 53)) Wx):
    ∃ v' w', (Builtin.append_ #[46, 46] 46 #[out, .slice (some ⟨G, 0, none⟩) 1 1]).run Tryz.prog Wx = .ok v' w' ∧ ((∃ a c, v' = .slice a (m + 1) c) ∧ w'.cell? ⟨w0.heap.size + 1, 4, none⟩ = some out ∧ w'.frozen? ⟨w0.heap.size + 1, 4, none⟩ = false ∧ LxSt w0 s v' (w'.setCell ⟨w0.heap.size + 1, 4, none⟩ v') i l f (ts ++ [t]) ∧
      (Below w0.heap.size w0 w'∧Bo w' w0.heap.size 31 #[.int .i64 0,.int .i64 0,.int .i64 0]∧OwnT (w0.heap.size+2) w' v' (ts++[t]))∧∀ tb cs,Bo W tb 53 cs→out.ownBlock≠some tb→tb≠w0.heap.size+1→Bo (w'.setCell ⟨w0.heap.size+1,4,none⟩ v') tb 53 cs∧v'.ownBlock≠some tb):=by
  subst hG;subst hm;have h1:=h.keep (below_new W (.cells (tokR t).toArray 53))
  have hz:Wx.heap.size=W.heap.size+1:=by rw [hd.1,World.size_alloc]
  have hx:LxSt w0 s out Wx i l f ts:=⟨hd.below h1.bel,by unfold Bo;rw [hd.1];exact h1.flt,by unfold Sc Bo;rw [hd.1];exact h1.sc,by
    refine h1.own.keep ⟨hd.2.1,hd.2.2.1,hd.2.2.2,by rw [hd.1];exact Nat.le_refl _,fun k _=>by rw [hd.1]⟩⟩
  have hb0:=h.bel.size;have hscl:=Bo.lt h.sc
  obtain ⟨v',w',hr,ho,hg,hy⟩:=app_tok (t:=t) (g:=W.heap.size) 46 hx.own (fun j u hu=>by
    rw [hd.cell]
    exact (Bo.new W 53 (tokR t).toArray).cell (by simpa using hu)) hts (by omega)
  have hob:=hx.own.lt
  have hsc':Sc w' (w0.heap.size+1) s i l f out:=Bo.grown hx.sc hg (fun k hk e=>by have :=(hob k hk).1;omega)
  refine ⟨v',w',hr,(by obtain ⟨a,c,e,_⟩:=ho.form;exact ⟨a,c,by rw [e,List.length_append];rfl⟩),hsc'.c5.2.2.2.2,Bo.frozen hsc' 4,⟨?_,?_,Bo.set hsc' 4 v',?_⟩,⟨grown_below hx.bel hg (Nat.le_refl _) (fun k hk=>by have :=(hob k hk).1;omega),Bo.grown hx.flt hg (fun k hk e=>by have :=(hob k hk).1;omega),ho⟩,?_⟩
  · exact (grown_below hx.bel hg (Nat.le_refl _) (fun k hk=>by have :=(hob k hk).1;omega)).setCell (p:=⟨w0.heap.size+1,4,none⟩) (Nat.le_succ _) v'
  · exact (Bo.grown hx.flt hg (fun k hk e=>by have :=(hob k hk).1;omega)).far 4 v' (by omega)
  · exact ho.grown (grownBy_setCell w' (w0.heap.size+1) 4 v') (fun k hk e=>by injection hk with hk;subst hk;have :=(ho.lt _ e).1;omega)
  · intro tb cs hb hne hq
    have hb':Bo Wx tb 53 cs:=by unfold Bo;rw [hd.1];exact hb.alloc _
    refine ⟨(Bo.grown hb' hg (fun k hk e=>hne (by rw [hk,e]))).far 4 v' hq,fun e=>?_⟩
    rcases hy with hy | hy
    · exact hne (hy ▸ e)
    · have :=hy _ e;have :=hb.lt;omega
def LxLoop (w0:World) (s:ByteArray) (wr:World):Prop:=
  ∃ out i l f ts,LxSt w0 s out wr i l f ts∧i≤s.size∧f≤i∧l≤i+1∧ts.length≤2 * i∧addT ts (scanS (s.data.toList.drop i) l (i - f+1))=scanB false s.data.toList 1 1
theorem lx_next {s:ByteArray} {i l f a l2 f2:Nat} {ts:List Tok} {k n:Int} {t:List UInt8} (p:i<s.size) (o:f≤i) (j:addT ts (scanS (s.data.toList.drop i) l (i - f+1))=scanB false s.data.toList 1 1) (e:tokL (s.data.toList.drop i)=some (k,t,n))
    (d:skipG false (s.data.toList.drop (i+t.length)) l (i+t.length - f+1)=(s.data.toList.drop a,l2,a - f2+1)) (q:a≤s.size):
    i<a∧addT (ts++((if i - f+1=1 then [⟨1,str [],0,l,((i - f+1:Nat):Int)⟩] else [])++[⟨k,str t,n,l,((i - f+1:Nat):Int)⟩])) (scanS (s.data.toList.drop a) l2 (a - f2+1))=scanB false s.data.toList 1 1:=by
  obtain ⟨m,g,_⟩:=tokL_pre e;have b:=skipG_le false (s.data.toList.drop (i+t.length)) l (i+t.length - f+1);have h:=g.length_le;rw [d] at b;simp only [List.length_drop,length_data] at b h;refine ⟨by omega,?_⟩;rw [←j,scanS_tok _ _ e,addT_add,scanB,List.drop_drop,show i - f+1+t.length=i+t.length - f+1 by omega,d]
theorem LxSt.setI {a:World} {s:ByteArray} {out:Value} {w:World} {i l f:Nat} {ts:List Tok} (h:LxSt a s out w i l f ts) (j:Nat):LxSt a s out (w.setCell ⟨a.heap.size+1,1,none⟩ (.int .i64 j)) j l f ts:=
  h.moved ((Far.refl (fun k=>k=a.heap.size+1) w).setCell (p:=⟨a.heap.size+1,1,none⟩) rfl _) (h.sc.setI 0 (j:Int))
theorem lx_done {o m:World} {s:ByteArray} {out:Value} {i l f a l2 f2 col:Nat} {ts b:List Tok} {k n:Int} {t:ByteArray} (y:i<s.size) (x:f≤i) (C:ts.length≤2 * i) (u:addT ts (scanS (s.data.toList.drop i) l (i - f+1))=scanB false s.data.toList 1 1)
    (A:tokV (s.data.toList.drop i)=(k,t,n,true)) (v:col=i - f+1) (j:b=ts++((if col=1 then [(⟨1,str [],0,l,col⟩:Tok)] else [])++[⟨k,t,n,l,col⟩])) (h:LxSt o s out m a l2 f2 b)
    (g:skipG false (s.data.toList.drop (i+t.size)) l (i+t.size - f+1)=(s.data.toList.drop a,l2,a - f2+1)) (e:a≤s.size) (q:f2≤a) (r:l2≤a+1):i<a∧LxLoop o s m:=by
  have z:=tokV_tok A;rw [←length_data t] at g;obtain ⟨p,d⟩:=lx_next y x u z g e;rw [←v,show str t.data.toList=t from str_eta t, ←j] at d
  have B:b.length≤ts.length+2:=by
    rw [j,List.length_append,List.length_append]
    split <;> simp
  exact ⟨p,out,a,l2,f2,b,h,e,q,r,by omega,d⟩
theorem tok_fits {s t:ByteArray} {i:Nat} {k n:Int} (b:i<s.size) (a:tokV (s.data.toList.drop i)=(k,t,n,true)):i+t.size≤s.size:=by
  have h:=(tokL_pre (tokV_tok a)).2.1.length_le;rw [List.length_drop,length_data,length_data] at h
  omega
theorem scan_own (s:ByteArray) (w:World) (hs:s.size≤1000000):
    Calls Tryz.prog 17 #[.string s] w fun e w'=>∃ a n cap,e=.returned (.tuple #[.slice a n cap,.agg #[.int .i64 (lexes s).1,.int .i64 (lexes s).2.1,.int .i64 (lexes s).2.2.1]])∧Below w.heap.size w w'∧Rd w'.heap.size w' a n cap 5 (tokVs (lexes s).2.2.2)∧OwnT (w.heap.size+2) w' (.slice a n cap) (lexes s).2.2.2:=by
  by_cases hlong:4096<s.size
  · rw [lexes_long s hlong]
    have e1:decide ((4096:Int)<(s.size:Int))=true:=by rw [decide_eq_true_eq];omega
    go_enter Tryz.func17,Tryz.ntmps17
    go_wp2
    exact bodyPost_ret (v:=.tuple #[.slice none 0 0,.agg #[.int .i64 11,.int .i64 0,.int .i64 0]]) (by simp [results,Tryz.results17,go_sem]) rfl ⟨none,0,0,rfl,below_new _ _,⟨rfl,Nat.le_refl _,by decide,.inl rfl⟩,OwnT.nil _ _⟩
  · have e1:decide ((4096:Int)<(s.size:Int))=false:=by rw [decide_eq_false_iff_not];omega
    have HS0:Hid (LxSt w s (.slice none 0 0) ((w.alloc (.cells #[.int .i64 0,.int .i64 0,.int .i64 0] 31)).alloc (.cells #[.string s,.int .i64 0,.int .i64 1,.int .i64 0,.slice none 0 0] 105)) 0 1 0 []):=by
      have hsc:=Bo.new (w.alloc (.cells #[.int .i64 0,.int .i64 0,.int .i64 0] 31)) 105 #[.string s,.int .i64 0,.int .i64 1,.int .i64 0,.slice none 0 0];rw [World.size_alloc] at hsc;exact zz ⟨((Below.refl _ w).alloc (Nat.le_refl _) _).alloc (by simp) _,(Bo.new w 31 _).alloc _,hsc,OwnT.nil _ _⟩
    have HLX:Hid (∀ W,LxSt w s (.slice none 0 0) W 0 1 0 []→Calls Tryz.prog 51 #[.pointer (some ⟨w.heap.size+1,0,none⟩)] W fun e w'=>e=.returned (.tuple #[])∧LxLoop w s w'):=zz (fun W h=>(skip_any 0 1 0 ⟨h.sc,Far.refl _ _,Nat.zero_le _,Nat.le_refl _,Nat.le_refl _,rfl⟩ hs).mono (by
      rintro e w' ⟨he,i,l,f,h1,h2,h3,h4,h5,h6⟩;refine ⟨he,_,i,l,f,[],h.moved h2 h1,h3,h4,h5,Nat.zero_le _,?_⟩;rw [addT_nil,scanB];simp only [List.drop_zero,Nat.sub_zero,Nat.zero_add] at h6
      rw [h6]))
    go_enter Tryz.func17,Tryz.ntmps17
    go_wp2_with (first
      | (go_at_call 51
         refine (HLX.out _ HS0.out).mono ?_;rintro e w1 ⟨rfl,hl⟩;have HL:=zz hl
         clear hl))
    clear HLX HS0
    go_loopw [5,6] (fun _ _ wr=>Hid (LxLoop w s wr)) (fun _ _ wr=>skM (w.heap.size+1) s.size wr)
    case atStart=>exact HL
    case round=>
      clear HL;obtain ⟨out,i,l,f,ts,hst,hi,hfi,hli,hts,hall⟩:=hrel;have HST:=zz hst;have HALL:=zz hall;obtain ⟨c0,c1,c2,c3,c4⟩:=hst.sc.c5;clear hst hall
      by_cases hlt:i<s.size
      · have hlt':(i:Int)<(s.size:Int):=by omega
        obtain ⟨k,t,n,b,htok⟩:∃ k t n b,tokV (s.data.toList.drop i)=(k,t,n,b):=⟨_,_,_,_,rfl⟩;have HTOK:=zz htok;clear htok
        have hcol:((i:Int) - (f:Int)+1)=((i - f+1:Nat):Int):=by omega
        obtain ⟨col,hcc⟩:∃ col,col=i - f+1:=⟨_,rfl⟩;rw [←hcc] at hcol;have HCOL:=zz hcol;have HCC:=zz hcc;clear hcol hcc
        cases b with
        | false =>
          have HF:Hid (lexes s=(1,(l:Int),(col:Int),[])):=zz (lexes_bad s hlong (by rw [←HALL.out,scanS_bad _ _ (List.ne_nil_of_length_pos (by rw [List.length_drop,length_data];omega)) (tokV_no HTOK.out),HCC.out];rfl))
          go_wp2_with (first
            | (go_at_call 52
               refine (token_any i HST.out.sc hlt hs HTOK.out).mono ?_;rintro e w2 ⟨rfl,hb⟩;have HS2:=zz (HST.out.keep hb);have HT2:=zz (Bo.new w2 53 #[.int .i64 k,.string t,.int .i64 n,.int .i64 0,.int .i64 0]);have HS2':=zz (HS2.out.keep (below_new w2 (.cells #[.int .i64 k,.string t,.int .i64 n,.int .i64 0,.int .i64 0] 53)))
               clear hb)
            | (go_at_call 53
               refine (at_any HS2'.out.sc (by omega) (by omega) (by omega)).mono ?_;rintro e w3 ⟨rfl,hb⟩;rw [HCOL.out];have HS3:=zz (HS2'.out.keep hb);have HT3:=zz (HT2.out.keep hb)
               have hz2:w.heap.size+2≤w2.heap.size:=by have :=Bo.lt HS2.out.sc;omega
               have HNE:Hid (out.ownBlock≠some w2.heap.size):=zz (fun e=>by have :=(HS2.out.own.lt _ e).2;omega)
               have f3:=HT3.out.frozen 3;have f4:=HT3.out.frozen 4;have c33:=HT3.out.cell (j:=3) rfl;have c34:=HT3.out.cell (j:=4) rfl;have HS4:=zz ((HS3.out.other hz2 HNE.out 3 (.int .i64 l)).other hz2 HNE.out 4 (.int .i64 col));have HT4:Hid (Bo ((w3.setCell ⟨w2.heap.size,3,none⟩ (.int .i64 l)).setCell ⟨w2.heap.size,4,none⟩ (.int .i64 col)) w2.heap.size 53 #[.int .i64 k,.string t,.int .i64 n,.int .i64 l,.int .i64 col]):=zz ((HT3.out.set 3 (.int .i64 l)).set 4 (.int .i64 col))
               clear hb))
          obtain ⟨d0,d1,d2,d3,d4⟩:=HT4.out.t5;have yf:Wr ((w3.setCell ⟨w2.heap.size,3,none⟩ (.int .i64 l)).setCell ⟨w2.heap.size,4,none⟩ (.int .i64 col)) w.heap.size 31 3:=HS4.out.flt.wr;clear c33 c34 f3 f4
          go_region
          all_goals go_wp2
          have HE:=zz ((Bo.drew HS4.out.flt).row #[.int .i64 1,.int .i64 l,.int .i64 col]).t3;refine bodyPost_ret (v:=.tuple #[.slice none 0 0,.agg #[.int .i64 1,.int .i64 l,.int .i64 col]]) (by simp [results,Tryz.results17,go_sem,HE.out]) rfl ⟨none,0,0,by rw [HF.out],?_,?_,?_⟩;· exact below_setRow (Below.drew HS4.out.bel) (Nat.le_refl _) _
          · rw [HF.out];exact ⟨rfl,Nat.le_refl _,by decide,.inl rfl⟩
          · rw [HF.out];exact OwnT.nil _ _
        | true =>
          by_cases hc1:col=1
          · have e4:((col:Int)==1)=true:=by rw [beq_iff_eq];omega
            have HC1:=zz hc1;clear hc1
            go_wp2_with (first
              | (go_at_call 52
                 refine (token_any i HST.out.sc hlt hs HTOK.out).mono ?_;rintro e w2 ⟨rfl,hb⟩;have HS2:=zz (HST.out.keep hb);have HT2:=zz (Bo.new w2 53 #[.int .i64 k,.string t,.int .i64 n,.int .i64 0,.int .i64 0]);have HS2':=zz (HS2.out.keep (below_new w2 (.cells #[.int .i64 k,.string t,.int .i64 n,.int .i64 0,.int .i64 0] 53)))
                 clear hb)
              | (go_at_call 53
                 refine (at_any HS2'.out.sc (by omega) (by omega) (by omega)).mono ?_;rintro e w3 ⟨rfl,hb⟩;rw [HCOL.out];have HS3:=zz (HS2'.out.keep hb);have HT3:=zz (HT2.out.keep hb)
                 have hz2:w.heap.size+2≤w2.heap.size:=by have :=Bo.lt HS2.out.sc;omega
                 have HNE:Hid (out.ownBlock≠some w2.heap.size):=zz (fun e=>by have :=(HS2.out.own.lt _ e).2;omega)
                 have f3:=HT3.out.frozen 3;have f4:=HT3.out.frozen 4;have c33:=HT3.out.cell (j:=3) rfl;have c34:=HT3.out.cell (j:=4) rfl;have HS4:=zz ((HS3.out.other hz2 HNE.out 3 (.int .i64 l)).other hz2 HNE.out 4 (.int .i64 col));have HT4:Hid (Bo ((w3.setCell ⟨w2.heap.size,3,none⟩ (.int .i64 l)).setCell ⟨w2.heap.size,4,none⟩ (.int .i64 col)) w2.heap.size 53 #[.int .i64 k,.string t,.int .i64 n,.int .i64 l,.int .i64 col]):=zz ((HT3.out.set 3 (.int .i64 l)).set 4 (.int .i64 col))
                 clear hb))
            have HFIT:=zz (tok_fits hlt HTOK.out);have HTS5:Hid (ts.length≤100000):=zz (by omega);have HTS6:Hid ((ts++[(⟨1,str [],0,l,col⟩:Tok)]).length≤100000):=zz (by rw [List.length_append];simp;omega);clear c33 c34 f3 f4 c0 c1 c2 c3 c4;obtain ⟨d0,d1,d2,d3,d4⟩:=HT4.out.t5;obtain ⟨g0,g1,g2,g3,g4⟩:=HS4.out.sc.c5;have g4':=(HS4.out.keep (below_new _ (.cells #[.int .i64 1,.string ⟨#[]⟩,.int .i64 0,.int .i64 l,.int .i64 col] 53))).sc.c5.2.2.2.2
            go_region_law (refine step_app_ex (by rfl) (.tmp 46) (.tmp 50) (by rfl) (by rfl) (by rfl) (HS4.out.app ⟨1,str [],0,l,col⟩ rfl HTS5.out (size_set2 _ _ _ _ _) _ ⟨rfl,rfl,rfl,rfl⟩) ?_;rintro v' w5 ⟨⟨va5,vc5,rfl⟩,cq5,fq5,h5,hz5,hk5⟩;have HS5:=zz h5;have HK5:=zz (hk5 w2.heap.size);clear h5 hk5)
            all_goals
              obtain ⟨hbt5,hne5⟩:=HK5.out _ HT4.out HNE.out (by omega);have HB5:=zz hbt5;have HN5:=zz hne5;clear hbt5 hne5 d0 d1 d2 d3 d4 g0 g1 g2 g3 g4 g4' cq5 fq5
              go_wp2
            all_goals
              obtain ⟨d0,d1,d2,d3,d4⟩:=HB5.out.t5;obtain ⟨g0,g1,g2,g3,g4⟩:=HS5.out.sc.c5;have g4':=(HS5.out.keep (below_new _ (.cells #[.int .i64 k,.string t,.int .i64 n,.int .i64 l,.int .i64 col] 53))).sc.c5.2.2.2.2
              go_region_law (refine step_app_ex (by rfl) (.tmp 58) (.tmp 60) (by rfl) (by rfl) (by rfl) (HS5.out.app ⟨k,t,n,l,col⟩ (m:=ts.length+1) (List.length_append ..) HTS6.out (size_set1 _ _ _) _ ⟨rfl,rfl,rfl,rfl⟩) ?_;rintro v' w6 ⟨⟨va6,vc6,rfl⟩,cq6,fq6,h6,hz6,hk6⟩;have HS6:=zz h6;have HK6:=zz (hk6 w2.heap.size);clear h6 hk6)
            all_goals
              obtain ⟨hbt6,hne6⟩:=HK6.out _ HB5.out HN5.out (by omega);have HS7:=zz (HS6.out.setI (i+t.size)).dr;clear d0 d1 d2 d3 d4 g0 g1 g2 g3 g4 g4' cq6 fq6;obtain ⟨d0,d1,d2,d3,d4⟩:=hbt6.t5;obtain ⟨g0,g1,g2,g3,g4⟩:=HS6.out.sc.c5;have fq1:=Bo.frozen HS6.out.sc 1
              have hsum:(i:Int)+(t.size:Int)≤1000000:=by have :=HFIT.out;omega
              clear hbt6 hne6
              go_wp2
              go_region
              all_goals go_wp2_with (first
                | (go_at_call 51
                   refine (skip_any (i+t.size) l f ⟨HS7.out.sc,Far.refl _ _,HFIT.out,by omega,by omega,rfl⟩ hs).mono ?_;rintro e w8 ⟨rfl,i2,l2,f2,q1,q2,q3,q4,q5,q6⟩;have HS8:=zz (HS7.out.moved q2 q1);have HDN:=zz (lx_done hlt hfi hts HALL.out HTOK.out HCC.out (by rw [if_pos HC1.out,List.append_assoc]) HS8.out q6 q3 q4 q5)
                   clear q1 q2 q3 q4 q5 q6))
            all_goals
              go_roundw
              case rel=>exact HDN.out.2
              case measure=>have h1:=HDN.out.1;have h2:=skM_eq (n:=s.size) HS8.out.sc;have h3:=skM_eq (n:=s.size) HST.out.sc;omega
          · have e4:((col:Int)==1)=false:=by rw [beq_eq_false_iff_ne];omega
            have HC1:=zz hc1;clear hc1
            go_wp2_with (first
              | (go_at_call 52
                 refine (token_any i HST.out.sc hlt hs HTOK.out).mono ?_;rintro e w2 ⟨rfl,hb⟩;have HS2:=zz (HST.out.keep hb);have HT2:=zz (Bo.new w2 53 #[.int .i64 k,.string t,.int .i64 n,.int .i64 0,.int .i64 0]);have HS2':=zz (HS2.out.keep (below_new w2 (.cells #[.int .i64 k,.string t,.int .i64 n,.int .i64 0,.int .i64 0] 53)))
                 clear hb)
              | (go_at_call 53
                 refine (at_any HS2'.out.sc (by omega) (by omega) (by omega)).mono ?_;rintro e w3 ⟨rfl,hb⟩;rw [HCOL.out];have HS3:=zz (HS2'.out.keep hb);have HT3:=zz (HT2.out.keep hb)
                 have hz2:w.heap.size+2≤w2.heap.size:=by have :=Bo.lt HS2.out.sc;omega
                 have HNE:Hid (out.ownBlock≠some w2.heap.size):=zz (fun e=>by have :=(HS2.out.own.lt _ e).2;omega)
                 have f3:=HT3.out.frozen 3;have f4:=HT3.out.frozen 4;have c33:=HT3.out.cell (j:=3) rfl;have c34:=HT3.out.cell (j:=4) rfl;have HS4:=zz ((HS3.out.other hz2 HNE.out 3 (.int .i64 l)).other hz2 HNE.out 4 (.int .i64 col));have HT4:Hid (Bo ((w3.setCell ⟨w2.heap.size,3,none⟩ (.int .i64 l)).setCell ⟨w2.heap.size,4,none⟩ (.int .i64 col)) w2.heap.size 53 #[.int .i64 k,.string t,.int .i64 n,.int .i64 l,.int .i64 col]):=zz ((HT3.out.set 3 (.int .i64 l)).set 4 (.int .i64 col))
                 clear hb))
            have HFIT:=zz (tok_fits hlt HTOK.out);have HTS5:Hid (ts.length≤100000):=zz (by omega);clear c33 c34 f3 f4 c0 c1 c2 c3 c4
            all_goals
              obtain ⟨d0,d1,d2,d3,d4⟩:=HT4.out.t5;obtain ⟨g0,g1,g2,g3,g4⟩:=HS4.out.sc.c5;have g4':=(HS4.out.keep (below_new _ (.cells #[.int .i64 k,.string t,.int .i64 n,.int .i64 l,.int .i64 col] 53))).sc.c5.2.2.2.2
              go_region_law (refine step_app_ex (by rfl) (.tmp 58) (.tmp 60) (by rfl) (by rfl) (by rfl) (HS4.out.app ⟨k,t,n,l,col⟩ rfl HTS5.out (size_set2 _ _ _ _ _) _ ⟨rfl,rfl,rfl,rfl⟩) ?_;rintro v' w6 ⟨⟨va6,vc6,rfl⟩,cq6,fq6,h6,hz6,hk6⟩;have HS6:=zz h6;have HK6:=zz (hk6 w2.heap.size);clear h6 hk6)
            all_goals
              obtain ⟨hbt6,hne6⟩:=HK6.out _ HT4.out HNE.out (by omega);have HS7:=zz (HS6.out.setI (i+t.size)).dr;clear d0 d1 d2 d3 d4 g0 g1 g2 g3 g4 g4' cq6 fq6;obtain ⟨d0,d1,d2,d3,d4⟩:=hbt6.t5;obtain ⟨g0,g1,g2,g3,g4⟩:=HS6.out.sc.c5;have fq1:=Bo.frozen HS6.out.sc 1
              have hsum:(i:Int)+(t.size:Int)≤1000000:=by have :=HFIT.out;omega
              clear hbt6 hne6
              go_wp2
              go_region
              all_goals go_wp2_with (first
                | (go_at_call 51
                   refine (skip_any (i+t.size) l f ⟨HS7.out.sc,Far.refl _ _,HFIT.out,by omega,by omega,rfl⟩ hs).mono ?_;rintro e w8 ⟨rfl,i2,l2,f2,q1,q2,q3,q4,q5,q6⟩;have HS8:=zz (HS7.out.moved q2 q1);have HDN:=zz (lx_done hlt hfi hts HALL.out HTOK.out HCC.out (by rw [if_neg HC1.out];rfl) HS8.out q6 q3 q4 q5)
                   clear q1 q2 q3 q4 q5 q6))
            all_goals
              go_roundw
              case rel=>exact HDN.out.2
              case measure=>have h1:=HDN.out.1;have h2:=skM_eq (n:=s.size) HS8.out.sc;have h3:=skM_eq (n:=s.size) HST.out.sc;omega
      · have hlt': ¬(i:Int)<(s.size:Int):=by omega
        have hie:i=s.size:=by omega
        have hcol:((i:Int) - (f:Int)+1)=((i - f+1:Nat):Int):=by omega
        obtain ⟨col,hcc⟩:∃ col,col=i - f+1:=⟨_,rfl⟩;rw [←hcc] at hcol;have HCOL:=zz hcol
        have HF:Hid (lexes s=(0,0,0,ts++[⟨0,str [],0,l,col⟩])):=zz (lexes_ok s hlong (by
          rw [←HALL.out,List.drop_eq_nil_of_le (by rw [length_data];omega),scanS_nil,hcc];rfl))
        have HTS5:Hid (ts.length≤100000):=zz (by omega);have HIE:=zz hie;clear hcol hcc hie
        go_wp2
        go_region_held3 (fun w'=>w'.cell? ⟨w.heap.size+1,4,none⟩=some out)
          (first | with_reducible assumption | exact c4 | exact HQ.out | exact HQ2.out | exact HQ3.out | (with_reducible refine cell_row_far _ ?_ (by omega);exact HQ3.out))
          (first
            | (go_at_call 53
               refine (at_any HST.out.dr.sc (by omega) (by omega) (by omega)).mono ?_;rintro e w3 ⟨rfl,hb⟩;rw [HCOL.out];have HS3:=zz (HST.out.dr.keep hb);have HQ:Hid (w3.cell? ⟨w.heap.size+1,4,none⟩=some out):=zz HS3.out.sc.c5.2.2.2.2;have HQ2:=zz (HS3.out.keep (below_new _ (.cells #[.int .i64 0,.string ⟨#[]⟩,.int .i64 0,.int .i64 l,.int .i64 col] 53))).sc.c5.2.2.2.2
               clear hb)
            | (refine step_app_ex (by rfl) (.tmp 77) (.tmp 81) (by rfl) (by rfl) (by rfl) (HS3.out.app ⟨0, str [], 0, l, col⟩ rfl HTS5.out rfl _ ⟨rfl, rfl, rfl, rfl⟩) ?_
               rintro v' w6 ⟨⟨va6,vc6,rfl⟩,cq6,fq6,_,⟨hb6,hf6,ho6⟩,_⟩;have HQ3:=zz cq6;have HB6:=zz hb6;have HF6:=zz hf6;have HO6:=zz ho6;have yf:Wr w6 w.heap.size 31 3:=hf6.wr
               clear cq6 fq6 hb6 hf6 ho6))
        all_goals go_wp2
        have HE:=zz (HF6.out.row #[.int .i64 0,.int .i64 0,.int .i64 0]).t3;have hrd:=(HO6.out.row w.heap.size #[.int .i64 0,.int .i64 0,.int .i64 0] (by omega)).form;obtain ⟨a',c',hv,_,_,hrd⟩:=hrd;simp only [List.length_append,List.length_cons,List.length_nil,Value.slice.injEq] at hv hrd;obtain ⟨rfl,_,rfl⟩:=hv;exact bodyPost_ret (v:=.tuple #[.slice va6 (ts.length+1) vc6,.agg #[.int .i64 0,.int .i64 0,.int .i64 0]]) (by simp [results,Tryz.results17,go_sem,HE.out]) rfl ⟨va6,ts.length+1,vc6,by rw [HF.out],below_setRow HB6.out (Nat.le_refl _) _,by rw [HF.out];exact hrd,by rw [HF.out];exact HO6.out.row w.heap.size #[.int .i64 0,.int .i64 0,.int .i64 0] (by omega)⟩
end
section
open Go.RowKit
attribute [local go_sem ↓] store_flt store_tok
attribute [local go_sem] stOk_flt stOk_tok stB_eq stC_eq wr_drew wr_alloc wr_row wr_drewN
def tokZ (r:List UInt8):Int × ByteArray × Int:=match tokL r with | some (k,t,n)=>(k,str t,n) | none=>(0,str [],0)
theorem tokZ_word (x:UInt8) (r:List UInt8) (h:cls x.toNat=1∨cls x.toNat=2):tokZ (x::r)=
    if isKey (str ((x::r).takeWhile partB)) then (5,str ((x::r).takeWhile partB),0) else if isWord (str ((x::r).takeWhile partB)) 1 then (2,str ((x::r).takeWhile partB),0) else if isWord (str ((x::r).takeWhile partB)) 2 then (3,str ((x::r).takeWhile partB),0) else (0,str [],0):=by
  unfold tokZ tokL;simp only [if_pos h]
  repeat' split
  all_goals simp_all
theorem tokZ_dig (x:UInt8) (r:List UInt8) (h: ¬(cls x.toNat=1∨cls x.toNat=2)) (b:cls x.toNat=3):tokZ (x::r)=if okN ((x::r).takeWhile isDig) then (4,str ((x::r).takeWhile isDig),numN ((x::r).takeWhile isDig)) else (0,str [],0):=by
  unfold tokZ tokL;simp only [if_neg h,if_pos b]
  by_cases a:okN ((x::r).takeWhile isDig)=true
  · simp only [if_pos a]
  · simp only [if_neg a]
theorem tokZ_sym (x:UInt8) (r:List UInt8) (h: ¬(cls x.toNat=1∨cls x.toNat=2)) (a:cls x.toNat≠3):tokZ (x::r)=match symbols.find? (fun y=>pre? y.data.toList (x::r)) with | some y=>(6,y,0) | none=>(0,str [],0):=by
  unfold tokZ tokL;simp only [if_neg h,if_neg a]
  cases symbols.find? (fun y=>pre? y.data.toList (x::r)) with
  | none=>rfl
  | some y=>show (6,str y.data.toList,0)=(6,y,0);rw [show str y.data.toList=y from str_eta y]
theorem part_le (c:UInt8):partB c=((decide (1≤cls c.toNat) && decide (cls c.toNat≤3)) || ((c.toNat:Int)==95)):=by
  simp only [partB,part];rw [Bool.or_comm]
theorem dig_cls (c:UInt8):isDig c=(cls c.toNat==3):=by
  rw [←inC_dig,inC];simp only [Bool.false_and,Bool.not_false,Bool.and_true];rw [Bool.eq_iff_iff];simp only [Bool.not_eq_true',Bool.or_eq_false_iff,decide_eq_false_iff_not,beq_iff_eq]
  omega
theorem rtoken_any (s:ByteArray) (i:Nat) (w:World) (hi:i<s.size) (hs:s.size≤1000000) {k n:Int} {t:ByteArray} (hv:tokZ (s.data.toList.drop i)=(k,t,n)):
    Calls Tryz.prog 61 #[.string s,.int .i64 i] w fun e w'=>e=.returned (.agg #[.int .i64 k,.string t,.int .i64 n,.int .i64 0,.int .i64 0])∧Below w.heap.size w w':=by
  have hd:s.data.toList.drop i=s[i]::s.data.toList.drop (i+1):=by
    rw [List.drop_eq_getElem_cons (by rw [length_data];exact hi)];rfl
  have HR:=zz (Bo.new w 53 #[.int .i64 0,.string ⟨#[]⟩,.int .i64 0,.int .i64 0,.int .i64 0]);have HB:Hid (Below w.heap.size w (w.alloc (.cells #[.int .i64 0,.string ⟨#[]⟩,.int .i64 0,.int .i64 0,.int .i64 0] 53))):=zz (below_new w _);have HD:=zz hd;have HV:=zz hv;clear hd hv
  by_cases h12:cls s[i].toNat=1∨cls s[i].toNat=2
  · have HW:=zz (tokZ_word s[i] (s.data.toList.drop (i+1)) h12)
    rw [←HD.out,HV.out] at HW
    have e12:((cls s[i].toNat==1)=true)∨((cls s[i].toNat==1)=false∧(cls s[i].toNat==2)=true):=by
      rcases h12 with h | h
      · exact .inl (by rw [h];rfl)
      · exact .inr ⟨by rw [h];rfl,by rw [h];rfl⟩
    clear h12
    rcases e12 with e1 | ⟨e1,e2⟩
    all_goals
      go_enter Tryz.func61,Tryz.ntmps61
      go_wp2_with (go_at_call 98;refine (rclass_any _ _).mono ?_;rintro e w' ⟨rfl,rfl⟩)
      go_loop [6] (fun n=>∃ m:Nat,i≤m∧m≤s.size∧n=.int .i64 m∧Hid (∀ j (hj:j<s.data.toList.length),i≤j→j<m→partB s.data.toList[j]=true)) (fun n=>s.size - (intOf n).toNat)
      case atStart=>exact ⟨i,Nat.le_refl _,Nat.le_of_lt hi,rfl,fun j _ h1 h2=>by omega⟩
      case round=>
        obtain ⟨m,him,hm,rfl,HN⟩:=hrel
        by_cases hgo:∃ h:m<s.size,partB s[m]=true
        · obtain ⟨hlt,hp⟩:=hgo
          have HX:Hid (∀ j (hj:j<s.data.toList.length),i≤j→j<m+1→partB s.data.toList[j]=true):=zz (fun j hj h2 h3=>by
            rcases Nat.lt_or_ge j m with h4 | h4
            · exact HN.out j hj h2 h4
            · obtain rfl:j=m:=by omega
              exact hp)
          obtain ⟨b1,e3⟩:∃ b,decide (1≤cls s[m].toNat)=b:=⟨_,rfl⟩;obtain ⟨b2,e4⟩:∃ b,decide (cls s[m].toNat≤3)=b:=⟨_,rfl⟩;obtain ⟨b3,e5⟩:∃ b,((s[m].toNat:Int)==95)=b:=⟨_,rfl⟩;rw [part_le,e3,e4,e5] at hp;have HP:=zz hp;clear hp
          cases b1 <;> cases b2 <;> cases b3
          all_goals first
            | (exact absurd HP.out (by decide))
            | (go_wp2_with (go_at_call 98 ; refine (rclass_any _ _).mono ?_; rintro e w' ⟨rfl, rfl⟩)
               go_round
               case rel=>exact ⟨m+1,by omega,by omega,by go_num,HX.out⟩
               case measure=>simp [intOf];omega)
        · have HY:Hid (s.extract i m=str ((s.data.toList.drop i).takeWhile partB)):=zz (ext_tw partB s i m him HN.out hm (fun hk=>by
            rw [length_data] at hk
            exact Bool.eq_false_iff.2 fun h=>hgo ⟨hk,h⟩))
          rw [←HY.out] at HW
          have hwl:(s.extract i m).size≤maxLen:=by
            have :=(List.takeWhile_prefix (l:=s.data.toList.drop i) partB).length_le;rw [List.length_drop,length_data] at this
            rw [HY.out,str_size];unfold maxLen;omega
          have HWL:=zz hwl;clear hwl
          have key:∀ W,Below w.heap.size w W→True:=fun _ _=>trivial
          obtain ⟨q1,hq1⟩:∃ b,isKey (s.extract i m)=b:=⟨_,rfl⟩;obtain ⟨q2,hq2⟩:∃ b,isWord (s.extract i m) 1=b:=⟨_,rfl⟩;obtain ⟨q3,hq3⟩:∃ b,isWord (s.extract i m) 2=b:=⟨_,rfl⟩;rw [hq1,hq2,hq3] at HW;have HK:=zz (fun W=>rkey_any (s.extract i m) W);have HWD:=zz (fun f W=>rword_any (s.extract i m) f W HWL.out);rw [hq1] at HK;clear hq1 key
          have hstop:(∃ h:m<s.size,decide (1≤cls (s[m]'h).toNat)=false∧(((s[m]'h).toNat:Int)==95)=false)∨(∃ h:m<s.size,decide (cls (s[m]'h).toNat≤3)=false∧(((s[m]'h).toNat:Int)==95)=false)∨ ¬m<s.size:=by
            by_cases hlt:m<s.size
            · have hp:partB s[m]=false:=Bool.eq_false_iff.2 fun h=>hgo ⟨hlt,h⟩
              rw [part_le,Bool.or_eq_false_iff,Bool.and_eq_false_iff] at hp
              rcases hp with ⟨hp | hp,h5⟩
              · exact .inl ⟨hlt,hp,h5⟩
              · exact .inr (.inl ⟨hlt,hp,h5⟩)
            · exact .inr (.inr hlt)
          clear hgo
          have hw:(q1=true∧k=5∧t=s.extract i m∧n=0)∨(q1=false∧q2=true∧k=2∧t=s.extract i m∧n=0)∨(q1=false∧q2=false∧q3=true∧k=3∧t=s.extract i m∧n=0)∨(q1=false∧q2=false∧q3=false∧k=0∧t=⟨#[]⟩∧n=0):=by
            have h:=HW.out
            cases q1 <;> cases q2 <;> cases q3 <;> simp only [if_true,if_false,Bool.false_eq_true,Prod.mk.injEq] at h <;> simp [h,str]
          clear HW
          rcases hw with ⟨rfl,rfl,rfl,rfl⟩ | ⟨rfl,rfl,rfl,rfl,rfl⟩ | ⟨rfl,rfl,rfl,rfl,rfl,rfl⟩ | ⟨rfl,rfl,rfl,rfl,rfl,rfl⟩
          · rcases hstop with ⟨hlt,hz,hz2⟩ | ⟨hlt,hz,hz2⟩ | hlt
            all_goals
              go_wp2_with (first
            | (go_at_call 98;refine (rclass_any _ _).mono ?_;rintro e w' ⟨rfl,rfl⟩)
            | (go_at_call 99;refine (HK.out _).mono ?_;rintro e w2 ⟨rfl,hb⟩;have HR2:=zz (HR.out.keep hb);have y2:Wr w2 w.heap.size 53 5:=HR2.out.wr;have HB2:Hid (Below w.heap.size w w2):=zz (HB.out.trans (hb.mono HB.out.size));clear hb)
            | (go_at_call 100 ; refine (HWD.out _ _).mono ?_; rintro e w' ⟨rfl, rfl⟩))
              all_goals have HE:=zz (HR2.out.row #[.int .i64 5,.string (s.extract i m),.int .i64 0,.int .i64 0,.int .i64 0]).t5
              all_goals exact bodyPost_ret (v:=.agg #[.int .i64 5,.string (s.extract i m),.int .i64 0,.int .i64 0,.int .i64 0]) (by simp [results,Tryz.results61,go_sem,HE.out]) rfl ⟨rfl,below_setRow HB2.out (Nat.le_refl _) _⟩
          · rcases hstop with ⟨hlt,hz,hz2⟩ | ⟨hlt,hz,hz2⟩ | hlt
            all_goals
              go_wp2_with (first
            | (go_at_call 98;refine (rclass_any _ _).mono ?_;rintro e w' ⟨rfl,rfl⟩)
            | (go_at_call 99;refine (HK.out _).mono ?_;rintro e w2 ⟨rfl,hb⟩;have HR2:=zz (HR.out.keep hb);have y2:Wr w2 w.heap.size 53 5:=HR2.out.wr;have HB2:Hid (Below w.heap.size w w2):=zz (HB.out.trans (hb.mono HB.out.size));clear hb)
            | (go_at_call 100 ; refine (HWD.out _ _).mono ?_; rintro e w' ⟨rfl, rfl⟩))
              all_goals have HE:=zz (HR2.out.row #[.int .i64 2,.string (s.extract i m),.int .i64 0,.int .i64 0,.int .i64 0]).t5
              all_goals exact bodyPost_ret (v:=.agg #[.int .i64 2,.string (s.extract i m),.int .i64 0,.int .i64 0,.int .i64 0]) (by simp [results,Tryz.results61,go_sem,HE.out]) rfl ⟨rfl,below_setRow HB2.out (Nat.le_refl _) _⟩
          · rcases hstop with ⟨hlt,hz,hz2⟩ | ⟨hlt,hz,hz2⟩ | hlt
            all_goals
              go_wp2_with (first
            | (go_at_call 98;refine (rclass_any _ _).mono ?_;rintro e w' ⟨rfl,rfl⟩)
            | (go_at_call 99;refine (HK.out _).mono ?_;rintro e w2 ⟨rfl,hb⟩;have HR2:=zz (HR.out.keep hb);have y2:Wr w2 w.heap.size 53 5:=HR2.out.wr;have HB2:Hid (Below w.heap.size w w2):=zz (HB.out.trans (hb.mono HB.out.size));clear hb)
            | (go_at_call 100 ; refine (HWD.out _ _).mono ?_; rintro e w' ⟨rfl, rfl⟩))
              all_goals have HE:=zz (HR2.out.row #[.int .i64 3,.string (s.extract i m),.int .i64 0,.int .i64 0,.int .i64 0]).t5
              all_goals exact bodyPost_ret (v:=.agg #[.int .i64 3,.string (s.extract i m),.int .i64 0,.int .i64 0,.int .i64 0]) (by simp [results,Tryz.results61,go_sem,HE.out]) rfl ⟨rfl,below_setRow HB2.out (Nat.le_refl _) _⟩
          · rcases hstop with ⟨hlt,hz,hz2⟩ | ⟨hlt,hz,hz2⟩ | hlt
            all_goals
              go_wp2_with (first
            | (go_at_call 98;refine (rclass_any _ _).mono ?_;rintro e w' ⟨rfl,rfl⟩)
            | (go_at_call 99;refine (HK.out _).mono ?_;rintro e w2 ⟨rfl,hb⟩;have HR2:=zz (HR.out.keep hb);have y2:Wr w2 w.heap.size 53 5:=HR2.out.wr;have HB2:Hid (Below w.heap.size w w2):=zz (HB.out.trans (hb.mono HB.out.size));clear hb)
            | (go_at_call 100 ; refine (HWD.out _ _).mono ?_; rintro e w' ⟨rfl, rfl⟩))
              all_goals have HE:=zz (HR2.out.row #[.int .i64 0,.string ⟨#[]⟩,.int .i64 0,.int .i64 0,.int .i64 0]).t5
              all_goals exact bodyPost_ret (v:=.agg #[.int .i64 0,.string ⟨#[]⟩,.int .i64 0,.int .i64 0,.int .i64 0]) (by simp [results,Tryz.results61,go_sem,HE.out]) rfl ⟨rfl,below_setRow HB2.out (Nat.le_refl _) _⟩
  · have e1:(cls s[i].toNat==1)=false:=by rw [beq_eq_false_iff_ne];exact fun h=>h12 (.inl h)
    have e2:(cls s[i].toNat==2)=false:=by rw [beq_eq_false_iff_ne];exact fun h=>h12 (.inr h)
    by_cases h3:cls s[i].toNat=3
    · have HW:=zz (tokZ_dig s[i] (s.data.toList.drop (i+1)) h12 h3)
      rw [←HD.out,HV.out] at HW
      have e3:(cls s[i].toNat==3)=true:=by rw [h3];rfl
      clear h12 h3;go_enter Tryz.func61,Tryz.ntmps61
      go_wp2_with (go_at_call 98;refine (rclass_any _ _).mono ?_;rintro e w' ⟨rfl,rfl⟩)
      go_loop [6] (fun n=>∃ m:Nat,i≤m∧m≤s.size∧n=.int .i64 m∧Hid (∀ j (hj:j<s.data.toList.length),i≤j→j<m→isDig s.data.toList[j]=true)) (fun n=>s.size - (intOf n).toNat)
      case atStart=>exact ⟨i,Nat.le_refl _,Nat.le_of_lt hi,rfl,fun j _ h1 h2=>by omega⟩
      case round=>
        obtain ⟨m,him,hm,rfl,HN⟩:=hrel
        by_cases hgo:∃ h:m<s.size,isDig s[m]=true
        · obtain ⟨hlt,hp⟩:=hgo
          have HX:Hid (∀ j (hj:j<s.data.toList.length),i≤j→j<m+1→isDig s.data.toList[j]=true):=zz (fun j hj h2 h3=>by
            rcases Nat.lt_or_ge j m with h4 | h4
            · exact HN.out j hj h2 h4
            · obtain rfl:j=m:=by omega
              exact hp)
          rw [dig_cls] at hp
          go_wp2_with (go_at_call 98;refine (rclass_any _ _).mono ?_;rintro e w' ⟨rfl,rfl⟩)
          go_round
          case rel=>exact ⟨m+1,by omega,by omega,by go_num,HX.out⟩
          case measure=>simp [intOf];omega
        · have HY:Hid (s.extract i m=str ((s.data.toList.drop i).takeWhile isDig)):=zz (ext_tw isDig s i m him HN.out hm (fun hk=>by
            rw [length_data] at hk
            exact Bool.eq_false_iff.2 fun h=>hgo ⟨hk,h⟩))
          have hyl:(s.data.toList.drop i).takeWhile isDig=(s.extract i m).data.toList:=by rw [HY.out,str_data]
          rw [←HY.out,hyl] at HW
          have hwl:(s.extract i m).size≤maxLen:=by
            have :=(List.takeWhile_prefix (l:=s.data.toList.drop i) isDig).length_le;rw [List.length_drop,length_data] at this
            rw [HY.out,str_size];unfold maxLen;omega
          have HNB:=zz (fun W=>rnumber_any (s.extract i m) W hwl);obtain ⟨q1,hq1⟩:∃ b,okN (s.extract i m).data.toList=b:=⟨_,rfl⟩;obtain ⟨v,hv⟩:∃ b,numN (s.extract i m).data.toList=b:=⟨_,rfl⟩;rw [hq1,hv] at HW HNB
          have hstop:(∃ h:m<s.size,(cls (s[m]'h).toNat==3)=false)∨ ¬m<s.size:=by
            by_cases hlt:m<s.size
            · have hp:isDig s[m]=false:=Bool.eq_false_iff.2 fun h=>hgo ⟨hlt,h⟩
              rw [dig_cls] at hp;exact .inl ⟨hlt,hp⟩
            · exact .inr hlt
          have hw:(q1=true∧k=4∧t=s.extract i m∧n=v)∨(q1=false∧k=0∧t=⟨#[]⟩∧n=0):=by
            have h:=HW.out
            cases q1 <;> simp only [if_true,if_false,Bool.false_eq_true,Prod.mk.injEq] at h <;> simp [h,str]
          clear HW hgo hq1 hv hyl hwl
          rcases hw with ⟨rfl,rfl,rfl,rfl⟩ | ⟨rfl,rfl,rfl,rfl⟩
          · rcases hstop with ⟨hlt,hz⟩ | hlt
            all_goals
              go_wp2_with (first
                | (go_at_call 98;refine (rclass_any _ _).mono ?_;rintro e w' ⟨rfl,rfl⟩)
                | (go_at_call 101;refine (HNB.out _).mono ?_;rintro e w2 ⟨rfl,hb⟩;have HR2:=zz (HR.out.keep hb);have y2:Wr w2 w.heap.size 53 5:=HR2.out.wr;have HB2:Hid (Below w.heap.size w w2):=zz (HB.out.trans (hb.mono HB.out.size));clear hb))
              have HE:=zz (HR2.out.row #[.int .i64 4,.string (s.extract i m),.int .i64 n,.int .i64 0,.int .i64 0]).t5;exact bodyPost_ret (v:=.agg #[.int .i64 4,.string (s.extract i m),.int .i64 n,.int .i64 0,.int .i64 0]) (by simp [results,Tryz.results61,go_sem,HE.out]) rfl ⟨rfl,below_setRow HB2.out (Nat.le_refl _) _⟩
          · rcases hstop with ⟨hlt,hz⟩ | hlt
            all_goals
              go_wp2_with (first
                | (go_at_call 98;refine (rclass_any _ _).mono ?_;rintro e w' ⟨rfl,rfl⟩)
                | (go_at_call 101;refine (HNB.out _).mono ?_;rintro e w2 ⟨rfl,hb⟩;have HR2:=zz (HR.out.keep hb);have y2:Wr w2 w.heap.size 53 5:=HR2.out.wr;have HB2:Hid (Below w.heap.size w w2):=zz (HB.out.trans (hb.mono HB.out.size));clear hb))
              have HE:=zz (HR2.out.row #[.int .i64 0,.string ⟨#[]⟩,.int .i64 0,.int .i64 0,.int .i64 0]).t5;exact bodyPost_ret (v:=.agg #[.int .i64 0,.string ⟨#[]⟩,.int .i64 0,.int .i64 0,.int .i64 0]) (by simp [results,Tryz.results61,go_sem,HE.out]) rfl ⟨rfl,below_setRow HB2.out (Nat.le_refl _) _⟩
    · have HW:=zz (tokZ_sym s[i] (s.data.toList.drop (i+1)) h12 h3)
      rw [←HD.out,HV.out] at HW
      have e3:(cls s[i].toNat==3)=false:=by rw [beq_eq_false_iff_ne];exact h3
      clear h12 h3;go_enter Tryz.func61,Tryz.ntmps61
      go_wp2_with (first
        | (go_at_call 98;refine (rclass_any _ _).mono ?_;rintro e w' ⟨rfl,rfl⟩)
        | (go_at_call 102
           refine (rsymbols_any _).mono ?_;rintro e ws ⟨rfl,hw⟩;have HRs:=zz (hw ▸ Bo.alloc HR.out (.cells (strs symbols).toArray 9));have HBs:Hid (Below w.heap.size w ws):=zz (hw ▸ HB.out.alloc HB.out.size _);have HRD:Hid (Rd (w.heap.size+1+1) ws (some ⟨w.heap.size+1,0,none⟩) 11 11 1 (strs symbols)):=zz (sym_rd hw (World.size_alloc w _))
           clear hw))
      have y2:Wr ws w.heap.size 53 5:=HRs.out.wr
      go_loop [11,100] (fun _ j=>∃ m:Nat,m≤11∧j=.int .i64 m∧Hid (∀ x (hx:x<symbols.length),x<m→pre? symbols[x].data.toList (s.data.toList.drop i)=false)) (fun _ j=>11 - (intOf j).toNat)
      case atStart=>exact ⟨0,Nat.zero_le _,rfl,fun m _ h0=>by omega⟩
      case round=>
        obtain ⟨m,hm,rfl,HN⟩:=hrel
        by_cases hlt:m<11
        · obtain ⟨ab,ao,hae,hl,hc⟩:=HRD.out.strAt m hlt
          cases hae;obtain ⟨sy,hsy⟩:∃ sy,symbols[m]=sy:=⟨_,rfl⟩;rw [hsy] at hc;simp only [Nat.zero_add] at hc
          have hlt':(m:Int)<11:=by omega
          have hsl:sy.size≤1000:=by
            have hmem:sy∈symbols:=hsy ▸ List.getElem_mem hl;simp only [symbols,List.mem_cons,List.not_mem_nil,or_false] at hmem
            rcases hmem with rfl | rfl | rfl | rfl | rfl | rfl | rfl | rfl | rfl | rfl | rfl <;> decide
          have HST:=zz (fun W=>rbegins_any s sy i W (Nat.le_of_lt hi) hs hsl)
          cases hb:pre? sy.data.toList (s.data.toList.drop i) with
          | true =>
            rw [hb] at HST
            have hf:symbols.find? (fun y=>pre? y.data.toList (s.data.toList.drop i))=some sy:=by
              rw [←hsy,List.find?_eq_some_iff_getElem];refine ⟨by rw [hsy];exact hb,m,hl,rfl,fun x hx=>?_⟩
              rw [HN.out x (by omega) hx];rfl
            have hv:=HW.out;rw [hf] at hv;simp only [Prod.mk.injEq] at hv;obtain ⟨h1,h2,h3⟩:=hv;subst h1;subst h2;subst h3;clear hf hb hsy hsl
            go_wp2_with (go_at_call 60;refine (HST.out _).mono ?_;rintro e w' ⟨rfl,rfl⟩)
            have HE:=zz (HRs.out.row #[.int .i64 6,.string t,.int .i64 0,.int .i64 0,.int .i64 0]).t5;exact bodyPost_ret (v:=.agg #[.int .i64 6,.string t,.int .i64 0,.int .i64 0,.int .i64 0]) (by simp [results,Tryz.results61,go_sem,HE.out]) rfl ⟨rfl,below_setRow HBs.out (Nat.le_refl _) _⟩
          | false =>
            rw [hb] at HST
            have HN2:Hid (∀ x (hx:x<symbols.length),x<m+1→pre? symbols[x].data.toList (s.data.toList.drop i)=false):=zz (fun x hx h1=>by
              rcases Nat.lt_or_ge x m with h2 | h2
              · exact HN.out x hx h2
              · obtain rfl:x=m:=by omega
                rw [hsy];exact hb)
            clear hb hsy hsl
            go_wp2_with (go_at_call 60;refine (HST.out _).mono ?_;rintro e w' ⟨rfl,rfl⟩)
            go_round
            case rel=>exact ⟨m+1,by omega,by go_num,HN2.out⟩
            case measure=>simp [intOf];omega
        · have hk:m=11:=by omega
          subst hk
          have hf:symbols.find? (fun y=>pre? y.data.toList (s.data.toList.drop i))=none:=by
            rw [List.find?_eq_none];intro y hy;obtain ⟨x,hx,rfl⟩:=List.getElem_of_mem hy
            rw [HN.out x hx hx];decide
          have hv:=HW.out;rw [hf] at hv;simp only [Prod.mk.injEq] at hv;obtain ⟨h1,h2,h3⟩:=hv;subst h1;subst h2;subst h3;clear hf
          go_wp2
          have HE:=zz (HRs.out.row #[.int .i64 0,.string ⟨#[]⟩,.int .i64 0,.int .i64 0,.int .i64 0]).t5;exact bodyPost_ret (v:=.agg #[.int .i64 0,.string ⟨#[]⟩,.int .i64 0,.int .i64 0,.int .i64 0]) (by simp [results,Tryz.results61,go_sem,HE.out]) rfl ⟨rfl,below_setRow HBs.out (Nat.le_refl _) _⟩
end
section
open Go.RowKit
theorem store_pos {b:Option Nat} {f:TypeId} {pos:String} {d:Array Edge} {e:Option (Nat × Bool)} {x y:Operand} {a:Act} {w:World} {K:Act→World→Prop} {Q:Exit→Act→World→Prop} (h:StOk 29 2 w (a.eval x) (a.eval y)):
    Oper.wp Tryz.prog { dst:=b,op:=.store 29 x y,type:=f,pos:=pos,after:=d,guard:=e } a w K Q=K (a.put b undef) (w.setRow (stB (a.eval x)) (stC (a.eval y))):=wp_store_T rfl (by kernel_rfl) h
theorem stOk_pos {w:World} {g:Nat} {l c:Int} :StOk 29 2 w (.pointer (some ⟨g,0,none⟩)) (.agg #[.int .i64 l,.int .i64 c])=Wr w g 29 2:=stOk_eq rfl (by simp [Value.oneCell'])
attribute [local go_sem ↓] store_tok store_pos
attribute [local go_sem] stOk_tok stOk_pos stB_eq stC_eq wr_drew wr_alloc wr_row wr_drewN
theorem wpList_app_ex {P:Program} {d:Array Oper} {rest:List Oper} {o:Oper} {a:Act} {w:World} {Q:Exit→Act→World→Prop} {e f:Value} {ts:Array TypeId} {R:Value→World→Prop} (m:o.guard=none) (s x:Operand)
    (p:o.op=.call { callee:=.builtin .append,args:=#[s,x],argTypes:=ts }) (r:a.eval s=e) (t:a.eval x=f) (q:∃ v b,(Builtin.append_ ts o.type #[e,f]).run P w=.ok v b∧R v b) (h:∀ v b,R v b→wpList P d Q rest (a.put o.dst v) b):wpList P d Q (o::rest) a w:=by
  obtain ⟨v,b,g,i⟩:=q
  exact wpList_plain m fun _ j=>wp_app_eq s x p r t g (j _ _ (h v b i))
theorem Bo.t2 {w:World} {q:Nat} {t:TypeId} {a b:Value} (h:Bo w q t #[a,b]):w.cell? ⟨q,0,none⟩=some a∧w.cell? ⟨q,1,none⟩=some b:=⟨h.cell rfl,h.cell rfl⟩
structure RxSt (w0:World) (out:Value) (w:World) (ts:List Tok):Prop where
  bel:Below w0.heap.size w0 w
  res:Bo w w0.heap.size 29 #[.int .i64 0,.int .i64 0]
  own:OwnT (w0.heap.size+1) w out ts
theorem RxSt.keep {d:World} {out:Value} {w b:World} {ts:List Tok} (h:RxSt d out w ts) (a:Below w.heap.size w b):RxSt d out b ts:=⟨h.bel.trans (a.mono h.bel.size),h.res.keep a,h.own.keep a⟩
theorem RxSt.dr {a:World} {out:Value} {w:World} {ts:List Tok} (h:RxSt a out w ts):RxSt a out w.drew ts:=⟨Below.drew h.bel,h.res,h.own⟩
theorem RxSt.other {b:World} {out:Value} {w:World} {ts:List Tok} (h:RxSt b out w ts) {a:Nat} (f:b.heap.size+1≤a) (e:out.ownBlock≠some a) (j:Nat) (v:Value):RxSt b out (w.setCell ⟨a,j,none⟩ v) ts:=
  ⟨h.bel.setCell (p:=⟨a,j,none⟩) (by show b.heap.size≤a;omega) v,h.res.far j v (by omega),h.own.grown (grownBy_setCell w a j v) (fun k d=>by injection d with d;subst d;exact e)⟩
theorem RxSt.app {w0:World} {out:Value} {W:World} {ts:List Tok} (h:RxSt w0 out W ts) (t:Tok) {m:Nat} (hm:ts.length=m) (hts:ts.length≤100000) {G:Nat} (hG:W.heap.size=G):
    ∃ v' w', (Builtin.append_ #[46, 46] 46 #[out, .slice (some ⟨G, 0, none⟩) 1 1]).run Tryz.prog (W.alloc (.cells (tokR t).toArray 53)) = .ok v' w' ∧ ((∃ a c, v' = .slice a (m + 1) c) ∧ RxSt w0 v' w' (ts ++ [t]) ∧
      ∀ tb ty cs,Bo W tb ty cs→out.ownBlock≠some tb→Bo w' tb ty cs∧v'.ownBlock≠some tb):=by
  subst hG;subst hm;have hx:=h.keep (below_new W (.cells (tokR t).toArray 53));have hb0:=h.bel.size;have hrl:=Bo.lt h.res;obtain ⟨v',w',hr,ho,hg,hy⟩:=app_tok (t:=t) (g:=W.heap.size) 46 hx.own (fun j u hu=>(Bo.new W 53 (tokR t).toArray).cell (by simpa using hu)) hts (by rw [World.size_alloc];omega);have hob:=hx.own.lt
  refine ⟨v',w',hr,(by obtain ⟨a,c,e,_⟩:=ho.form;exact ⟨a,c,by rw [e,List.length_append];rfl⟩),⟨grown_below hx.bel hg (Nat.le_refl _) (fun k hk=>by have :=(hob k hk).1;omega),Bo.grown hx.res hg (fun k hk e=>by have :=(hob k hk).1;omega),ho⟩,fun tb ty cs hb hne=>⟨Bo.grown (hb.alloc _) hg (fun k hk e=>hne (by rw [hk,e])),fun e=>?_⟩⟩
  rcases hy with hy | hy
  · exact hne (hy ▸ e)
  · have :=hy _ e;have :=hb.lt;rw [World.size_alloc] at *; omega
theorem tokZ_tok {r:List UInt8} {k n:Int} {t:ByteArray} (h:tokZ r=(k,t,n)) (f:k≠0):tokL r=some (k,t.data.toList,n):=by
  unfold tokZ at h
  split at h
  · rename_i g j i a
    simp only [Prod.mk.injEq] at h;obtain ⟨b,d,e⟩:=h;subst b;subst e;rw [a, ←d,str_data]
  · simp only [Prod.mk.injEq] at h
    exact absurd h.1.symm f
theorem tokZ_no {r:List UInt8} {k n:Int} {t:ByteArray} (h:tokZ r=(k,t,n)) (b:k=0):tokL r=none:=by
  unfold tokZ at h
  split at h
  · rename_i d f e a
    have :=(tokL_pre a).2.2;simp only [Prod.mk.injEq] at h
    omega
  · assumption
theorem rx_next {s:ByteArray} {i l c:Nat} {ts:List Tok} {k n:Int} {t:ByteArray} (a:addT ts (scanS (s.data.toList.drop i) l c)=scanB false s.data.toList 1 1) (b:tokL (s.data.toList.drop i)=some (k,t.data.toList,n)):
    addT (ts++((if c=1 then [(⟨1,str [],0,l,c⟩:Tok)] else [])++[⟨k,t,n,l,c⟩])) (scanB false (s.data.toList.drop (i+t.size)) l (c+t.size))=scanB false s.data.toList 1 1:=by
  rw [←a,scanS_tok _ _ b,addT_add,List.drop_drop,length_data,show str t.data.toList=t from str_eta t]
theorem rscan_any (s:ByteArray) (w:World) (hs:s.size≤1000000):
    Calls Tryz.prog 24 #[.string s] w fun e w'=>∃ a n cap,e=.returned (.tuple #[.slice a n cap,.int .i64 (lexes s).1,.agg #[.int .i64 (lexes s).2.1,.int .i64 (lexes s).2.2.1]])∧Below w.heap.size w w'∧Rd w'.heap.size w' a n cap 5 (tokVs (lexes s).2.2.2):=by
  by_cases hlong:4096<s.size
  · rw [lexes_long s hlong]
    have e1:decide ((4096:Int)<(s.size:Int))=true:=by rw [decide_eq_true_eq];omega
    go_enter Tryz.func24,Tryz.ntmps24
    go_wp2
    exact bodyPost_ret (v:=.tuple #[.slice none 0 0,.int .i64 11,.agg #[.int .i64 0,.int .i64 0]]) (by simp [results,Tryz.results24,go_sem]) rfl ⟨none,0,0,rfl,below_new _ _,rfl,Nat.le_refl _,by decide,.inl rfl⟩
  · have e1:decide ((4096:Int)<(s.size:Int))=false:=by rw [decide_eq_false_iff_not];omega
    have HS0:Hid (RxSt w (.slice none 0 0) (w.alloc (.cells #[.int .i64 0,.int .i64 0] 29)) []):=zz ⟨below_new _ _,Bo.new w 29 _,OwnT.nil _ _⟩;go_enter Tryz.func24,Tryz.ntmps24
    go_wp2
    go_loopw [5,6,7,8,9,10] (fun o ln cl ii _ _ wr=>∃ (i l c:Nat) (ts:List Tok),i≤s.size∧l≤i+1∧c≤i+1∧ts.length≤2 * i∧ii=.int .i64 i∧ln=.int .i64 l∧cl=.int .i64 c∧(∃ a cp,o=.slice a ts.length cp)∧Hid (RxSt w o wr ts)∧Hid (addT ts (scanB false (s.data.toList.drop i) l c)=scanB false s.data.toList 1 1)) (fun _ _ _ ii _ _ _=>s.size - (intOf ii).toNat)
    case atStart=>exact ⟨0,1,1,[],Nat.zero_le _,Nat.le_refl _,Nat.le_refl _,Nat.zero_le _,rfl,rfl,rfl,⟨none,0,rfl⟩,HS0,rfl⟩
    case round=>
      clear HS0;obtain ⟨i,l,c,ts,hi,hl,hc,hts,rfl,rfl,rfl,⟨oa,ocp,rfl⟩,HST,HALL⟩:=hrel
      by_cases hlt:i<s.size
      · have hlt':(i:Int)<(s.size:Int):=by omega
        have hd:s.data.toList.drop i=s[i]::s.data.toList.drop (i+1):=by
          rw [List.drop_eq_getElem_cons (by rw [length_data];exact hlt)];rfl
        have HD:=zz hd;clear hd
        by_cases h10:s[i]=10
        · have g1:((s[i].toNat:Int)==10)=true:=by rw [h10];rfl
          have HN:Hid (addT ts (scanB false (s.data.toList.drop (i+1)) (l+1) 1)=scanB false s.data.toList 1 1):=zz (by rw [←HALL.out,HD.out,h10,scanB_nl]);clear h10
          go_wp2
          go_roundw
          case rel=>exact ⟨i+1,l+1,1,ts,by omega,by omega,by omega,by omega,by go_num,by go_num,rfl,⟨_,_,rfl⟩,HST,HN⟩
          case measure=>simp [intOf];omega
        · have g1:((s[i].toNat:Int)==10)=false:=by rw [beq_eq_false_iff_ne];exact fun e=>h10 (UInt8.toNat_inj.1 (by show s[i].toNat=10;omega))
          by_cases h32:s[i]=32
          · have g2:((s[i].toNat:Int)==32)=true:=by rw [h32];rfl
            have HN:Hid (addT ts (scanB false (s.data.toList.drop (i+1)) l (c+1))=scanB false s.data.toList 1 1):=zz (by rw [←HALL.out,HD.out,h32,scanB_sp]);clear h32 h10
            go_wp2
            go_roundw
            case rel=>exact ⟨i+1,l,c+1,ts,by omega,by omega,by omega,by omega,by go_num,rfl,by go_num,⟨_,_,rfl⟩,HST,HN⟩
            case measure=>simp [intOf];omega
          · have g2:((s[i].toNat:Int)==32)=false:=by rw [beq_eq_false_iff_ne];exact fun e=>h32 (UInt8.toNat_inj.1 (by show s[i].toNat=32;omega))
            have HSTARTS:=zz (fun W=>rbegins_any s ⟨#[45,45]⟩ i W (Nat.le_of_lt hlt) hs (by decide))
            cases hpre:pre? [45,45] (s.data.toList.drop i) with
            | true =>
              rw [show (⟨#[45,45]⟩:ByteArray).data.toList=[45,45] from rfl,hpre] at HSTARTS
              have HC:Hid (addT ts (scanB true (s.data.toList.drop i) l c)=scanB false s.data.toList 1 1):=zz (by
                rw [←HALL.out];rw [HD.out] at hpre;obtain ⟨hx,hy⟩:=(pre_two _ _).1 hpre;rw [HD.out]
                cases hr:s.data.toList.drop (i+1) with
                | nil=>rw [hr] at hy;cases hy
                | cons y r =>
                  rw [hr] at hy
                  have hy':y=45:=by simpa using hy
                  rw [hx,hy',scanB_rem])
              clear hpre
              go_wp2_with (go_at_call 60;refine (HSTARTS.out _).mono ?_;rintro e w' ⟨rfl,rfl⟩)
              go_loop [7,8] (fun cl ii=>∃ j cc:Nat,(j=i∨i<j)∧j≤s.size∧cc≤j+1∧ii=.int .i64 j∧cl=.int .i64 cc∧Hid (addT ts (scanB true (s.data.toList.drop j) l cc)=scanB false s.data.toList 1 1)) (fun _ ii=>s.size - (intOf ii).toNat)
              case atStart=>exact ⟨i,c,.inl rfl,hi,hc,rfl,rfl,HC⟩
              case round=>
                obtain ⟨j,cc,hji,hj,hcc,rfl,rfl,HJ⟩:=hrel
                by_cases hjl:j<s.size
                · have hjl':(j:Int)<(s.size:Int):=by omega
                  have hdj:s.data.toList.drop j=s[j]::s.data.toList.drop (j+1):=by
                    rw [List.drop_eq_getElem_cons (by rw [length_data];exact hjl)];rfl
                  by_cases hn:s[j]=10
                  · have g3:((s[j].toNat:Int)==10)=true:=by rw [hn];rfl
                    have g3':((s[j].toNat:Int) != 10)=false:=by rw [bne,g3];rfl
                    have hij:i<j:=by
                      rcases hji with h | h
                      · subst h;exact absurd hn h10
                      · exact h
                    have HN:Hid (addT ts (scanB false (s.data.toList.drop j) l cc)=scanB false s.data.toList 1 1):=zz (by rw [←HJ.out,hdj,hn,scanB_nl,scanB_nl]);clear hn hdj h10 h32
                    go_wp2
                    go_roundw
                    case rel=>exact ⟨j,l,cc,ts,by omega,by omega,by omega,by omega,rfl,rfl,rfl,⟨_,_,rfl⟩,HST,HN⟩
                    case measure=>simp [intOf];omega
                  · have g3:((s[j].toNat:Int)==10)=false:=by rw [beq_eq_false_iff_ne];exact fun e=>hn (UInt8.toNat_inj.1 (by show s[j].toNat=10;omega))
                    have g3':((s[j].toNat:Int) != 10)=true:=by rw [bne,g3];rfl
                    have HN:Hid (addT ts (scanB true (s.data.toList.drop (j+1)) l (cc+1))=scanB false s.data.toList 1 1):=zz (by rw [←HJ.out,hdj,scanB_on _ _ _ _ hn]);clear hn hdj h10 h32
                    go_wp2
                    go_round
                    case rel=>exact ⟨j+1,cc+1,by omega,by omega,by omega,by go_num,by go_num,HN⟩
                    case measure=>simp [intOf];omega
                · have hjl': ¬(j:Int)<(s.size:Int):=by omega
                  have HN:Hid (addT ts (scanB false (s.data.toList.drop j) l cc)=scanB false s.data.toList 1 1):=zz (by rw [←HJ.out,List.drop_eq_nil_of_le (by rw [length_data];omega),scanB_out])
                  have hij:i<j:=by omega
                  go_wp2
                  go_roundw
                  case rel=>exact ⟨j,l,cc,ts,by omega,by omega,by omega,by omega,rfl,rfl,rfl,⟨_,_,rfl⟩,HST,HN⟩
                  case measure=>simp [intOf];omega
            | false =>
              rw [show (⟨#[45,45]⟩:ByteArray).data.toList=[45,45] from rfl,hpre] at HSTARTS
              have HAT:Hid (addT ts (scanS (s.data.toList.drop i) l c)=scanB false s.data.toList 1 1):=zz (by
                rw [←HALL.out,scanB_at];rw [HD.out];refine skipG_here _ _ h10 h32 (fun hh=>?_);rw [HD.out,(pre_two _ _).2 hh] at hpre
                cases hpre)
              obtain ⟨k,t,n,htok⟩:∃ k t n,tokZ (s.data.toList.drop i)=(k,t,n):=⟨_,_,_,rfl⟩;have HTOK:=zz htok;clear hpre h10 h32 htok HALL
              by_cases hk0:k=0
              · have g3:(k==0)=true:=by rw [beq_iff_eq];exact hk0
                have HF:Hid (lexes s=(1,(l:Int),(c:Int),[])):=zz (lexes_bad s hlong (by rw [←HAT.out,scanS_bad _ _ (List.ne_nil_of_length_pos (by rw [List.length_drop,length_data];omega)) (tokZ_no HTOK.out hk0)];rfl));clear hk0
                go_wp2_with (first
                  | (go_at_call 60;refine (HSTARTS.out _).mono ?_;rintro e w' ⟨rfl,rfl⟩)
                  | (go_at_call 61
                     refine (rtoken_any s i _ hlt hs HTOK.out).mono ?_;rintro e w2 ⟨rfl,hb⟩;have HS2:=zz (HST.out.keep hb);have HS2':=zz ((HS2.out.keep (below_new w2 (.cells #[.int .i64 k,.string t,.int .i64 n,.int .i64 0,.int .i64 0] 53))).keep (below_new _ (.cells #[.int .i64 l,.int .i64 c] 29)));have yr:Wr ((w2.alloc (.cells #[.int .i64 k,.string t,.int .i64 n,.int .i64 0,.int .i64 0] 53)).alloc (.cells #[.int .i64 l,.int .i64 c] 29)) w.heap.size 29 2:=HS2'.out.res.wr
                     clear hb))
                go_region
                all_goals go_wp2
                have HE:=zz ((Bo.drew HS2'.out.res).row #[.int .i64 l,.int .i64 c]).t2;refine bodyPost_ret (v:=.tuple #[.slice none 0 0,.int .i64 1,.agg #[.int .i64 l,.int .i64 c]]) (by simp [results,Tryz.results24,go_sem,HE.out]) rfl ⟨none,0,0,by rw [HF.out],?_,?_⟩;· exact below_setRow (Below.drew HS2'.out.bel) (Nat.le_refl _) _
                · rw [HF.out];exact ⟨rfl,Nat.le_refl _,by decide,.inl rfl⟩
              · have g3:(k==0)=false:=by rw [beq_eq_false_iff_ne];exact hk0
                have HNX:=zz (rx_next HAT.out (tokZ_tok HTOK.out hk0));have hpos:=(tokL_pre (tokZ_tok HTOK.out hk0)).1;have hfit:=(tokL_pre (tokZ_tok HTOK.out hk0)).2.1.length_le;rw [length_data] at hpos;rw [List.length_drop,length_data,length_data] at hfit;have HTS5:Hid (ts.length≤100000):=zz (by omega);have HTS6:Hid ((ts++[(⟨1,str [],0,l,c⟩:Tok)]).length≤100000):=zz (by rw [List.length_append];simp;omega)
                have hsum:(i:Int)+(t.size:Int)≤1000000:=by omega
                have hsum2:(c:Int)+(t.size:Int)≤2000000:=by omega
                have tok1:True:=trivial;clear hk0
                by_cases hc1:c=1
                · have g4:((c:Int)==1)=true:=by rw [beq_iff_eq];omega
                  have hnx:=HNX.out;rw [if_pos hc1, ←List.append_assoc] at hnx;have HNY:=zz hnx;clear hc1 hnx
                  go_wp2_with (first
                    | (go_at_call 60;refine (HSTARTS.out _).mono ?_;rintro e w' ⟨rfl,rfl⟩)
                    | (go_at_call 61
                       refine (rtoken_any s i _ hlt hs HTOK.out).mono ?_;rintro e w2 ⟨rfl,hb⟩;have HS2:=zz (HST.out.keep hb)
                       have hz2:w.heap.size+1≤w2.heap.size:=by have :=Bo.lt HS2.out.res;omega
                       have HNE:Hid ((Value.slice oa ts.length ocp).ownBlock≠some w2.heap.size):=zz (fun e=>by have :=(HS2.out.own.lt _ e).2;omega)
                       have HS3:Hid (RxSt w (.slice oa ts.length ocp) ((w2.alloc (.cells #[.int .i64 k,.string t,.int .i64 n,.int .i64 l,.int .i64 c] 53)).alloc (.cells #[.int .i64 l,.int .i64 c] 29)) ts):=zz ((HS2.out.keep (below_new w2 _)).keep (below_new _ _));have HT3:Hid (Bo ((w2.alloc (.cells #[.int .i64 k,.string t,.int .i64 n,.int .i64 l,.int .i64 c] 53)).alloc (.cells #[.int .i64 l,.int .i64 c] 29)) w2.heap.size 53 #[.int .i64 k,.string t,.int .i64 n,.int .i64 l,.int .i64 c]):=zz ((Bo.new w2 53 _).alloc _)
                       have hz3:(((w2.alloc (.cells #[.int .i64 k,.string t,.int .i64 n,.int .i64 l,.int .i64 c] 53)).alloc (.cells #[.int .i64 l,.int .i64 c] 29))).heap.size=w2.heap.size+1+1:=by rw [World.size_alloc,World.size_alloc]
                       have HZ3:=zz hz3
                       clear hb hz3)
                    | (at_builtin
                       have _t:=tok1;refine wpList_app_ex rfl _ _ rfl rfl rfl (HS3.out.app ⟨1,str [],0,l,c⟩ rfl HTS5.out HZ3.out) ?_;rintro v' w5 ⟨⟨va5,vc5,rfl⟩,h5,hk5⟩;have HS5:=zz h5;have hk5':=hk5 _ _ _ HT3.out HNE.out;have HT5:=zz hk5'.1;have HN5:=zz hk5'.2;clear h5 hk5 hk5' tok1 _t
                       obtain ⟨d0,d1,d2,d3,d4⟩:=HT5.out.t5)
                    | (at_builtin
                       refine wpList_app_ex rfl _ _ rfl rfl rfl (HS5.out.app ⟨k,t,n,l,c⟩ (m:=ts.length+1) (List.length_append ..) HTS6.out rfl) ?_;rintro v' w6 ⟨⟨va6,vc6,rfl⟩,h6,hk6⟩;have HS6:=zz h6;have hk6':=hk6 _ _ _ HT5.out HN5.out;have HT6:=zz hk6'.1;clear h6 hk6 hk6'
                       obtain ⟨z0,z1,z2,z3,z4⟩:=HT6.out.t5))
                  go_roundw
                  case rel=>exact ⟨i+t.size,l,c+t.size,ts++[⟨1,str [],0,l,c⟩]++[⟨k,t,n,l,c⟩],by omega,by omega,by omega,by simp;omega,by go_num,rfl,by go_num,⟨va6,vc6,by simp⟩,HS6,HNY⟩
                  case measure=>simp [intOf];omega
                · have g4:((c:Int)==1)=false:=by rw [beq_eq_false_iff_ne];omega
                  have hnx:=HNX.out;rw [if_neg hc1,List.nil_append] at hnx;have HNY:=zz hnx;clear hc1 hnx
                  go_wp2_with (first
                    | (go_at_call 60;refine (HSTARTS.out _).mono ?_;rintro e w' ⟨rfl,rfl⟩)
                    | (go_at_call 61
                       refine (rtoken_any s i _ hlt hs HTOK.out).mono ?_;rintro e w2 ⟨rfl,hb⟩;have HS2:=zz (HST.out.keep hb)
                       have hz2:w.heap.size+1≤w2.heap.size:=by have :=Bo.lt HS2.out.res;omega
                       have HNE:Hid ((Value.slice oa ts.length ocp).ownBlock≠some w2.heap.size):=zz (fun e=>by have :=(HS2.out.own.lt _ e).2;omega)
                       have HS3:Hid (RxSt w (.slice oa ts.length ocp) ((w2.alloc (.cells #[.int .i64 k,.string t,.int .i64 n,.int .i64 l,.int .i64 c] 53)).alloc (.cells #[.int .i64 l,.int .i64 c] 29)) ts):=zz ((HS2.out.keep (below_new w2 _)).keep (below_new _ _));have HT3:Hid (Bo ((w2.alloc (.cells #[.int .i64 k,.string t,.int .i64 n,.int .i64 l,.int .i64 c] 53)).alloc (.cells #[.int .i64 l,.int .i64 c] 29)) w2.heap.size 53 #[.int .i64 k,.string t,.int .i64 n,.int .i64 l,.int .i64 c]):=zz ((Bo.new w2 53 _).alloc _)
                       have hz3:(((w2.alloc (.cells #[.int .i64 k,.string t,.int .i64 n,.int .i64 l,.int .i64 c] 53)).alloc (.cells #[.int .i64 l,.int .i64 c] 29))).heap.size=w2.heap.size+1+1:=by rw [World.size_alloc,World.size_alloc]
                       have HZ3:=zz hz3
                       clear hb hz3)
                    | (at_builtin
                       refine wpList_app_ex rfl _ _ rfl rfl rfl (HS3.out.app ⟨k,t,n,l,c⟩ rfl HTS5.out HZ3.out) ?_;rintro v' w6 ⟨⟨va6,vc6,rfl⟩,h6,hk6⟩;have HS6:=zz h6;have hk6':=hk6 _ _ _ HT3.out HNE.out;have HT6:=zz hk6'.1;clear h6 hk6 hk6'
                       obtain ⟨z0,z1,z2,z3,z4⟩:=HT6.out.t5))
                  go_roundw
                  case rel=>exact ⟨i+t.size,l,c+t.size,ts++[⟨k,t,n,l,c⟩],by omega,by omega,by omega,by simp;omega,by go_num,rfl,by go_num,⟨va6,vc6,by simp⟩,HS6,HNY⟩
                  case measure=>simp [intOf];omega
      · have hlt': ¬(i:Int)<(s.size:Int):=by omega
        have HF:Hid (lexes s=(0,0,0,ts++[⟨0,str [],0,l,c⟩])):=zz (lexes_ok s hlong (by
          rw [←HALL.out,List.drop_eq_nil_of_le (by rw [length_data];omega)]
          show addT ts (scanS [] l c)=_
          rw [scanS_nil];rfl))
        have HTS5:Hid (ts.length≤100000):=zz (by omega)
        go_wp2_with (first
          | (at_builtin
             refine wpList_app_ex rfl _ _ rfl rfl rfl (HST.out.app ⟨0,str [],0,l,c⟩ rfl HTS5.out rfl) ?_;rintro v' w6 ⟨⟨va6,vc6,rfl⟩,h6,hk6⟩;have HS6:=zz h6;have yr:Wr w6 w.heap.size 29 2:=h6.res.wr
             clear h6 hk6))
        have HE:=zz (HS6.out.res.row #[.int .i64 0,.int .i64 0]).t2;have hrd:=(HS6.out.own.row w.heap.size #[.int .i64 0,.int .i64 0] (Nat.lt_succ_self _)).form;obtain ⟨a',c',hv,_,_,hrd⟩:=hrd;simp only [List.length_append,List.length_cons,List.length_nil,Value.slice.injEq] at hv hrd;obtain ⟨rfl,_,rfl⟩:=hv;exact bodyPost_ret (v:=.tuple #[.slice va6 (ts.length+1) vc6,.int .i64 0,.agg #[.int .i64 0,.int .i64 0]]) (by simp [results,Tryz.results24,go_sem,HE.out]) rfl ⟨va6,ts.length+1,vc6,by rw [HF.out],below_setRow HS6.out.bel (Nat.le_refl _) _,by rw [HF.out];exact hrd⟩
end
end Go.Proofs.YtcoiagfeoonpbaaGreat
