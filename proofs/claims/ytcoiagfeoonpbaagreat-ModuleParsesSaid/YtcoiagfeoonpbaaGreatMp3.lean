/-
  How tokens and expressions lie, as the parser's walks want it. Plain lemmas. No condition.
-/
import Derived.Test.YtcoiagfeoonpbaaGreatMp2
set_option maxHeartbeats 20000000
set_option maxRecDepth 100000
namespace Go.Proofs.YtcoiagfeoonpbaaGreat
section
open Go.RowKit
def tkRow (t:Tk):List At:=[.v (.int .i64 t.k),.v (.string t.s),.v (.int .i64 t.n),.v (.int .i64 t.l),.v (.int .i64 t.c)]
def tkRows (ts:List Tk):List (List At):=ts.map tkRow
theorem tkRows_len (ts:List Tk):(tkRows ts).length=ts.length:=by simp [tkRows]
theorem tk_at {S:Nat→Prop} {w:World} {ts:List Tk} {a:Option Addr} {n cap:Nat} (h:Mem S w (.s 5 (tkRows ts)) (.slice a n cap)) (i:Nat) (hi:i<n):
    ∃ b o t,a=some ⟨b,o,none⟩∧S b∧Hid (ts[i]?=some t)∧w.cell? ⟨b,o+i * 5,none⟩=some (.int .i64 t.k)∧w.cell? ⟨b,o+i * 5+1,none⟩=some (.string t.s)∧w.cell? ⟨b,o+i * 5+2,none⟩=some (.int .i64 t.n)∧w.cell? ⟨b,o+i * 5+3,none⟩=some (.int .i64 t.l)∧w.cell? ⟨b,o+i * 5+4,none⟩=some (.int .i64 t.c):=by
  have hl:=h.len.1;rw [tkRows_len] at hl
  have hi':i<ts.length:=by omega
  obtain ⟨b,o,ha,hS,_,cs,h2,hc⟩:=Mem.at h i (by rw [tkRows_len];exact hi')
  have e:(tkRows ts)[i]'(by rw [tkRows_len];exact hi')=tkRow ts[i]:=by simp [tkRows]
  rw [e] at h2;unfold tkRow at h2
  cases h2 with
  | cons g0 h2 =>
    cases h2 with
    | cons g1 h2 =>
      cases h2 with
      | cons g2 h2 =>
        cases h2 with
        | cons g3 h2 =>
          cases h2 with
          | cons g4 h2 =>
            cases h2;have c0:=hc 0 (by simp);have c1:=hc 1 (by simp);have c2:=hc 2 (by simp);have c3:=hc 3 (by simp);have c4:=hc 4 (by simp);simp only [List.getElem_cons_zero,List.getElem_cons_succ,g0.val,g1.val,g2.val,g3.val,g4.val] at c0 c1 c2 c3 c4;exact ⟨b,o,ts[i],ha,hS,zz (List.getElem?_eq_getElem hi'),c0,c1,c2,c3,c4⟩
def exV (x:Ex) (a:Option Addr) (n cap:Nat):Value:=.agg #[.int .i64 x.kind,.string x.name,.int .i64 x.n,.slice a n cap,.int .i64 x.line,.int .i64 x.col]
theorem now_at {ts:List Tk} {i:Nat} {t:Tk} (h:ts[i]?=some t):nowT ts i=t:=by unfold nowT;rw [h]
theorem now_past {ts:List Tk} {i:Nat} {t:Tk} (h:ts.length≤i) (a:ts.getLast?=some t):nowT ts i=noTk t.l t.c:=by
  unfold nowT;rw [List.getElem?_eq_none h,a]
theorem now_none {i:Nat} :nowT [] i=noTk 0 0:=by
  unfold nowT;simp
end
section
open Go.RowKit
inductive Tm where
  | mk (kind:Int) (name:ByteArray) (n:Int) (args:List Tm)
def Tm.kind:Tm→Int | .mk k _ _ _=>k
def Tm.name:Tm→ByteArray | .mk _ s _ _=>s
def Tm.n:Tm→Int | .mk _ _ n _=>n
def Tm.args:Tm→List Tm | .mk _ _ _ ts=>ts
mutual
def Tm.row:Tm→List At
  | .mk k s n ts=>[.v (.int .i64 k),.v (.string s),.v (.int .i64 n),.s 4 (Tm.rows ts)]
def Tm.rows:List Tm→List (List At)
  | []=>[]
  | t::ts=>t.row::Tm.rows ts
end
mutual
def Tm.all:Tm→List Tm
  | .mk k s n ts=>.mk k s n ts::Tm.alls ts
def Tm.alls:List Tm→List Tm
  | []=>[]
  | t::ts=>t.all++Tm.alls ts
end
theorem Tm.eta (t:Tm):Tm.mk t.kind t.name t.n t.args=t:=by cases t;rfl
theorem Tm.row_eq (t:Tm):t.row=[.v (.int .i64 t.kind),.v (.string t.name),.v (.int .i64 t.n),.s 4 (Tm.rows t.args)]:=by cases t;rw [Tm.row];rfl
theorem Tm.all_eq (t:Tm):t.all=t::Tm.alls t.args:=by cases t;rw [Tm.all];rfl
theorem Tm.rows_eq (ts:List Tm):Tm.rows ts=ts.map Tm.row:=by
  induction ts with
  | nil=>rw [Tm.rows];rfl
  | cons t ts ih=>rw [Tm.rows,ih];rfl
def Tm.size (t:Tm):Nat:=t.all.length
theorem Tm.size_eq (t:Tm):t.size=1+(Tm.alls t.args).length:=by rw [Tm.size,Tm.all_eq,List.length_cons];omega
theorem Tm.size_pos (t:Tm):0<t.size:=by rw [Tm.size_eq];omega
theorem Tm.size_mem {x:Tm} {ts:List Tm} (h:x∈ts):x.size≤(Tm.alls ts).length:=by
  induction ts with
  | nil=>cases h
  | cons t ts ih =>
    rw [Tm.alls,List.length_append]
    rcases List.mem_cons.1 h with rfl | h
    · exact Nat.le_add_right _ _
    · have :=ih h;omega
theorem Tm.size_arg {x t:Tm} (h:x∈t.args):x.size<t.size:=by
  have :=Tm.size_mem h;rw [Tm.size_eq t];omega
theorem Tm.len_args (ts:List Tm):ts.length≤(Tm.alls ts).length:=by
  induction ts with
  | nil=>simp
  | cons t ts ih=>rw [Tm.alls,List.length_append];have :=t.size_pos;unfold Tm.size at this;simp;omega
def Tms (w:World) (ts:List Tm) (a:Option Addr) (n cap:Nat):Prop:=MemW w (.s 4 (Tm.rows ts)) (.slice a n cap)
theorem Tms.len {w:World} {ts:List Tm} {a:Option Addr} {n cap:Nat} (h:Tms w ts a n cap):ts.length=n∧n≤cap∧cap≤9223372036854775807:=by
  have :=Mem.len h;rw [Tm.rows_eq,List.length_map] at this;exact this
theorem Tms.keep {w b:World} {ts:List Tm} {a:Option Addr} {n cap:Nat} (h:Tms w ts a n cap) (d:Below w.heap.size w b):Tms b ts a n cap:=MemW.keep h d
theorem row_cells {S:Nat→Prop} {w:World} {t:Tm} {cs:List Value} (h:All2 (Mem S w) t.row cs):∃ a n cap,cs=[.int .i64 t.kind,.string t.name,.int .i64 t.n,.slice a n cap]∧Mem S w (.s 4 (Tm.rows t.args)) (.slice a n cap):=by
  rw [Tm.row_eq] at h
  cases h with
  | cons h0 h => cases h with
    | cons h1 h => cases h with
      | cons h2 h => cases h with
        | cons h3 h => cases h with
          | nil =>
            obtain ⟨a,n,cap,rfl,_⟩:=h3.parts;exact ⟨a,n,cap,by rw [h0.val,h1.val,h2.val],h3⟩
theorem tm_at {S:Nat→Prop} {w:World} {ts:List Tm} {a:Option Addr} {n cap:Nat} (h:Mem S w (.s 4 (Tm.rows ts)) (.slice a n cap)) (i:Nat) (y:i<n):
    ∃ b o x d j f,a=some ⟨b,o,none⟩∧S b∧Hid (ts[i]?=some x)∧w.cell? ⟨b,o+i * 4,none⟩=some (.int .i64 x.kind)∧w.cell? ⟨b,o+i * 4+1,none⟩=some (.string x.name)∧w.cell? ⟨b,o+i * 4+2,none⟩=some (.int .i64 x.n)∧w.cell? ⟨b,o+i * 4+3,none⟩=some (.slice d j f)∧Hid (Mem S w (.s 4 (Tm.rows x.args)) (.slice d j f)):=by
  have u:=h.len.1;rw [Tm.rows_eq,List.length_map] at u
  have m:i<ts.length:=by omega
  obtain ⟨b,o,t,r,_,v,p,g⟩:=Mem.at h i (by rw [Tm.rows_eq,List.length_map];exact m)
  have e:(Tm.rows ts)[i]'(by rw [Tm.rows_eq,List.length_map];exact m)=(ts[i]).row:=by simp [Tm.rows_eq]
  rw [e] at p;obtain ⟨d,j,f,rfl,q⟩:=row_cells p;exact ⟨b,o,ts[i],d,j,f,t,r,zz (List.getElem?_eq_getElem m),g 0 (by simp),g 1 (by simp),g 2 (by simp),g 3 (by simp),zz q⟩
theorem Tms.at {w:World} {ts:List Tm} {a:Option Addr} {n cap:Nat} (h:Tms w ts a n cap) (i:Nat) (g:i<n):
    ∃ b o x d f e,a=some ⟨b,o,none⟩∧b<w.heap.size∧Hid (ts[i]?=some x)∧w.cell? ⟨b,o+i * 4,none⟩=some (.int .i64 x.kind)∧w.cell? ⟨b,o+i * 4+1,none⟩=some (.string x.name)∧w.cell? ⟨b,o+i * 4+2,none⟩=some (.int .i64 x.n)∧w.cell? ⟨b,o+i * 4+3,none⟩=some (.slice d f e)∧Hid (Tms w x.args d f e):=tm_at h i g
theorem Tm.rows_app (ts a:List Tm):Tm.rows (ts++a)=Tm.rows ts++Tm.rows a:=by simp [Tm.rows_eq]
theorem Tm.rows_len (ts:List Tm):(Tm.rows ts).length=ts.length:=by simp [Tm.rows_eq]
theorem take_at {α:Type} {l:List α} {k:Nat} {x:α} (h:l[k]?=some x):l.take (k+1)=l.take k++[x]:=by
  rw [List.take_add_one,h];rfl
theorem mem_of_at {α:Type} {l:List α} {i:Nat} {x:α} (h:l[i]?=some x):x∈l:=List.mem_of_getElem? h
end
section
structure MS where
  i:Nat
  b:Option (Int × Int)
def MS.ok (s:MS):Bool:=s.b.isNone
def MS.next (s:MS):MS:=⟨s.i+1,s.b⟩
def wData:ByteArray:=⟨#[100,97,116,97]⟩
def wBar:ByteArray:=⟨#[124]⟩
section
variable (ts:List Tk)
def failS (s:MS):MS:=if s.ok then ⟨s.i,some ((nowT ts s.i).l,(nowT ts s.i).c)⟩ else s
def isS (s:MS) (k:Int) (x:ByteArray):Bool:=s.ok && isT ts s.i k x
def takeS (s:MS) (k:Int) (x:ByteArray):MS:=if isS ts s k x then s.next else failS ts s
def nameS (s:MS) (k:Int):ByteArray × MS:=if (nowT ts s.i).k=k then ((nowT ts s.i).s,s.next) else (⟨#[]⟩,failS ts s)
def startsS (s:MS):Bool:=s.ok && (decide ((nowT ts s.i).k=2) || (decide ((nowT ts s.i).k=3) || isS ts s 6 wOpen))
def noTm:Tm:=.mk 0 ⟨#[]⟩ 0 []
def noEx:Ex:=.mk 0 ⟨#[]⟩ 0 [] 0 0
inductive Mt where
  | atom
  | typ
  | atoms (l:List Tm)
def typeM:Nat→Mt→Nat→MS→Option (Tm × MS)
  | 0,_,_,_=>none
  | f + 1, .atom, deep, s =>
    if (nowT ts s.i).k=2 then some (.mk 1 (nowT ts s.i).s 0 [],s.next)
    else if (nowT ts s.i).k=3 then some (.mk 2 (nowT ts s.i).s 0 [],s.next)
    else (typeM f .typ (deep+1) (takeS ts (if deep=40 then failS ts s else s) 6 wOpen)).map fun p=>(p.1,takeS ts p.2 6 wClose)
  | f + 1, .typ, deep, s =>
    if s.ok=false then some (noTm,s)
    else if (nowT ts s.i).k=3 then (typeM f (.atoms []) deep s.next).map fun p=>(.mk 2 (nowT ts s.i).s 0 p.1.args,p.2)
    else typeM f .atom deep s
  | f + 1, .atoms l, deep, s =>
    if startsS ts s then (typeM f .atom deep s).bind fun p=>typeM f (.atoms (l++[p.1])) deep p.2
    else some (.mk 0 ⟨#[]⟩ 0 l,s)
structure Cn where
  name:ByteArray
  types:List Tm
  l:Int
  c:Int
structure Da where
  name:ByteArray
  vars:List ByteArray
  cons:List Cn
  l:Int
  c:Int
structure Ru where
  name:ByteArray
  pats:List Ex
  guard:List Ex
  body:Ex
  l:Int
  c:Int
def conM (f:Nat) (s:MS):Option (Cn × MS):=
  (typeM ts f (.atoms []) 0 (nameS ts s 3).2).map fun p=>(⟨(nameS ts s 3).1,p.1.args,(nowT ts s.i).l,(nowT ts s.i).c⟩,p.2)
def partM (F:Nat) (nt:Nt) (s:MS):Option (Ex × MS):=
  if s.ok=false then some (noEx,s)
  else match readE ts F nt s.i 0 with
    | none=>none
    | some (.ok x j)=>some (x,⟨j,none⟩)
    | some (.bad l c)=>some (noEx,⟨s.i,some (l,c)⟩)
def varsM:Nat→List ByteArray→MS→Option (List ByteArray × MS)
  | 0,_,_=>none
  | f+1,vs,s=>if s.ok && decide ((nowT ts s.i).k=2) then varsM f (vs++[(nowT ts s.i).s]) s.next else some (vs,s)
def consM (g:Nat):Nat→List Cn→MS→Option (List Cn × MS)
  | 0,_,_=>none
  | f+1,cs,s=>if isS ts s 6 wBar then (conM ts g s.next).bind fun p=>consM g f (cs++[p.1]) p.2 else some (cs,s)
def patsM (F:Nat):Nat→List Ex→MS→Option (List Ex × MS)
  | 0,_,_=>none
  | f+1,ps,s=>if s.ok && (!isS ts s 6 wBar && !isS ts s 6 wEq) then (partM ts F .pat s).bind fun p=>patsM F f (ps++[p.1]) p.2 else some (ps,s)
def dataM (f:Nat) (s:MS):Option (Da × MS):=
  (varsM ts f [] (nameS ts (takeS ts s 5 wData) 3).2).bind fun v=>
  (conM ts f (takeS ts v.2 6 wEq)).bind fun c=>
  (consM ts f f [c.1] c.2).map fun cs=>(⟨(nameS ts (takeS ts s 5 wData) 3).1,v.1,cs.1,(nowT ts s.i).l,(nowT ts s.i).c⟩,cs.2)
def guardM (F:Nat) (s:MS):Option (List Ex × MS):=
  if isS ts s 6 wBar then (partM ts F .expr s.next).map fun p=>([p.1],p.2) else some ([],s)
def ruleM (F f:Nat) (s:MS):Option (Ru × MS):=
  (patsM ts F f [] (nameS ts s 2).2).bind fun ps=>
  (guardM ts F ps.2).bind fun g=>
  (partM ts F .expr (takeS ts g.2 6 wEq)).map fun b=>(⟨(nameS ts s 2).1,ps.1,g.1,b.1,(nowT ts s.i).l,(nowT ts s.i).c⟩,b.2)
def itemsM (F g:Nat):Nat→List Da→List Ru→MS→Option (List Da × List Ru × MS)
  | 0,_,_,_=>none
  | f + 1, ds, rs, s =>
    if s.ok && !decide ((nowT ts s.i).k=0) then
      if isS ts (takeS ts s 1 ⟨#[]⟩) 5 wData then (dataM ts g (takeS ts s 1 ⟨#[]⟩)).bind fun p=>itemsM F g f (ds++[p.1]) rs p.2
      else (ruleM ts F g (takeS ts s 1 ⟨#[]⟩)).bind fun p=>itemsM F g f ds (rs++[p.1]) p.2
    else some (ds,rs,s)
end
section
variable {ts:List Tk}
structure Step (d:Nat) (s s':MS):Prop where
  stay:s.ok=false→s'.b=s.b
  fwd:s'.ok=true→s.ok=true∧s.i+d≤s'.i
theorem Step.bad {d:Nat} {s b:MS} (h:Step d s b) (a:s.ok=false):b.ok=false:=by
  have :=h.stay a;unfold MS.ok at *;rw [this];exact a
theorem Step.refl (s:MS):Step 0 s s:=⟨fun _=>rfl,fun h=>⟨h,Nat.le_refl _⟩⟩
theorem Step.trans {d e:Nat} {a b c:MS} (h:Step d a b) (k:Step e b c):Step (d+e) a c:=
  ⟨fun g=>(k.stay (h.bad g)).trans (h.stay g),fun f=>⟨(h.fwd (k.fwd f).1).1,by have :=(h.fwd (k.fwd f).1).2;have :=(k.fwd f).2;omega⟩⟩
theorem Step.le {d e:Nat} {a b:MS} (h:Step d a b) (g:e≤d):Step e a b:=⟨h.stay,fun f=>⟨(h.fwd f).1,by have :=(h.fwd f).2;omega⟩⟩
theorem step_next (s:MS):Step 1 s s.next:=⟨fun _=>rfl,fun h=>⟨h,Nat.le_refl _⟩⟩
theorem fail_notok (s:MS):(failS ts s).ok=false:=by
  unfold failS MS.ok
  by_cases h:s.b.isNone <;> simp [h]
theorem step_fail {d:Nat} (s:MS):Step d s (failS ts s):=⟨fun h=>by unfold failS;rw [h];rfl,fun h=>by rw [fail_notok] at h;cases h⟩
theorem step_take {k:Int} {x:ByteArray} (s:MS):Step 1 s (takeS ts s k x):=by
  unfold takeS
  split
  · exact step_next s
  · exact step_fail s
theorem step_name {k:Int} (s:MS):Step 1 s (nameS ts s k).2:=by
  unfold nameS
  split
  · exact step_next s
  · exact step_fail s
def wMt:Mt→Nat
  | .atom=>1
  | .typ=>1
  | .atoms _=>0
theorem typeM_step:∀ (f:Nat) (nt:Mt) (deep:Nat) (s:MS) (x:Tm) (s':MS),typeM ts f nt deep s=some (x,s')→Step (wMt nt) s s':=by
  intro f
  induction f with
  | zero=>intro nt deep s x s' h;rw [typeM] at h;cases h
  | succ f ih =>
    intro nt deep s x s' h
    cases nt with
    | atom =>
      rw [typeM] at h
      split at h
      · cases h;exact step_next s
      · split at h
        · cases h;exact step_next s
        · obtain ⟨p,h1,h2⟩:=Option.map_eq_some_iff.1 h
          cases h2;have g:=ih _ _ _ _ _ h1;refine Step.le (Step.trans ?_ (Step.trans g (step_take p.2))) (e:=1) (d:=0+(wMt .typ+1)) (by decide)
          by_cases hd:deep=40
          · rw [if_pos hd];exact ((step_fail (d:=0) s).trans (step_take _)).le (by omega)
          · rw [if_neg hd];exact (step_take s).le (by omega)
    | typ =>
      rw [typeM] at h
      split at h
      · rename_i hb
        cases h;exact ⟨fun _=>rfl,fun h=>by rw [hb] at h;cases h⟩
      · split at h
        · obtain ⟨p,h1,h2⟩:=Option.map_eq_some_iff.1 h
          cases h2;exact (step_next s).trans (ih _ _ _ _ _ h1)
        · exact ih .atom _ _ _ _ h
    | atoms l =>
      rw [typeM] at h
      split at h
      · obtain ⟨p,h1,h2⟩:=Option.bind_eq_some_iff.1 h
        exact ((ih _ _ _ _ _ h1).trans (ih _ _ _ _ _ h2)).le (Nat.zero_le _)
      · cases h
        exact Step.refl s
def leftM (ts:List Tk) (s:MS):Nat:=if s.ok then ts.length - s.i else 0
theorem leftM_bad {s:MS} (h:s.ok=false):leftM ts s=0:=by unfold leftM;rw [h];rfl
theorem leftM_ok {s:MS} (h:s.ok=true):leftM ts s=ts.length - s.i:=by unfold leftM;rw [h];rfl
theorem leftM_step {d:Nat} {s s':MS} (h:Step d s s'):leftM ts s'≤leftM ts s - d:=by
  cases hs:s'.ok with
  | false=>rw [leftM_bad hs];exact Nat.zero_le _
  | true =>
    obtain ⟨h1,h2⟩:=h.fwd hs;rw [leftM_ok hs,leftM_ok h1]
    omega
def wMt2:Mt→Nat
  | .atom=>2
  | .typ=>3
  | .atoms _=>4
theorem typ_bad {f:Nat} (a:Nat) {s:MS} (h:s.ok=false) (b:1≤f):(typeM ts f .typ a s).isSome=true:=by
  obtain ⟨f,rfl⟩:∃ k,f=k+1:=⟨f - 1,by omega⟩;rw [typeM,if_pos h]
  rfl
theorem typeM_total:∀ (f:Nat) (nt:Mt) (deep:Nat) (s:MS),4 * leftM ts s+wMt2 nt≤f→(typeM ts f nt deep s).isSome=true:=by
  intro f
  induction f with
  | zero=>intro nt deep s h;cases nt <;> (simp only [wMt2] at h;omega)
  | succ f ih =>
    intro nt deep s h
    cases nt with
    | atom =>
      rw [typeM];simp only [wMt2] at h
      split
      · rfl
      · split
        · rfl
        · rw [Option.isSome_map]
          by_cases hd:deep=40
          · rw [if_pos hd]
            have hb:(takeS ts (failS ts s) 6 wOpen).ok=false:=(step_take (failS ts s)).bad (fail_notok s);exact typ_bad _ hb (by omega)
          · rw [if_neg hd]
            by_cases hi:isS ts s 6 wOpen=true
            · have hok:s.ok=true:=by unfold isS at hi;rw [Bool.and_eq_true] at hi;exact hi.1
              have hit:isT ts s.i 6 wOpen=true:=by unfold isS at hi;rw [Bool.and_eq_true] at hi;exact hi.2
              have hl:=isT_lt hit (by decide);have h1:=leftM_step (ts:=ts) (step_take (ts:=ts) (k:=6) (x:=wOpen) s);rw [leftM_ok hok] at h1 h;exact ih _ _ _ (by simp only [wMt2];omega)
            · have hb:(takeS ts s 6 wOpen).ok=false:=by unfold takeS;rw [if_neg hi];exact fail_notok s
              exact typ_bad _ hb (by omega)
    | typ =>
      rw [typeM];simp only [wMt2] at h
      split
      · rfl
      · rename_i hok
        have hok:s.ok=true:=by simpa using hok
        split
        · rename_i h3
          rw [Option.isSome_map];have hl:s.i<ts.length:=now_lt (by rw [h3];decide);have h1:=leftM_step (ts:=ts) (step_next s);rw [leftM_ok hok] at h1 h;exact ih _ _ _ (by simp only [wMt2];omega)
        · exact ih _ _ _ (by simp only [wMt2];omega)
    | atoms l =>
      rw [typeM];simp only [wMt2] at h
      split
      · rename_i hst
        have hok:s.ok=true:=by unfold startsS at hst;rw [Bool.and_eq_true] at hst;exact hst.1
        have hl:s.i<ts.length:=by
          unfold startsS at hst;simp only [Bool.and_eq_true,Bool.or_eq_true,decide_eq_true_eq] at hst
          rcases hst.2 with h2 | h2 | h2
          · exact now_lt (by rw [h2];decide)
          · exact now_lt (by rw [h2];decide)
          · unfold isS at h2;rw [Bool.and_eq_true] at h2;exact isT_lt h2.2 (by decide)
        obtain ⟨p,hp⟩:=Option.isSome_iff_exists.1 (ih .atom deep s (by simp only [wMt2];omega));rw [hp];have h1:=leftM_step (ts:=ts) (typeM_step _ _ _ _ _ _ hp);rw [leftM_ok hok] at h1 h;simp only [wMt] at h1;exact ih _ _ _ (by simp only [wMt2];omega)
      · rfl
end
end
section
section
variable {ts:List Tk}
theorem partM_some {F:Nat} (d:8 * ts.length+8≤F) (a:Nt) (e:wNt a≤8) (s:MS):(partM ts F a s).isSome=true:=by
  unfold partM
  split
  · rfl
  · obtain ⟨r,b⟩:=Option.isSome_iff_exists.1 (readE_total (ts:=ts) F a s.i 0 (by omega))
    rw [b]
    cases r <;> rfl
theorem partM_step {F:Nat} {b:Nt} (e:b=.pat∨b=.expr) {s d:MS} {x:Ex} (h:partM ts F b s=some (x,d)):Step 1 s d:=by
  unfold partM at h
  split at h
  · rename_i a
    cases h;exact ⟨fun _=>rfl,fun h=>by rw [a] at h;cases h⟩
  · rename_i a
    have f:s.ok=true:=by simpa using a
    split at h
    · cases h
    · rename_i o j m
      cases h;have g:=readE_fwd _ _ _ _ _ _ m;refine ⟨fun h=>(a h).elim,fun _=>⟨f,?_⟩⟩
      rcases e with rfl | rfl <;> (simp only [Fwd] at g;show s.i+1≤j;omega)
    · cases h
      exact ⟨fun h=>(a h).elim,fun h=>by unfold MS.ok at h;cases h⟩
theorem varsM_step:∀ (f:Nat) (vs:List ByteArray) (s:MS) (r:List ByteArray × MS),varsM ts f vs s=some r→Step 0 s r.2
  | 0,vs,s,r,h=>by rw [varsM] at h;cases h
  | f + 1, vs, s, r, h => by
    rw [varsM] at h
    split at h
    · exact ((step_next s).trans (varsM_step f _ _ _ h)).le (Nat.zero_le _)
    · cases h;exact Step.refl s
theorem varsM_total:∀ (f:Nat) (vs:List ByteArray) (s:MS),leftM ts s+1≤f→(varsM ts f vs s).isSome=true
  | 0,vs,s,h=>by omega
  | f + 1, vs, s, h => by
    rw [varsM]
    split
    · rename_i hc
      rw [Bool.and_eq_true,decide_eq_true_eq] at hc;have hl:s.i<ts.length:=now_lt (by rw [hc.2];decide);have h1:=leftM_step (ts:=ts) (step_next s);rw [leftM_ok hc.1] at h1 h;exact varsM_total f _ _ (by omega)
    · rfl
theorem conM_step {f:Nat} {s:MS} {r:Cn × MS} (h:conM ts f s=some r):Step 1 s r.2:=by
  unfold conM at h;obtain ⟨p,a,b⟩:=Option.map_eq_some_iff.1 h;cases b;exact ((step_name (ts:=ts) (k:=3) s).trans (typeM_step _ _ _ _ _ _ a)).le (by omega)
theorem leftM_le (s:MS):leftM ts s≤ts.length:=by unfold leftM;split <;> omega
theorem conM_some {f:Nat} (a:4 * ts.length+4≤f) (s:MS):(conM ts f s).isSome=true:=by
  unfold conM;rw [Option.isSome_map];refine typeM_total _ _ _ _ ?_;have :=leftM_le (ts:=ts) (nameS ts s 3).2
  simp only [wMt2];omega
theorem isS_parts {s:MS} {k:Int} {x:ByteArray} (h:isS ts s k x=true):s.ok=true∧isT ts s.i k x=true:=by
  unfold isS at h;rw [Bool.and_eq_true] at h;exact h
theorem consM_step (g:Nat):∀ (f:Nat) (cs:List Cn) (s:MS) (r:List Cn × MS),consM ts g f cs s=some r→Step 0 s r.2
  | 0,cs,s,r,h=>by rw [consM] at h;cases h
  | f + 1, cs, s, r, h => by
    rw [consM] at h
    split at h
    · obtain ⟨p,h1,h2⟩:=Option.bind_eq_some_iff.1 h
      exact ((step_next s).trans ((conM_step h1).trans (consM_step g f _ _ _ h2))).le (Nat.zero_le _)
    · cases h;exact Step.refl s
theorem consM_total {g:Nat} (hg:4 * ts.length+4≤g):∀ (f:Nat) (cs:List Cn) (s:MS),leftM ts s+1≤f→(consM ts g f cs s).isSome=true
  | 0,cs,s,h=>by omega
  | f + 1, cs, s, h => by
    rw [consM]
    split
    · rename_i hc
      obtain ⟨h1,h2⟩:=isS_parts hc;have hl:=isT_lt h2 (by decide);obtain ⟨p,hp⟩:=Option.isSome_iff_exists.1 (conM_some hg s.next);rw [hp];have h3:=leftM_step (ts:=ts) ((step_next s).trans (conM_step hp));rw [leftM_ok h1] at h3 h;exact consM_total hg f _ _ (by omega)
    · rfl
theorem patsM_step (F:Nat):∀ (f:Nat) (ps:List Ex) (s:MS) (r:List Ex × MS),patsM ts F f ps s=some r→Step 0 s r.2
  | 0,ps,s,r,h=>by rw [patsM] at h;cases h
  | f + 1, ps, s, r, h => by
    rw [patsM] at h
    split at h
    · obtain ⟨p,h1,h2⟩:=Option.bind_eq_some_iff.1 h
      exact ((partM_step (.inl rfl) h1).trans (patsM_step F f _ _ _ h2)).le (Nat.zero_le _)
    · cases h;exact Step.refl s
theorem patsM_total {F:Nat} (hF:8 * ts.length+8≤F):∀ (f:Nat) (ps:List Ex) (s:MS),leftM ts s+2≤f→(patsM ts F f ps s).isSome=true
  | 0,ps,s,h=>by omega
  | f + 1, ps, s, h => by
    rw [patsM]
    split
    · rename_i hc
      rw [Bool.and_eq_true] at hc;obtain ⟨p,hp⟩:=Option.isSome_iff_exists.1 (partM_some hF .pat (by simp only [wNt];omega) s);rw [hp];have hs:=partM_step (.inl rfl) hp
      cases hb:p.2.ok with
      | true =>
        obtain ⟨x,hx⟩:∃ x,readE ts F .pat s.i 0=some x:=by
          obtain ⟨r,hr⟩:=Option.isSome_iff_exists.1 (readE_total (ts:=ts) F .pat s.i 0 (by simp only [wNt];omega));exact ⟨r,hr⟩
        have h3:=leftM_step (ts:=ts) hs;rw [leftM_ok hc.1] at h3 h
        have hlt:s.i<ts.length:=by
          unfold partM at hp;rw [if_neg (by rw [hc.1];decide),hx] at hp
          cases x with
          | bad l c=>cases hp;cases hb
          | ok e j =>
            have :=readE_fwd _ _ _ _ _ _ hx;simp only [Fwd] at this
            omega
        exact patsM_total hF f _ _ (by omega)
      | false =>
        obtain ⟨f,rfl⟩:∃ k,f=k+1:=⟨f - 1,by omega⟩
        show (patsM ts F (f+1) _ _).isSome=true
        rw [patsM,hb]
        rfl
    · rfl
theorem dataM_step {f:Nat} {s:MS} {r:Da × MS} (h:dataM ts f s=some r):Step 1 s r.2:=by
  unfold dataM at h;obtain ⟨v,a,h⟩:=Option.bind_eq_some_iff.1 h;obtain ⟨c,b,h⟩:=Option.bind_eq_some_iff.1 h;obtain ⟨g,d,e⟩:=Option.map_eq_some_iff.1 h;cases e;exact ((step_take (ts:=ts) s).trans ((step_name _).trans ((varsM_step _ _ _ _ a).trans ((step_take _).trans ((conM_step b).trans (consM_step _ _ _ _ _ d)))))).le (by omega)
theorem dataM_some {f:Nat} (d:4 * ts.length+8≤f) (s:MS):(dataM ts f s).isSome=true:=by
  unfold dataM
  obtain ⟨v,b⟩:=Option.isSome_iff_exists.1 (varsM_total (ts:=ts) f [] (nameS ts (takeS ts s 5 wData) 3).2 (by have :=leftM_le (ts:=ts) (nameS ts (takeS ts s 5 wData) 3).2;omega))
  rw [b,Option.bind_some];obtain ⟨c,a⟩:=Option.isSome_iff_exists.1 (conM_some (ts:=ts) (f:=f) (by omega) (takeS ts v.2 6 wEq));rw [a,Option.bind_some,Option.isSome_map]
  exact consM_total (by omega) f _ _ (by have :=leftM_le (ts:=ts) c.2;omega)
theorem guardM_step {F:Nat} {s:MS} {r:List Ex × MS} (h:guardM ts F s=some r):Step 0 s r.2:=by
  unfold guardM at h
  split at h
  · obtain ⟨p,a,b⟩:=Option.map_eq_some_iff.1 h
    cases b;exact ((step_next s).trans (partM_step (.inr rfl) a)).le (Nat.zero_le _)
  · cases h;exact Step.refl s
theorem ruleM_step {F f:Nat} {s:MS} {r:Ru × MS} (h:ruleM ts F f s=some r):Step 1 s r.2:=by
  unfold ruleM at h;obtain ⟨v,a,h⟩:=Option.bind_eq_some_iff.1 h;obtain ⟨c,d,h⟩:=Option.bind_eq_some_iff.1 h;obtain ⟨b,e,g⟩:=Option.map_eq_some_iff.1 h;cases g;exact ((step_name (ts:=ts) s).trans ((patsM_step _ _ _ _ _ a).trans ((guardM_step d).trans ((step_take _).trans (partM_step (.inr rfl) e))))).le (by omega)
theorem ruleM_some {F f:Nat} (a:8 * ts.length+8≤F) (e:ts.length+2≤f) (s:MS):(ruleM ts F f s).isSome=true:=by
  unfold ruleM
  obtain ⟨v,d⟩:=Option.isSome_iff_exists.1 (patsM_total (ts:=ts) a f [] (nameS ts s 2).2 (by have :=leftM_le (ts:=ts) (nameS ts s 2).2;omega))
  rw [d,Option.bind_some]
  obtain ⟨c,b⟩:∃ c,guardM ts F v.2=some c:=by
    apply Option.isSome_iff_exists.1
    unfold guardM
    split
    · rw [Option.isSome_map];exact partM_some a .expr (by simp only [wNt];omega) _
    · rfl
  rw [b,Option.bind_some,Option.isSome_map];exact partM_some a .expr (by simp only [wNt];omega) _
def needM (ts:List Tk) (s:MS):Nat:=if s.ok then ts.length - s.i+2 else 1
theorem itemsM_total {F g:Nat} (hF:8 * ts.length+8≤F) (hg:4 * ts.length+8≤g):∀ (f:Nat) (ds:List Da) (rs:List Ru) (s:MS),needM ts s≤f→(itemsM ts F g f ds rs s).isSome=true
  | 0,ds,rs,s,h=>by unfold needM at h;split at h <;> omega
  | f + 1, ds, rs, s, h => by
    rw [itemsM]
    split
    · rename_i hc
      rw [Bool.and_eq_true] at hc
      have key:∀ s',Step 1 (takeS ts s 1 ⟨#[]⟩) s'→needM ts s'≤f:=fun s' hs=>by
        unfold needM at h ⊢;rw [if_pos hc.1] at h
        split
        · rename_i hok
          obtain ⟨h2,h3⟩:=hs.fwd hok
          by_cases hi:isS ts s 1 ⟨#[]⟩=true
          · have hl:=isT_lt (isS_parts hi).2 (by decide)
            unfold takeS at h3;rw [if_pos hi] at h3;have h3:s.i+1+1≤s'.i:=h3
            omega
          · unfold takeS at h2
            rw [if_neg hi,fail_notok] at h2;cases h2
        · omega
      split
      · obtain ⟨p,hp⟩:=Option.isSome_iff_exists.1 (dataM_some (ts:=ts) hg (takeS ts s 1 ⟨#[]⟩))
        rw [hp];exact itemsM_total hF hg f _ _ _ (key _ (dataM_step hp))
      · obtain ⟨p,hp⟩:=Option.isSome_iff_exists.1 (ruleM_some (ts:=ts) (f:=g) hF (by omega) (takeS ts s 1 ⟨#[]⟩))
        rw [hp];exact itemsM_total hF hg f _ _ _ (key _ (ruleM_step hp))
    · rfl
end
end
end Go.Proofs.YtcoiagfeoonpbaaGreat
