/-
  slices.DeleteFunc of the tokens that begin an item. No condition but how they lie.
-/
import Derived.Test.YtcoiagfeoonpbaaGreatSm12
import Derived.Test.YtcoiagfeoonpbaaGreatSm14
import Derived.Test.YtcoiagfeoonpbaaGreatSm3
import Derived.Test.YtcoiagfeoonpbaaGreatSm8
set_option maxHeartbeats 20000000
set_option maxRecDepth 100000
namespace Go.Proofs.YtcoiagfeoonpbaaGreat
section
open Go.RowKit
attribute [local go_sem ↓] wp_store_P
attribute [local go_sem] stP_eq stBp_eq stCp_eq stFp_eq
def keepT (t:Tok):Bool:= !decide (t.k=1)
theorem item_any (k n l c:Int) (s:ByteArray) (w:World):
    Calls Tryz.prog 72 #[.agg #[.int .i64 k,.string s,.int .i64 n,.int .i64 l,.int .i64 c]] w fun e w'=>e=.returned (.bool (decide (k=1)))∧Below w.heap.size w w':=by
  go_enter Tryz.func72,Tryz.ntmps72
  go_wp2
  go_ret
  exact ⟨congrArg (fun b=>Ending.returned (.bool b)) (by by_cases h:k=1 <;> simp [h]),below_new w _⟩
def TLk (d:Array Tok) (k:Nat):List Tok:=d.toList.take k
theorem tok_get {d:Array Tok} {k:Nat} (h:k<d.size):d.toList[k]?=some d[k]! :=by
  rw [Array.getElem?_toList];simp [h]
theorem TLk_succ {d:Array Tok} {k:Nat} (h:k<d.size):TLk d (k+1)=TLk d k++[d[k]!]:=by
  unfold TLk
  rw [List.take_add_one,tok_get h];rfl
theorem TLk_set {d:Array Tok} {k:Nat} (h:k<d.size) (x:Tok):TLk (d.setIfInBounds k x) (k+1)=TLk d k++[x]:=by
  rw [TLk_succ (by rw [Array.size_setIfInBounds];exact h)]
  have e:(d.setIfInBounds k x)[k]! =x:=by simp [h]
  rw [e]
  congr 1
  unfold TLk;rw [Array.toList_setIfInBounds,List.take_set_of_le (Nat.le_refl _)]
theorem TLk_all (d:Array Tok):TLk d d.size=d.toList:=by unfold TLk;rw [List.take_of_length_le (by simp)]
theorem TLk_congr {d d':Array Tok} (hs:d'.size=d.size):∀ {k:Nat},k≤d.size→(∀ i,i<k→d'[i]! =d[i]!)→TLk d' k=TLk d k:=by
  intro k
  induction k with
  | zero=>intro _ _;rfl
  | succ k ih =>
    intro hk h;rw [TLk_succ (by omega),TLk_succ (by omega),ih (by omega) (fun i hi=>h i (by omega)),h k (by omega)]
theorem TLk_len {d:Array Tok} {k:Nat} (h:k≤d.size):(TLk d k).length=k:=by unfold TLk;rw [List.length_take];simp;omega
theorem indexItem_any {w0 w:World} {q cap:Nat} {d:Array Tok} (h:DS w0 q d w) (hsz:d.size≤1000000) (hcap:d.size≤cap):
    Calls Tryz.prog 107 #[.slice (some ⟨q,0,none⟩) d.size cap,.func (.func 72) #[] #[]] w fun e w'=>∃ r:Int,e=.returned (.int .i64 r)∧Below w.heap.size w w'∧((r= -1∧∀ t∈d.toList,keepT t=true)∨(∃ k:Nat,r=k∧k<d.size∧keepT d[k]! =false∧∀ t∈TLk d k,keepT t=true)):=by
  have H:=zz h
  have hE:∀ args w,Sem.run Tryz.prog (callFunc 72 args) w=.ok (.enter 72 args) w:=fun _ _=>by kernel_rfl
  clear h;obtain ⟨n,hn⟩:∃ n,d.size=n:=⟨_,rfl⟩;rw [hn] at hsz hcap ⊢;have HN:=zz hn;clear hn;go_enter Tryz.func107,Tryz.ntmps107
  go_wp2
  go_loopw [5,8] (fun _ v wr=>∃ k:Nat,v=.int .i64 k∧k≤n∧Hid (Below w.heap.size w wr)∧Hid (∀ t∈TLk d k,keepT t=true)) (fun _ v _=>n - (intOf v).toNat)
  case atStart=>exact ⟨0,rfl,Nat.zero_le _,Below.refl _ _,fun t ht=>by simp [TLk] at ht⟩
  case round=>
    obtain ⟨k,rfl,hk,HB,HK⟩:=hrel
    by_cases hlt:k<n
    · have hltz:(k:Int)<(n:Int):=by omega
      obtain ⟨ex,hex⟩:∃ x,d[k]! =x:=⟨_,rfl⟩
      have hx1:k<d.size:=by have :=HN.out;omega
      have HS:=zz (H.out.keep HB.out);obtain ⟨x0,x1,x2,x3,x4⟩:=HS.out.row.c5 hx1 hex;have XE:=zz hex;clear hex
      have hfz:∀ j,j<5→wr.frozen? ⟨q,k * 5+j,none⟩=false:=fun j hj=>(HS.out.row k hx1 j hj).2
      by_cases hi:ex.k=1
      · have hd:=zz (decide_eq_true hi)
        have HF:Hid (keepT d[k]! =false):=zz (by rw [XE.out];unfold keepT;simp [hi]);clear hi
        go_wp2_with (first | (go_at_call 72;refine (item_any _ _ _ _ _ _).mono ?_;rintro e w2 ⟨rfl,hb⟩;rw [hd.out];have HB2:=zz hb;clear hb))
        go_ret;exact ⟨_,rfl,Below.to HB.out HB2.out,.inr ⟨k,rfl,hlt,HF.out,HK.out⟩⟩
      · have hd:=zz (decide_eq_false hi)
        have HF:Hid (∀ t∈TLk d (k+1),keepT t=true):=zz (by
          intro t ht;rw [TLk_succ hx1,List.mem_append] at ht
          rcases ht with ht | ht
          · exact HK.out t ht
          · rw [List.mem_singleton] at ht;rw [ht,XE.out];unfold keepT;simp [hi])
        clear hi
        go_wp2_with (first | (go_at_call 72;refine (item_any _ _ _ _ _ _).mono ?_;rintro e w2 ⟨rfl,hb⟩;rw [hd.out];have HB2:=zz hb;clear hb))
        go_roundw
        case rel=>exact ⟨k+1,by go_num,by omega,Below.to HB.out HB2.out,HF.out⟩
        case measure=>simp [intOf] <;> omega
    · have hltz: ¬(k:Int)<(n:Int):=by omega
      obtain rfl:k=n:=by omega
      go_wp2
      go_ret
      exact ⟨-1,rfl,HB.out,.inl ⟨rfl,by have h1:=HK.out;rw [←HN.out,TLk_all] at h1;intro t ht;exact h1 t (by simpa using ht)⟩⟩
theorem setCells_append5 (w:World) (q:Nat):∀ (l1 l2:List Value) (p:Nat),w.setCells q p (l1++l2)=(w.setCells q p l1).setCells q (p+l1.length) l2:=by
  intro l1
  induction l1 generalizing w with
  | nil=>intro l2 p;rfl
  | cons x l1 ih =>
    intro l2 p;rw [List.cons_append,World.setCells,ih,World.setCells,List.length_cons]
    congr 1;omega
theorem DS.zeros {w0:World} {q:Nat} :∀ (m k:Nat) {d:Array Tok} {w:World},DS w0 q d w→k+m=d.size→∃ d',DS w0 q d' (w.setCells q (k * 5) (zeros5 m))∧d'.size=d.size∧∀ i,i<k→d'[i]! =d[i]!
  | 0,k,d,w,h,hk=>⟨d,h,rfl,fun _ _=>rfl⟩
  | m + 1, k, d, w, h, hk => by
    have h1:=h.put (i:=k) (by omega) ⟨0,.empty,0,0,0⟩;obtain ⟨d',h2,h3,h4⟩:=DS.zeros m (k+1) h1 (by rw [Array.size_setIfInBounds];omega);refine ⟨d',?_,by rw [h3,Array.size_setIfInBounds],fun i hi=>?_⟩
    · rw [zeros5,setCells_append5]
      rw [show k * 5+(tokR ⟨0,.empty,0,0,0⟩).length=(k+1) * 5 by rw [tokR_len];omega];exact h2
    · rw [h4 i (by omega)]
      by_cases hi2:i<d.size
      · simp [hi2,show ¬k=i by omega]
      · simp [hi2]
theorem deleteItem_any {w0 w:World} {q cap:Nat} {d:Array Tok} (h:DS w0 q d w) (hsz:d.size≤1000000) (hcap:d.size≤cap) (_hmx:cap≤9223372036854775807):
    Calls Tryz.prog 71 #[.slice (some ⟨q,0,none⟩) d.size cap,.func (.func 72) #[] #[]] w fun e w'=>∃ (k:Nat) (d':Array Tok),e=.returned (.slice (some ⟨q,0,none⟩) k cap)∧DS w0 q d' w'∧d'.size=d.size∧k≤d.size∧TLk d' k=d.toList.filter keepT:=by
  have H:=zz h
  have hE:∀ args w,Sem.run Tryz.prog (callFunc 72 args) w=.ok (.enter 72 args) w:=fun _ _=>by kernel_rfl
  have HI:=zz (indexItem_any h hsz hcap);clear h;obtain ⟨n,hn⟩:∃ n,d.size=n:=⟨_,rfl⟩;rw [hn] at hsz hcap HI ⊢;have HN:=zz hn;clear hn;go_enter Tryz.func71,Tryz.ntmps71
  go_wp2_with (fail)
  refine (HI.out).mono ?_;rintro _ w1 ⟨r,rfl,hb,hr⟩;have HS:=zz (H.out.keep hb);clear hb H HI
  rcases hr with ⟨rfl,hall⟩ | ⟨k0,rfl,hk0,hkk,hall⟩
  · have HALL:=zz hall
    clear hall
    go_wp2
    go_ret;exact ⟨n,d,rfl,HS.out,HN.out,Nat.le_refl _,by rw [←HN.out,TLk_all];exact (List.filter_eq_self.2 HALL.out).symm⟩
  · have HALL:=zz hall
    have HKK:=zz hkk;clear hall hkk
    have hne:((k0:Int)== -1)=false:=by rw [beq_eq_false_iff_ne];omega
    go_wp2
    go_loopw [5,6] (fun v v2 wr=>∃ (i j:Nat) (dk:Array Tok),v=.int .i64 i∧v2=.int .i64 j∧i<j∧j≤n∧dk.size=n∧Hid (DS w0 q dk wr)∧Hid (∀ t,j≤t→dk[t]! =d[t]!)∧Hid (TLk dk i=(TLk d j).filter keepT)) (fun _ v2 _=>n - (intOf v2).toNat)
    case atStart=>exact ⟨k0,k0+1,d,rfl,by go_num,by omega,by omega,HN.out,HS.out,fun t _=>rfl,zz (by rw [TLk_succ (by have :=HN.out;omega),List.filter_append,List.filter_cons,HKK.out];simp only [Bool.false_eq_true,if_false,List.filter_nil,List.append_nil];exact (List.filter_eq_self.2 HALL.out).symm)⟩
    case round=>
      clear HS HALL HKK;obtain ⟨i,j,dk,rfl,rfl,hij,hjn,hsk,HS,HI,HT⟩:=hrel
      by_cases hlt:j<n
      · have hltz:(j:Int)<(n:Int):=by omega
        obtain ⟨ex,hex⟩:∃ x,dk[j]! =x:=⟨_,rfl⟩
        have hx1:j<dk.size:=by omega
        have hw1:i<dk.size:=by omega
        have hiz:(i:Int)<(n:Int):=by omega
        obtain ⟨x0,x1,x2,x3,x4⟩:=HS.out.row.c5 hx1 hex;have XE:=zz hex;have XD:Hid (d[j]! =ex):=zz (by rw [←hex,HI.out j (Nat.le_refl _)]);clear hex
        by_cases hi:ex.k=1
        · have hd:=zz (decide_eq_true hi)
          have HT2:Hid (TLk dk i=(TLk d (j+1)).filter keepT):=zz (by
            rw [TLk_succ (by have :=HN.out;omega),List.filter_append,XD.out,List.filter_cons]
            have e:keepT ex=false:=by unfold keepT;simp [hi]
            rw [e];simp only [Bool.false_eq_true,if_false,List.filter_nil,List.append_nil];exact HT.out)
          clear hi
          go_wp2_with (first | (go_at_call 72;refine (item_any _ _ _ _ _ _).mono ?_;rintro e w2 ⟨rfl,hb⟩;rw [hd.out];have HB2:=zz hb;clear hb))
          go_roundw
          case rel=>exact ⟨i,j+1,dk,rfl,by go_num,by omega,by omega,hsk,(HS.out.alloc _).keep HB2.out,fun t ht=>HI.out t (by omega),HT2.out⟩
          case measure=>simp [intOf] <;> omega
        · have hd:=zz (decide_eq_false hi)
          have HT2:Hid (TLk (dk.setIfInBounds i ex) (i+1)=(TLk d (j+1)).filter keepT):=zz (by
            rw [TLk_succ (k:=j) (by have :=HN.out;omega),List.filter_append,XD.out,List.filter_cons]
            have e:keepT ex=true:=by unfold keepT;simp [hi]
            rw [e,TLk_set hw1,HT.out];simp)
          clear hi
          go_wp2_with (first | (go_at_call 72;refine (item_any _ _ _ _ _ _).mono ?_;rintro e w2 ⟨rfl,hb⟩;rw [hd.out];have HB2:=zz hb;have HS2:=zz ((HS.out.alloc (.cells #[.int .i64 ex.k,.string ex.s,.int .i64 ex.n,.int .i64 ex.l,.int .i64 ex.c] 53)).keep hb);have v0:=HS2.out.row.wr hw1;have HBx:=zz ((Bo.new wr 53 #[.int .i64 ex.k,.string ex.s,.int .i64 ex.n,.int .i64 ex.l,.int .i64 ex.c]).keep hb);have b0:=HBx.out.cell (j:=0) rfl;have b1:=HBx.out.cell (j:=1) rfl;have b2:=HBx.out.cell (j:=2) rfl;have b3:=HBx.out.cell (j:=3) rfl;have b4:=HBx.out.cell (j:=4) rfl;clear hb))
          go_roundw
          case rel=>
            refine ⟨i+1,j+1,dk.setIfInBounds i ex,by go_num,by go_num,by omega,by omega,by rw [Array.size_setIfInBounds];exact hsk,HS2.out.put hw1 ex,fun t ht=>?_,HT2.out⟩;rw [←HI.out t (by omega)]
            by_cases hi2:t<dk.size
            · simp [hi2,show ¬i=t by omega]
            · simp [hi2]
          case measure=>simp [intOf] <;> omega
      · obtain rfl:j=n:=by omega
        have hltz: ¬(j:Int)<(j:Int):=by omega
        have hkc4:(i:Int)≤(cap:Int):=by omega
        have hkn4:(i:Int)≤(j:Int):=by omega
        have hkc3: ¬cap=i:=by omega
        obtain ⟨d',hs',hz',hk'⟩:=DS.zeros (j - i) i HS.out (by omega);have HS9:=zz hs';have HT9:Hid (TLk d' i=d.toList.filter keepT):=zz (by rw [TLk_congr hz' (by omega) hk',HT.out];rw [show j=d.size from HN.out.symm,TLk_all])
        have HCL:=zz (run_clear_toks 0 wr q (i * 5) (j - i) (cap - i) (by omega) (fun m hm=>by
          have :=HS.out.row.wr (i:=i+m / 5) (by omega) (m % 5) (by omega);rw [show (i+m / 5) * 5+m % 5=i * 5+m by omega] at this
          exact this))
        have hzz:d'.size=j:=by omega
        clear hs' hk' hz';have hcl:=HCL.out
        go_wp2
        go_ret;exact ⟨i,rfl,d',HS9.out,hzz,by omega,HT9.out⟩
end
section
open Go.RowKit
def tkOf (t:Tok):Tk:=⟨t.k,t.s,t.n,t.l,t.c⟩
def toksE (s:ByteArray):List Tk:=((lexes s).2.2.2.filter keepT).map tkOf
inductive Pr1 where
  | ok (x:Ex)
  | bad (k l c:Int)
def fuelE (s:ByteArray):Nat:=8 * (toksE s).length+8
def parseE (s:ByteArray):Pr1:=
  if (lexes s).1=0 then
    match readE (toksE s) (fuelE s) .expr 0 0 with
    | some (.ok x j)=>if (nowT (toksE s) j).k=0 then .ok x else .bad 1 (nowT (toksE s) j).l (nowT (toksE s) j).c
    | some (.bad l c)=>.bad 1 l c
    | none=>.bad 0 0 0
  else .bad (lexes s).1 (lexes s).2.1 (lexes s).2.2.1
theorem scanB_end:∀ (n:Nat) (com:Bool) (A:List UInt8) (l c:Nat),A.length≤n→(scanB com A l c).1=none→∃ ts e,(scanB com A l c).2=ts++[e]∧e.k=0:=by
  intro n
  induction n with
  | zero =>
    intro com A l c hA _;have :A=[]:=List.eq_nil_of_length_eq_zero (by omega);subst this
    have e:scanB com [] l c=(none,[endT l c]):=by cases com <;> (show scanS [] l c=_;exact scanS_nil l c)
    exact ⟨[],endT l c,by rw [e];rfl,rfl⟩
  | succ n ih =>
    intro com A l c hA h;have hle:=skipG_le com A l c;unfold scanB at h ⊢;obtain ⟨r,hr⟩:∃ r,(skipG com A l c).1=r:=⟨_,rfl⟩;rw [hr] at h hle ⊢
    cases r with
    | nil=>rw [scanS_nil];exact ⟨[],_,rfl,rfl⟩
    | cons x r =>
      cases ht:tokL (x::r) with
      | none=>rw [scanS_bad _ _ (by simp) ht] at h;cases h
      | some p =>
        obtain ⟨k,t,m⟩:=p;have h1:=(tokL_pre ht).1;rw [scanS_tok _ _ ht] at h ⊢;obtain ⟨ts,e,h2,h3⟩:=ih false ((x::r).drop t.length) _ _ (by rw [List.length_drop];simp only [List.length_cons] at hle ⊢;omega) h;exact ⟨_,e,by rw [addT,h2, ←List.append_assoc],h3⟩
theorem lex_parts {s:ByteArray} (h:(lexes s).1=0):∃ ts e,(lexes s).2.2.2=ts++[e]∧e.k=0∧(ts++[e]).length≤8193:=by
  by_cases hl:4096<s.size
  · rw [lexes_long s hl] at h;cases h
  · cases hs:scanB false s.data.toList 1 1 with
    | mk o ts =>
      cases o with
      | some p=>rw [lexes_bad s hl hs] at h;cases h
      | none =>
        obtain ⟨us,e,h1,h2⟩:=scanB_end _ false s.data.toList 1 1 (Nat.le_refl _) (by rw [hs]);have h3:=scanB_len _ false s.data.toList 1 1 (Nat.le_refl _);rw [hs] at h1 h3;simp only at h1 h3
        have h4:s.data.toList.length=s.size:=by rw [length_data]
        rw [lexes_ok s hl hs];exact ⟨us,e,h1,h2,by rw [←h1];omega⟩
theorem toksE_end {s:ByteArray} (h:(lexes s).1=0):∃ us e,toksE s=us++[e]∧e.k=0∧(toksE s).length≤8193:=by
  obtain ⟨ts,e,h1,h2,h3⟩:=lex_parts h
  have hk:keepT e=true:=by unfold keepT;simp [h2]
  refine ⟨(ts.filter keepT).map tkOf,tkOf e,?_,h2,?_⟩
  · unfold toksE
    rw [h1,List.filter_append,List.filter_cons,hk]
    simp
  · unfold toksE
    rw [h1,List.length_map];exact Nat.le_trans (List.length_filter_le _ _) h3
theorem parse_parts {s:ByteArray} (h:(lexes s).1=0):∃ r,readE (toksE s) (fuelE s) .expr 0 0=some r∧∀ x j,r=.ok x j→j<(toksE s).length:=by
  have ht:=readE_total (ts:=toksE s) (fuelE s) .expr 0 0 (by unfold fuelE;simp only [wNt];omega);obtain ⟨r,hr⟩:=Option.isSome_iff_exists.1 ht;refine ⟨r,hr,fun x j e=>?_⟩;subst e;obtain ⟨us,e,h1,h2,_⟩:=toksE_end h
  have hp:(nowT (toksE s) us.length).k=0:=by
    rw [now_at (t:=e) (by rw [h1];simp)];exact h2
  have :=readE_stop hp _ _ _ _ _ _ (Nat.zero_le _) hr
  rw [h1];simp;omega
theorem trow_memS {S:Nat→Prop} {w:World} {q k cap:Nat} {d:Array Tok} (h:TRow w q d) (hq:S q) (hk:k≤d.size) (hcap:k≤cap) (hmx:cap≤9223372036854775807):Mem S w (.s 5 (tkRows ((TLk d k).map tkOf))) (.slice (some ⟨q,0,none⟩) k cap):=by
  have hl:(tkRows ((TLk d k).map tkOf)).length=k:=by rw [tkRows_len,List.length_map,TLk_len hk]
  have hat:∀ i (hi:i<(tkRows ((TLk d k).map tkOf)).length),(tkRows ((TLk d k).map tkOf))[i]=tkRow (tkOf d[i]!):=fun i hi=>by
    have hi':i<k:=by omega
    simp only [tkRows,List.getElem_map]
    congr 2
    unfold TLk;rw [List.getElem_take]
    simp [show i<d.size by omega]
  refine .s q 0 k cap 5 _ (fun i j=>((tokR d[i]!)[j]?).getD undef) hl hcap hmx hq (fun i hi=>by rw [hat i hi];rfl) (fun i j hi hj=>?_) (fun i j hi hj=>?_)
  · rw [Nat.zero_add,(h i (by omega) j hj).1,List.getElem?_eq_getElem (by rw [tokR_len];exact hj)];rfl
  · have e:=hat i hi
    have hj5:j<5:=by rw [e] at hj;exact hj
    have e2:((tkRows ((TLk d k).map tkOf))[i])[j]=(tkRow (tkOf d[i]!))[j]'(by exact hj5):=by simp only [e];rfl
    rw [e2]
    match j,hj5 with
    | 0,_=>exact .v _ rfl
    | 1,_=>exact .v _ rfl
    | 2,_=>exact .v _ rfl
    | 3,_=>exact .v _ rfl
    | 4,_=>exact .v _ rfl
theorem OwnT.ds {base:Nat} {w:World} {a:Option Addr} {n cap:Nat} {ts:List Tok} (h:OwnT base w (.slice a n cap) ts) (hn:ts≠[]):∃ q,a=some ⟨q,0,none⟩∧base≤q∧n=ts.length∧n≤cap∧cap≤9223372036854775807∧DS w q ts.toArray w:=by
  rcases h.2 with ⟨e,hz⟩ | ⟨g,cap',cur,e,hb,hgg,hncap,hcap,hsz,htake⟩
  · exact absurd (List.eq_nil_of_length_eq_zero hz) hn
  · cases e
    refine ⟨g,rfl,hb,rfl,hncap,by simpa [maxLen] using hcap,⟨(Array.getElem?_eq_some_iff.1 hgg).1,grownBy_refl _ _,fun i hi j hj=>?_⟩⟩
    have hi':i<ts.length:=by simpa using hi
    refine ⟨?_,frozen_of_row w g _ cur _ hgg⟩;have hc:=World.ownsRow.cellAt h (i * 5+j) (by omega);rw [hc]
    have e1:∀ (l:List Tok) (i:Nat) (hi:i<l.length),(tokVs l)[i * 5+j]?=some ((tokR l[i])[j]'(by rw [tokR_len];exact hj)):=by
      intro l
      induction l with
      | nil=>intro i hi;simp at hi
      | cons t l ih =>
        intro i hi
        have ec:tokVs (t::l)=tokR t++tokVs l:=by simp [tokVs]
        rw [ec]
        cases i with
        | zero =>
          rw [Nat.zero_mul,Nat.zero_add,List.getElem?_append_left (by rw [tokR_len];exact hj),List.getElem?_eq_getElem (by rw [tokR_len];exact hj)]
          rfl
        | succ i =>
          rw [List.getElem?_append_right (by rw [tokR_len];omega),tokR_len,show (i+1) * 5+j - 5=i * 5+j by omega,ih i (by simpa using hi)]
          simp
    rw [e1 ts i hi']
    congr 2
    simp [hi']
end
section
section
variable {us:List Tk} {g j:Nat} {y:Ex}
end
end
section
def toksA (s:ByteArray):List Tk:=(lexes s).2.2.2.map tkOf
inductive Md1 where
  | ok (ds:List Da) (rs:List Ru)
  | bad (k l c:Int)
def fuF (ts:List Tk):Nat:=8 * ts.length+8
def fuG (ts:List Tk):Nat:=4 * ts.length+8
def itemsA (ts:List Tk):Option (List Da × List Ru × MS):=itemsM ts (fuF ts) (fuG ts) (ts.length+2) [] [] ⟨0,none⟩
def endM (r:List Da × List Ru × MS):Md1:=
  match r.2.2.b with
  | none=>.ok r.1 r.2.1
  | some p=>.bad 1 p.1 p.2
def modE (s:ByteArray):Md1:=
  if (lexes s).1=0 then
    match itemsA (toksA s) with
    | none=>.bad 0 0 0
    | some r=>endM r
  else .bad (lexes s).1 (lexes s).2.1 (lexes s).2.2.1
theorem itemsA_some (ts:List Tk):∃ r,itemsA ts=some r:=
  Option.isSome_iff_exists.1 (itemsM_total (Nat.le_refl _) (Nat.le_refl _) _ _ _ _ (by show needM ts ⟨0,none⟩≤_;unfold needM MS.ok;simp))
theorem mod_ok {s:ByteArray} {ds:List Da} {rs:List Ru} (h:modE s=.ok ds rs):(lexes s).1=0∧∃ st,itemsA (toksA s)=some (ds,rs,st)∧st.ok=true:=by
  unfold modE at h
  split at h
  · rename_i h0
    refine ⟨h0,?_⟩
    split at h
    · cases h
    · rename_i r hr
      obtain ⟨d,q,st⟩:=r;unfold endM at h
      split at h
      · rename_i hb
        cases h;exact ⟨st,hr,by unfold MS.ok;simp only at hb;rw [hb];rfl⟩
      · cases h
  · cases h
end
end Go.Proofs.YtcoiagfeoonpbaaGreat
