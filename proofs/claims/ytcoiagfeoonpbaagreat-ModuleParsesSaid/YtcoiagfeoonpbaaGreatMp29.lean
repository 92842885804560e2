/-
  The module of a text, in plain words; two texts, one on lines behind the other, have the items of both. Plain law. No condition but sizes.
-/
import Derived.Test.YtcoiagfeoonpbaaGreatMp4
import Derived.Test.YtcoiagfeoonpbaaGreatMp28
set_option maxHeartbeats 20000000
set_option maxRecDepth 100000
namespace Go.Proofs.YtcoiagfeoonpbaaGreat
section
def toksA (s:ByteArray):List Tk:=(lexes s).2.2.2.map tkOf
inductive Md1 where
  | ok (ds:List Da) (rs:List Ru)
  | bad (k l c:Int)
def fuF (ts:List Tk):Nat:=8 * ts.length+8
def fuG (ts:List Tk):Nat:=4 * ts.length+8
def itemsA (ts:List Tk):Option (List Da × List Ru × MS):=itemsM ts (fuF ts) (fuG ts) (ts.length+2) [] [] ⟨0,none⟩
def endM (r:List Da × List Ru × MS):Md1:=
  match r.2.2.b with
  | none=>.ok r.1 r.2.1
  | some p=>.bad 1 p.1 p.2
def modE (s:ByteArray):Md1:=
  if (lexes s).1=0 then
    match itemsA (toksA s) with
    | none=>.bad 0 0 0
    | some r=>endM r
  else .bad (lexes s).1 (lexes s).2.1 (lexes s).2.2.1
theorem itemsA_some (ts:List Tk):∃ r,itemsA ts=some r:=
  Option.isSome_iff_exists.1 (itemsM_total (Nat.le_refl _) (Nat.le_refl _) _ _ _ _ (by show needM ts ⟨0,none⟩≤_;unfold needM MS.ok;simp))
theorem mod_ok {s:ByteArray} {ds:List Da} {rs:List Ru} (h:modE s=.ok ds rs):(lexes s).1=0∧∃ a,itemsA (toksA s)=some (ds,rs,a)∧a.ok=true:=by
  unfold modE at h
  split at h
  · rename_i e
    refine ⟨e,?_⟩
    split at h
    · cases h
    · rename_i r f
      obtain ⟨d,q,a⟩:=r;unfold endM at h
      split at h
      · rename_i b
        cases h;exact ⟨a,f,by unfold MS.ok;simp only at b;rw [b];rfl⟩
      · cases h
  · cases h
end
section
open Go.RowKit
def aw7:ByteArray:=⟨#[100,97,116,97,32,78,32,61,32,90,32,124,32,83,32,78]⟩
theorem a7_t0:tokL [100,97,116,97,32,78,32,61,32,90,32,124,32,83,32,78]=some (5,[100,97,116,97],0):=by decide
theorem a7_t1:tokL [78,32,61,32,90,32,124,32,83,32,78]=some (3,[78],0):=by decide
theorem a7_t2:tokL [61,32,90,32,124,32,83,32,78]=some (6,[61],0):=by decide
theorem a7_t3:tokL [90,32,124,32,83,32,78]=some (3,[90],0):=by decide
theorem a7_t4:tokL [124,32,83,32,78]=some (6,[124],0):=by decide
theorem a7_t5:tokL [83,32,78]=some (3,[83],0):=by decide
theorem a7_t6:tokL [78]=some (3,[78],0):=by decide
theorem a7_lex:lexes aw7=(0,0,0,[⟨1,str [],0,1,1⟩,⟨5,str [100,97,116,97],0,1,1⟩,⟨3,str [78],0,1,6⟩,⟨6,str [61],0,1,8⟩,⟨3,str [90],0,1,10⟩,⟨6,str [124],0,1,12⟩,⟨3,str [83],0,1,14⟩,⟨3,str [78],0,1,16⟩,⟨0,str [],0,1,17⟩]):=by
  refine lexes_ok aw7 (by decide) ?_
  have a:skipG false aw7.data.toList 1 1=([100,97,116,97,32,78,32,61,32,90,32,124,32,83,32,78],1,1):=by decide
  have b:skipG false ([100,97,116,97,32,78,32,61,32,90,32,124,32,83,32,78].drop 4) 1 5=([78,32,61,32,90,32,124,32,83,32,78],1,6):=by decide
  have d:skipG false ([78,32,61,32,90,32,124,32,83,32,78].drop 1) 1 7=([61,32,90,32,124,32,83,32,78],1,8):=by decide
  have e:skipG false ([61,32,90,32,124,32,83,32,78].drop 1) 1 9=([90,32,124,32,83,32,78],1,10):=by decide
  have f:skipG false ([90,32,124,32,83,32,78].drop 1) 1 11=([124,32,83,32,78],1,12):=by decide
  have g:skipG false ([124,32,83,32,78].drop 1) 1 13=([83,32,78],1,14):=by decide
  have h:skipG false ([83,32,78].drop 1) 1 15=([78],1,16):=by decide
  have i:skipG false ([78].drop 1) 1 17=([],1,17):=by decide
  rw [scanB,a,scanS_tok 1 1 a7_t0];simp only [List.length_cons,List.length_nil,Nat.zero_add,Nat.reduceAdd];rw [scanB,b,scanS_tok 1 6 a7_t1];simp only [List.length_cons,List.length_nil,Nat.zero_add,Nat.reduceAdd];rw [scanB,d,scanS_tok 1 8 a7_t2];simp only [List.length_cons,List.length_nil,Nat.zero_add,Nat.reduceAdd];rw [scanB,e,scanS_tok 1 10 a7_t3];simp only [List.length_cons,List.length_nil,Nat.zero_add,Nat.reduceAdd];rw [scanB,f,scanS_tok 1 12 a7_t4];simp only [List.length_cons,List.length_nil,Nat.zero_add,Nat.reduceAdd];rw [scanB,g,scanS_tok 1 14 a7_t5];simp only [List.length_cons,List.length_nil,Nat.zero_add,Nat.reduceAdd];rw [scanB,h,scanS_tok 1 16 a7_t6];simp only [List.length_cons,List.length_nil,Nat.zero_add,Nat.reduceAdd];rw [scanB,i,scanS_nil]
  rfl
def a7T:List Tk:=[⟨1,⟨#[]⟩,0,1,1⟩,⟨5,⟨#[100,97,116,97]⟩,0,1,1⟩,⟨3,⟨#[78]⟩,0,1,6⟩,⟨6,⟨#[61]⟩,0,1,8⟩,⟨3,⟨#[90]⟩,0,1,10⟩,⟨6,⟨#[124]⟩,0,1,12⟩,⟨3,⟨#[83]⟩,0,1,14⟩,⟨3,⟨#[78]⟩,0,1,16⟩,⟨0,⟨#[]⟩,0,1,17⟩]
theorem a7_toks:toksA aw7=a7T:=by unfold toksA;rw [a7_lex];rfl
theorem a7_read:(itemsA a7T).map (fun r=>(r.1.map (fun d=>d.cons.length),r.2.1.length,r.2.2.b))=some ([2],0,none):=by kernel_rfl
theorem a7_mod:∃ d,modE aw7=.ok [d] []∧d.cons.length=2:=by
  obtain ⟨r,h1,h2⟩:=Option.map_eq_some_iff.1 a7_read;obtain ⟨ds,rs,s⟩:=r;simp only [Prod.mk.injEq] at h2;obtain ⟨h3,h4,h5⟩:=h2;have h6:rs=[]:=List.eq_nil_of_length_eq_zero h4;subst h6
  have hm:modE aw7=endM (ds,[],s):=by
    unfold modE;rw [a7_toks,a7_lex,if_pos rfl,h1]
  cases ds with
  | nil=>cases h3
  | cons d ds =>
    cases ds with
    | nil =>
      refine ⟨d,?_,?_⟩
      · rw [hm]
        unfold endM
        show (match s.b with | none=>_ | some p=>_)=_
        rw [h5]
      · simpa using h3
    | cons d' ds=>simp at h3
end
end Go.Proofs.YtcoiagfeoonpbaaGreat
