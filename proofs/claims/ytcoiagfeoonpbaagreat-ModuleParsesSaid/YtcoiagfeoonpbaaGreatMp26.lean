/-
  The scanner's parts, walked: at, while, word. No condition but sizes and how the scanner lies.
-/
import Derived.Test.YtcoiagfeoonpbaaGreatMp25
import Derived.Test.YtcoiagfeoonpbaaGreatMp2
import Derived.Deep.QuietTactic
import Derived.BigQuiet
import Derived.RegionTactic
import Derived.ChangeAlike
import Derived.StillTailTactics
import Derived.Test.YtcoiagfeoonpbaaGreatMp0
import Derived.ScopeJumps
import Derived.WalkMore
import Derived.Laws.OwnMore
set_option maxHeartbeats 20000000
set_option maxRecDepth 100000
namespace Go.Proofs.YtcoiagfeoonpbaaGreat
section
open Go.RowKit
def Sc (w:World) (q:Nat) (s:ByteArray) (i line from':Int) (out:Value):Prop:=Bo w q 105 #[.string s,.int .i64 i,.int .i64 line,.int .i64 from',out]
theorem Sc.c5 {w:World} {q:Nat} {s:ByteArray} {i line a:Int} {out:Value} (h:Sc w q s i line a out):
    w.cell? ⟨q,0,none⟩=some (.string s)∧w.cell? ⟨q,1,none⟩=some (.int .i64 i)∧w.cell? ⟨q,2,none⟩=some (.int .i64 line)∧w.cell? ⟨q,3,none⟩=some (.int .i64 a)∧w.cell? ⟨q,4,none⟩=some out:=
  ⟨Bo.cell h rfl,Bo.cell h rfl,Bo.cell h rfl,Bo.cell h rfl,Bo.cell h rfl⟩
theorem at_any {w:World} {q:Nat} {s:ByteArray} {i line a:Int} {out:Value} (h:Sc w q s i line a out) (j:0≤a) (m:a≤i) (o:i≤1000000):
    Calls Tryz.prog 53 #[.pointer (some ⟨q,0,none⟩)] w fun e b=>e=.returned (.agg #[.int .i64 line,.int .i64 (i - a+1)])∧Below w.heap.size w b:=by
  obtain ⟨d,f,g,c3,c4⟩:=h.c5;have p:=Bo.lt h;go_enter Tryz.func53,Tryz.ntmps53
  go_wp2
  go_region
  all_goals go_wp2
  exact bodyPost_ret (v:=.agg #[.int .i64 line,.int .i64 (i - a+1)]) (by simp [results,Tryz.results53,go_sem]) rfl ⟨rfl,Below.drew (below_new w _)⟩
def inC (least most:Int) (under:Bool) (c:UInt8):Bool:= !((decide (cls c.toNat<least) || decide (most<cls c.toNat)) && !(under && ((c.toNat:Int)==95)))
theorem tw_stop (p:UInt8→Bool) (l:List UInt8) (i k:Nat) (q:i≤k) (b:∀ j (a:j<l.length),i≤j→j<k→p l[j]=true) (m:k≤l.length) (d:∀ (m:k<l.length),p l[k]=false):(l.drop i).takeWhile p=(l.drop i).take (k - i):=by
  have e:l.drop i=(l.drop i).take (k - i)++l.drop k:=by
    conv=>lhs;rw [←List.take_append_drop (k - i) (l.drop i)]
    rw [List.drop_drop,show i+(k - i)=k by omega]
  have f:∀ x∈(l.drop i).take (k - i),p x=true:=by
    intro x o;obtain ⟨j,a,rfl⟩:=List.getElem_of_mem o;rw [List.length_take,List.length_drop] at a;rw [List.getElem_take,List.getElem_drop];exact b _ (by omega) (by omega) (by omega)
  have g:(l.drop k).takeWhile p=[]:=by
    rcases Nat.lt_or_ge k l.length with h | h
    · rw [List.drop_eq_getElem_cons h,List.takeWhile_cons_of_neg (by rw [d h];decide)]
    · rw [List.drop_eq_nil_of_le h];rfl
  conv=>lhs;rw [e]
  rw [List.takeWhile_append_of_pos f,g,List.append_nil]
theorem ext_tw (p:UInt8→Bool) (s:ByteArray) (i k:Nat) (e:i≤k) (b:∀ j (f:j<s.data.toList.length),i≤j→j<k→p s.data.toList[j]=true) (a:k≤s.size) (d:∀ (a:k<s.data.toList.length),p s.data.toList[k]=false):s.extract i k=str ((s.data.toList.drop i).takeWhile p):=by
  rw [tw_stop p _ i k e b (by rw [length_data];exact a) d, ←ext_eq];exact (str_eta _).symm
theorem while_any {w:World} {q:Nat} {s:ByteArray} {line from':Int} {out:Value} (i:Nat) (least most:Int) (under:Bool) (h:Sc w q s i line from' out) (hi:i≤s.size) (hs:s.size≤1000000):
    Calls Tryz.prog 89 #[.pointer (some ⟨q,0,none⟩),.int .i64 least,.int .i64 most,.bool under] w fun e w'=>e=.returned (.string (str ((s.data.toList.drop i).takeWhile (inC least most under))))∧Below w.heap.size w w':=by
  obtain ⟨c0,c1,c2,c3,c4⟩:=h.c5;clear h;go_enter Tryz.func89,Tryz.ntmps89
  go_wp2
  go_loop [9,10] (fun n _=>∃ k:Nat,i≤k∧k≤s.size∧n=.int .i64 k∧Hid (∀ j (hj:j<s.data.toList.length),i≤j→j<k→inC least most under s.data.toList[j]=true)) (fun n _=>s.size - (intOf n).toNat)
  case atStart=>exact ⟨i,Nat.le_refl _,hi,rfl,fun j _ h1 h2=>by omega⟩
  case round=>
    obtain ⟨k,hik,hk,rfl,HN⟩:=hrel
    by_cases hlt:k<s.size
    · have HX:=zz (fun (h1:inC least most under s[k]=true) (j:Nat) (hj:j<s.data.toList.length) (h2:i≤j) (_h3:j<k+1)=>(by
        rcases Nat.lt_or_ge j k with h4 | h4
        · exact HN.out j hj h2 h4
        · obtain rfl:j=k:=by omega
          exact h1:inC least most under s.data.toList[j]=true))
      have HY:=zz (fun (h1:inC least most under s[k]=false)=>ext_tw (inC least most under) s i k hik HN.out hk (fun _=>h1));have HC:Hid (inC least most under s[k]= !((decide (cls s[k].toNat<least) || decide (most<cls s[k].toNat)) && !(under && ((s[k].toNat:Int)==95)))):=zz rfl;obtain ⟨b1,e1⟩:∃ b,decide (cls s[k].toNat<least)=b:=⟨_,rfl⟩;obtain ⟨b2,e2⟩:∃ b,decide (most<cls s[k].toNat)=b:=⟨_,rfl⟩;obtain ⟨b3,e3⟩:∃ b,((s[k].toNat:Int)==95)=b:=⟨_,rfl⟩;rw [e1,e2,e3] at HC
      cases b1 <;> cases b2 <;> cases b3 <;> cases under
      all_goals
        go_wp2_with (go_at_call 85;refine (class_any _ _).mono ?_;rintro e w' ⟨rfl,rfl⟩)
        first
          | (go_round
             case rel=>exact ⟨k+1,by omega,by omega,by go_num,HX.out HC.out⟩
             case measure=>simp [intOf];omega)
          | (go_region
             all_goals go_wp2
             go_ret
             exact ⟨ret_str (HY.out HC.out),Below.drew (Below.refl _ _)⟩)
    · have HY:Hid (s.extract i k=str (List.takeWhile (inC least most under) (List.drop i s.data.toList))):=zz (ext_tw (inC least most under) s i k hik HN.out hk (fun h=>absurd h (by rw [length_data];exact hlt)))
      go_wp2
      go_region
      all_goals go_wp2
      go_ret;exact ⟨ret_str HY.out,Below.drew (Below.refl _ _)⟩
theorem inC_part (c:UInt8):inC 1 3 true c=partB c:=by
  simp only [inC,partB,part,Bool.true_and];generalize cls c.toNat=x;generalize ((c.toNat:Int)==95)=b;cases b
  · simp only [Bool.not_false,Bool.and_true,Bool.false_or]
    rw [Bool.eq_iff_iff];simp
  · simp
theorem inC_dig (c:UInt8):inC 3 3 false c=isDig c:=by
  simp only [inC,isDig,Bool.false_and,Bool.not_false,Bool.and_true];rw [Bool.eq_iff_iff];simp only [Bool.not_eq_true',Bool.or_eq_false_iff,decide_eq_false_iff_not,Bool.and_eq_true,decide_eq_true_eq];unfold cls
  repeat' split
  all_goals omega
theorem store_tok {b:Option Nat} {f:TypeId} {pos:String} {d:Array Edge} {e:Option (Nat × Bool)} {x y:Operand} {a:Act} {w:World} {K:Act→World→Prop} {Q:Exit→Act→World→Prop} (h:StOk 53 5 w (a.eval x) (a.eval y)):
    Oper.wp Tryz.prog { dst:=b,op:=.store 53 x y,type:=f,pos:=pos,after:=d,guard:=e } a w K Q=K (a.put b undef) (w.setRow (stB (a.eval x)) (stC (a.eval y))):=wp_store_T rfl (by kernel_rfl) h
theorem stOk_tok {w:World} {g:Nat} {k n l c:Int} {s:ByteArray} :StOk 53 5 w (.pointer (some ⟨g,0,none⟩)) (.agg #[.int .i64 k,.string s,.int .i64 n,.int .i64 l,.int .i64 c])=Wr w g 53 5:=stOk_eq rfl (by simp [Value.oneCell'])
theorem Bo.t5 {w:World} {q:Nat} {t:TypeId} {a b d c3 c4:Value} (h:Bo w q t #[a,b,d,c3,c4]):w.cell? ⟨q,0,none⟩=some a∧w.cell? ⟨q,1,none⟩=some b∧w.cell? ⟨q,2,none⟩=some d∧w.cell? ⟨q,3,none⟩=some c3∧w.cell? ⟨q,4,none⟩=some c4:=
  ⟨h.cell rfl,h.cell rfl,h.cell rfl,h.cell rfl,h.cell rfl⟩
attribute [local go_sem ↓] store_tok
attribute [local go_sem] stOk_tok stB_eq stC_eq wr_drew wr_alloc wr_row
def kindW (s:ByteArray):Int:=if isKey s then 5 else if isWord s 1 then 2 else if isWord s 2 then 3 else 0
theorem lword_any (s:ByteArray) (w:World) (hs:s.size≤1000000):
    Calls Tryz.prog 88 #[.string s] w fun e w'=>e=.returned (.tuple #[.agg #[.int .i64 (kindW s),.string s,.int .i64 0,.int .i64 0,.int .i64 0],.bool (kindW s != 0)])∧Below w.heap.size w w':=by
  have hm:s.size≤maxLen:=by unfold maxLen;omega
  have key:=zz (fun w=>key_any s w);have nam:=zz (fun w=>name_any s w hm);have upp:=zz (fun w=>upper_any s w hm);clear hm hs
  cases h1:isKey s <;> cases h2:isWord s 1 <;> cases h3:isWord s 2
  all_goals
    (simp only [h1, h2, h3, Bool.not_true, Bool.not_false, Bool.and_true, Bool.and_false] at key nam upp
     obtain ⟨kk,hk⟩:∃ kk,kk=kindW s:=⟨_,rfl⟩;rw [←hk];unfold kindW at hk;simp only [h1,h2,h3,if_true,if_false,Bool.false_eq_true] at hk;subst hk
     clear h1 h2 h3)
  all_goals
    have HA0:Hid (Bo ((w.alloc (.cells #[.int .i64 0,.string ⟨#[]⟩,.int .i64 0,.int .i64 0,.int .i64 0] 53)).alloc (.cells #[.int .i64 0,.string s,.int .i64 0,.int .i64 0,.int .i64 0] 53)) (w.heap.size+1) 53 #[.int .i64 0,.string s,.int .i64 0,.int .i64 0,.int .i64 0]):=by
      have :=Bo.new (w.alloc (.cells #[.int .i64 0,.string ⟨#[]⟩,.int .i64 0,.int .i64 0,.int .i64 0] 53)) 53 #[.int .i64 0,.string s,.int .i64 0,.int .i64 0,.int .i64 0];rw [World.size_alloc] at this;exact zz this
    have HR0:Hid (Bo ((w.alloc (.cells #[.int .i64 0,.string ⟨#[]⟩,.int .i64 0,.int .i64 0,.int .i64 0] 53)).alloc (.cells #[.int .i64 0,.string s,.int .i64 0,.int .i64 0,.int .i64 0] 53)) w.heap.size 53 #[.int .i64 0,.string ⟨#[]⟩,.int .i64 0,.int .i64 0,.int .i64 0]):=zz ((Bo.new w 53 _).alloc _);have HB0:Hid (Below w.heap.size w ((w.alloc (.cells #[.int .i64 0,.string ⟨#[]⟩,.int .i64 0,.int .i64 0,.int .i64 0] 53)).alloc (.cells #[.int .i64 0,.string s,.int .i64 0,.int .i64 0,.int .i64 0] 53))):=zz (((Below.refl _ w).alloc (Nat.le_refl _) _).alloc (by simp) _);go_enter Tryz.func88,Tryz.ntmps88
    go_wp2_with (first
      | (go_at_call 122
         refine (key.out _).mono ?_;rintro e w1 ⟨rfl,hb1⟩;have HA1:=zz (HA0.out.keep hb1);have HR1:=zz (HR0.out.keep hb1);have HB1:Hid (Below w.heap.size w w1):=zz (HB0.out.trans (hb1.mono HB0.out.size));have f1:=HA1.out.frozen 0;obtain ⟨c10,c11,c12,c13,c14⟩:=HA1.out.t5;have x5:Bo (w1.setCell ⟨w.heap.size+1,0,none⟩ (.int .i64 5)) (w.heap.size+1) 53 #[.int .i64 5,.string s,.int .i64 0,.int .i64 0,.int .i64 0]:=HA1.out.set 0 (.int .i64 5);have y5:Wr (w1.setCell ⟨w.heap.size+1,0,none⟩ (.int .i64 5)) w.heap.size 53 5:=(HR1.out.far 0 (.int .i64 5) (by omega)).wr;obtain ⟨x50,x51,x52,x53,x54⟩:=x5.t5;have z5:((w1.setCell ⟨w.heap.size+1,0,none⟩ (.int .i64 5)).drew.setRow w.heap.size #[.int .i64 5,.string s,.int .i64 0,.int .i64 0,.int .i64 0]).cell? ⟨w.heap.size+1,0,none⟩=some (.int .i64 5):=((Bo.drew x5).rowFar _ (by omega)).cell rfl;have HQ5:Hid (Bo (w1.setCell ⟨w.heap.size+1,0,none⟩ (.int .i64 5)) w.heap.size 53 #[.int .i64 0,.string ⟨#[]⟩,.int .i64 0,.int .i64 0,.int .i64 0]):=zz (HR1.out.far 0 (.int .i64 5) (by omega))
         clear hb1)
      | (go_at_call 123
         refine (nam.out _).mono ?_;rintro e w2 ⟨rfl,hb2⟩;have HA2:=zz (HA1.out.keep hb2);have HR2:=zz (HR1.out.keep hb2);have HB2:Hid (Below w.heap.size w w2):=zz (HB1.out.trans (hb2.mono HB1.out.size));have f2:=HA2.out.frozen 0;obtain ⟨c20,c21,c22,c23,c24⟩:=HA2.out.t5;have y0:Wr w2 w.heap.size 53 5:=HR2.out.wr;have z0:(w2.drew.setRow w.heap.size #[.int .i64 0,.string s,.int .i64 0,.int .i64 0,.int .i64 0]).cell? ⟨w.heap.size+1,0,none⟩=some (.int .i64 0):=((Bo.drew HA2.out).rowFar _ (by omega)).cell rfl;have x2:Bo (w2.setCell ⟨w.heap.size+1,0,none⟩ (.int .i64 2)) (w.heap.size+1) 53 #[.int .i64 2,.string s,.int .i64 0,.int .i64 0,.int .i64 0]:=HA2.out.set 0 (.int .i64 2);have y2:Wr (w2.setCell ⟨w.heap.size+1,0,none⟩ (.int .i64 2)) w.heap.size 53 5:=(HR2.out.far 0 (.int .i64 2) (by omega)).wr;obtain ⟨x20,x21,x22,x23,x24⟩:=x2.t5;have z2:((w2.setCell ⟨w.heap.size+1,0,none⟩ (.int .i64 2)).drew.setRow w.heap.size #[.int .i64 2,.string s,.int .i64 0,.int .i64 0,.int .i64 0]).cell? ⟨w.heap.size+1,0,none⟩=some (.int .i64 2):=((Bo.drew x2).rowFar _ (by omega)).cell rfl;have HQ2:Hid (Bo (w2.setCell ⟨w.heap.size+1,0,none⟩ (.int .i64 2)) w.heap.size 53 #[.int .i64 0,.string ⟨#[]⟩,.int .i64 0,.int .i64 0,.int .i64 0]):=zz (HR2.out.far 0 (.int .i64 2) (by omega));have x3:Bo (w2.setCell ⟨w.heap.size+1,0,none⟩ (.int .i64 3)) (w.heap.size+1) 53 #[.int .i64 3,.string s,.int .i64 0,.int .i64 0,.int .i64 0]:=HA2.out.set 0 (.int .i64 3);have y3:Wr (w2.setCell ⟨w.heap.size+1,0,none⟩ (.int .i64 3)) w.heap.size 53 5:=(HR2.out.far 0 (.int .i64 3) (by omega)).wr;obtain ⟨x30,x31,x32,x33,x34⟩:=x3.t5;have z3:((w2.setCell ⟨w.heap.size+1,0,none⟩ (.int .i64 3)).drew.setRow w.heap.size #[.int .i64 3,.string s,.int .i64 0,.int .i64 0,.int .i64 0]).cell? ⟨w.heap.size+1,0,none⟩=some (.int .i64 3):=((Bo.drew x3).rowFar _ (by omega)).cell rfl;have HQ3:Hid (Bo (w2.setCell ⟨w.heap.size+1,0,none⟩ (.int .i64 3)) w.heap.size 53 #[.int .i64 0,.string ⟨#[]⟩,.int .i64 0,.int .i64 0,.int .i64 0]):=zz (HR2.out.far 0 (.int .i64 3) (by omega))
         clear hb2)
      | (go_at_call 124;refine (upp.out _).mono ?_;rintro e w3 ⟨rfl,rfl⟩))
    go_region
    all_goals go_wp2
  all_goals first
    | (have HE := zz ((Bo.drew HQ5.out).row #[.int .i64 5, .string s, .int .i64 0, .int .i64 0, .int .i64 0]).t5
       exact bodyPost_ret (v:=.tuple #[.agg #[.int .i64 5,.string s,.int .i64 0,.int .i64 0,.int .i64 0],.bool true]) (by simp [results,Tryz.results88,go_sem,HE.out]) rfl ⟨rfl,below_setRow (Below.drew (HB1.out.setCell (p:=⟨w.heap.size+1,0,none⟩) (Nat.le_succ _) _)) (Nat.le_refl _) _⟩)
    | (have HE := zz ((Bo.drew HQ2.out).row #[.int .i64 2, .string s, .int .i64 0, .int .i64 0, .int .i64 0]).t5
       exact bodyPost_ret (v:=.tuple #[.agg #[.int .i64 2,.string s,.int .i64 0,.int .i64 0,.int .i64 0],.bool true]) (by simp [results,Tryz.results88,go_sem,HE.out]) rfl ⟨rfl,below_setRow (Below.drew (HB2.out.setCell (p:=⟨w.heap.size+1,0,none⟩) (Nat.le_succ _) _)) (Nat.le_refl _) _⟩)
    | (have HE := zz ((Bo.drew HQ3.out).row #[.int .i64 3, .string s, .int .i64 0, .int .i64 0, .int .i64 0]).t5
       exact bodyPost_ret (v:=.tuple #[.agg #[.int .i64 3,.string s,.int .i64 0,.int .i64 0,.int .i64 0],.bool true]) (by simp [results,Tryz.results88,go_sem,HE.out]) rfl ⟨rfl,below_setRow (Below.drew (HB2.out.setCell (p:=⟨w.heap.size+1,0,none⟩) (Nat.le_succ _) _)) (Nat.le_refl _) _⟩)
    | (have HE := zz ((Bo.drew HR2.out).row #[.int .i64 0, .string s, .int .i64 0, .int .i64 0, .int .i64 0]).t5
       exact bodyPost_ret (v:=.tuple #[.agg #[.int .i64 0,.string s,.int .i64 0,.int .i64 0,.int .i64 0],.bool false]) (by simp [results,Tryz.results88,go_sem,HE.out]) rfl ⟨rfl,below_setRow (Below.drew (HB2.out)) (Nat.le_refl _) _⟩)
end
section
open Go.RowKit
theorem skipG_rem (r:List UInt8) (l c:Nat):skipG true r l c=skipG false (r.dropWhile (· != 10)) l (c+(r.takeWhile (· != 10)).length):=by
  induction r generalizing c with
  | nil=>rfl
  | cons x r ih =>
    by_cases h:x=10
    · subst h;simp [skipG]
    · have h1:(x != 10)=true:=by simpa using h
      simp only [skipG,if_neg h];rw [List.dropWhile_cons_of_pos (p:=(· != 10)) h1,List.takeWhile_cons_of_pos (p:=(· != 10)) h1,ih];simp only [List.length_cons]
      congr 1;omega
theorem cls4 (c:UInt8):(cls c.toNat==4)=(c==32):=by
  have :c=32 ↔ (c.toNat:Int)=32:=⟨fun h=>by subst h;rfl,fun h=>UInt8.toNat_inj.1 (by show c.toNat=32;omega)⟩;rw [Bool.eq_iff_iff,beq_iff_eq,beq_iff_eq,this];unfold cls
  repeat' split
  all_goals omega
theorem cls5 (c:UInt8):(cls c.toNat==5)=(c==10):=by
  have :c=10 ↔ (c.toNat:Int)=10:=⟨fun h=>by subst h;rfl,fun h=>UInt8.toNat_inj.1 (by show c.toNat=10;omega)⟩;rw [Bool.eq_iff_iff,beq_iff_eq,beq_iff_eq,this];unfold cls
  repeat' split
  all_goals omega
theorem pre_two (x:UInt8) (r:List UInt8):pre? [45,45] (x::r)=true ↔ x=45∧r.head?=some 45:=by
  cases r with
  | nil=>simp [pre?,List.isPrefixOf]
  | cons y r=>simp [pre?,List.isPrefixOf];constructor <;> rintro ⟨rfl,rfl⟩ <;> exact ⟨rfl,rfl⟩
theorem Exit.jump_mono {l:Nat} {J J':Act→World→Prop} {Q:Exit→Act→World→Prop} (h:∀ a w,J a w→J' a w):∀ e a w,Exit.jump l J Q e a w→Exit.jump l J' Q e a w:=by
  intro e a w b
  cases e <;> first | exact b | exact ⟨b.1,h _ _ b.2⟩
theorem ext_drop (s:ByteArray) (i:Nat):(s.extract i s.size).data.toList=s.data.toList.drop i:=by
  rw [ext_eq,List.take_of_length_le (by rw [List.length_drop,length_data];exact Nat.le_refl _)]
theorem hasPrefix_at (s p:ByteArray) (i:Nat) (b:Bool) (w:World) (h:pre? p.data.toList (s.data.toList.drop i)=b):
    Calls Tryz.prog 86 #[.string (s.extract i s.size),.string p] w fun e a=>e=.returned (.bool b)∧w=a:=by
  have :=hasPrefix_any (s.extract i s.size) p w;rw [ext_drop,h] at this;exact this
def nlI (r:List UInt8):Int:=if r.any (· ==10) then ((r.takeWhile (· != 10)).length:Int) else -1
theorem indexByte_at (s:ByteArray) (i:Nat) (k:Int) (w:World) (h:nlI (s.data.toList.drop i)=k):
    Calls Tryz.prog 87 #[.string (s.extract i s.size),.int .u8 10] w fun e a=>e=.returned (.int .i64 k)∧w=a:=by
  have :=indexByte_any (s.extract i s.size) 10 w;rw [ext_drop,show (10:Int).toNat.toUInt8=(10:UInt8) from rfl,indexByte_take] at this;rw [←h];exact this
theorem skipG_far {r:List UInt8} (l c:Nat) (h:pre? [45,45] r=true) (k:Nat) (hk:k=(r.takeWhile (· != 10)).length):skipG false r l c=skipG false (r.drop k) l (c+k)∧2≤k∧k≤r.length:=by
  cases r with
  | nil=>cases h
  | cons x r =>
    obtain ⟨rfl,h2⟩:=(pre_two x r).1 h
    cases r with
    | nil=>cases h2
    | cons y r =>
      have hy:y=45:=by simpa using h2
      subst hy
      have h3:skipG false (45::45::r) l c=skipG true (45::45::r) l c:=by simp [skipG]
      have h4:((45::45::r).takeWhile (· != 10)).length=(r.takeWhile (· != 10)).length+2:=by
        rw [List.takeWhile_cons_of_pos (by decide),List.takeWhile_cons_of_pos (by decide)];rfl
      have h5:=(List.takeWhile_prefix (l:=(45:UInt8)::45::r) (· != 10)).length_le
      have h6:(45::45::r).drop k=(45::45::r).dropWhile (· != 10):=by
        rw [hk]
        conv=>lhs;arg 2;rw [←List.takeWhile_append_dropWhile (p:=(· != 10)) (l:=(45:UInt8)::45::r)]
        rw [List.drop_left'];rfl
      rw [h3,skipG_rem,h6,hk];exact ⟨rfl,by omega,h5⟩
theorem tw_all (p:UInt8→Bool) (l:List UInt8) (h:∀ x∈l,p x=true):l.takeWhile p=l:=by
  have :=List.takeWhile_append_of_pos (l₂:=[]) h
  simpa using this
theorem wp_scope_label {P:Program} {y:Code} {a:Act} {w:World} {Q:Exit→Act→World→Prop} (J:Act→World→Prop) (μ:Act→World→Nat)
    (d:∀ a w,J a w→y.wp P (Exit.jump 0 (fun b e=>J b e∧μ b e<μ a w) Q) a w) (g:J a w) (i:findLabel ((Code.label 0).seq y) 0=some (Code.skip.seq y)):(Code.scope ((Code.label 0).seq y)).wp P Q a w:=
  wp_scope_jumps (rest:=Code.skip.seq y) 0 J μ i (wp_seq (wp_label (Code.wp_mono (Exit.jump_mono fun _ _ j=>j.1) (d _ _ g)))) (fun f m h=>wp_seq (wp_skip (d f m h)))
def SkSt (w0:World) (q:Nat) (s:ByteArray) (out:Value) (R:List UInt8 × Nat × Nat) (w:World) (i l f:Nat):Prop:=
  Sc w q s i l f out∧Far (fun k=>k=q) w0 w∧i≤s.size∧f≤i∧l≤i+1∧skipG false (s.data.toList.drop i) l (i - f+1)=R
def skM (q n:Nat) (w:World):Nat:=match w.cell? ⟨q,1,none⟩ with | some (.int _ i)=>n - i.toNat | _=>0
theorem skM_eq {q n i:Nat} {w:World} {s:ByteArray} {l f:Int} {out:Value} (h:Sc w q s i l f out):skM q n w=n - i:=by
  rw [skM,h.c5.2.1];simp
theorem frame_any (n:Nat) (p:Value) (a:Act) (h:a.tmps.size=n+1) (h0:a.tmps[0]?=some p) (hd:a.defers=[]):∃ u:Nat→Value,a= { tmps:=(p::(List.range n).map fun k=>u (k+1)).toArray,defers:=[] } :=by
  obtain ⟨ts,ds⟩:=a;refine ⟨fun k=>ts.getD k undef,?_⟩;simp only at h h0 hd;subst hd
  congr 1
  apply Array.ext'
  refine List.ext_getElem (by simp;omega) fun i h1 h2=>?_
  cases i with
  | zero =>
    have :ts[0]?=some (ts[0]'(by omega)):=Array.getElem?_eq_getElem _;rw [this] at h0
    simpa using h0
  | succ i =>
    have hi:i+1<ts.size:=by simpa using h1
    simp [Array.getD,hi]
theorem frame98 (q:Nat) (a:Act) (h:a.tmps.size=98) (b:a.tmps[0]?=some (.pointer (some ⟨q,0,none⟩))) (d:a.defers=[]):∃ u:Nat→Value,a= { tmps:=#[.pointer (some ⟨q,0,none⟩),u 1,u 2,u 3,u 4,u 5,u 6,u 7,u 8,u 9,u 10,u 11,u 12,u 13,u 14,u 15,u 16,u 17,u 18,u 19,u 20,u 21,u 22,u 23,u 24,u 25,u 26,u 27,u 28,u 29,u 30,u 31,u 32,u 33,u 34,u 35,u 36,u 37,u 38,u 39,u 40,u 41,u 42,u 43,u 44,u 45,u 46,u 47,u 48,u 49,u 50,u 51,u 52,u 53,u 54,u 55,u 56,u 57,u 58,u 59,u 60,u 61,u 62,u 63,u 64,u 65,u 66,u 67,u 68,u 69,u 70,u 71,u 72,u 73,u 74,u 75,u 76,u 77,u 78,u 79,u 80,u 81,u 82,u 83,u 84,u 85,u 86,u 87,u 88,u 89,u 90,u 91,u 92,u 93,u 94,u 95,u 96,u 97],defers:=[] } :=frame_any 97 _ a h b d
theorem Sc.setI {w:World} {q:Nat} {s:ByteArray} {i l f:Int} {out:Value} (h:Sc w q s i l f out) (n:Nat) (j:Int):Sc ((w.drewN n).setCell ⟨q,1,none⟩ (.int .i64 j)) q s j l f out:=Bo.set (w:=w.drewN n) h 1 (.int .i64 j)
theorem Sc.setL {w:World} {q:Nat} {s:ByteArray} {i l f:Int} {out:Value} (h:Sc w q s i l f out) (n:Nat) (j:Int):Sc ((w.drewN n).setCell ⟨q,2,none⟩ (.int .i64 j)) q s i j f out:=Bo.set (w:=w.drewN n) h 2 (.int .i64 j)
theorem Sc.setF {w:World} {q:Nat} {s:ByteArray} {i l f:Int} {out:Value} (h:Sc w q s i l f out) (n:Nat) (j:Int):Sc ((w.drewN n).setCell ⟨q,3,none⟩ (.int .i64 j)) q s i l j out:=Bo.set (w:=w.drewN n) h 3 (.int .i64 j)
theorem sk_jump {e g d:World} {q:Nat} {s:ByteArray} {out:Value} {R:List UInt8 × Nat × Nat} {i l f b l2 f2:Nat} (h:Sc g q s i l f out) (j:i<b) (a:SkSt e q s out R d b l2 f2):
    (∃ i l f:Nat,SkSt e q s out R d i l f)∧skM q s.size d<skM q s.size g:=
  ⟨⟨b,l2,f2,a⟩,by rw [skM_eq h,skM_eq a.1];have :=a.2.2.1;omega⟩
theorem skip_any {w:World} {q:Nat} {s:ByteArray} {out:Value} {R:List UInt8 × Nat × Nat} (i l f:Nat) (h:SkSt w q s out R w i l f) (hs:s.size≤1000000):
    Calls Tryz.prog 51 #[.pointer (some ⟨q,0,none⟩)] w fun e b=>e=.returned (.tuple #[])∧∃ r M I:Nat,Sc b q s r M I out∧Far (fun k=>k=q) w b∧r≤s.size∧I≤r∧M≤r+1∧R=(s.data.toList.drop r,M,r - I+1):=by
  go_enter Tryz.func51,Tryz.ntmps51
  go_wp2
  refine wp_scope_label (fun v b=>v.tmps.size=98∧v.tmps[0]?=some (.pointer (some ⟨q,0,none⟩))∧v.defers=[]∧∃ (i l f:Nat),SkSt w q s out R b i l f) (fun _ b=>skM q s.size b) ?pass ⟨rfl,rfl,rfl,i,l,f,h⟩ rfl
  case pass=>
    rintro v b ⟨O,U,S,i,l,f,E,P,K,J,L,Q⟩;obtain ⟨u,rfl⟩:=frame98 q v O U S;clear O U S;obtain ⟨c0,c1,c2,c3,c4⟩:=E.c5;have a:=zz E;have m:=zz P;have t:=zz Q;have HM:=zz (skM_eq (n:=s.size) E);clear h E P Q
    by_cases T:i<s.size
    · have V:((i:Int)==(s.size:Int))=false:=by rw [beq_eq_false_iff_ne];omega
      have F:s.data.toList.drop i=s[i]::s.data.toList.drop (i+1):=by
        rw [List.drop_eq_getElem_cons (by rw [length_data];exact T)];rfl
      have B:Hid (((cls s[i].toNat)==4)=(s[i]==32)∧((cls s[i].toNat)==5)=(s[i]==10)):=zz ⟨cls4 _,cls5 _⟩
      by_cases d:s[i]=32
      · have W:((cls s[i].toNat)==4)=true:=by rw [B.out.1,beq_iff_eq];exact d
        have o:Hid (skipG false (s.data.toList.drop (i+1)) l (i+1 - f+1)=R):=zz (by
          have :=t.out;rw [F,d] at this
          rw [←this,show i+1 - f+1=i - f+1+1 by omega];simp [skipG])
        have N:=a.out.frozen 1;clear d
        go_wp2
        go_quiet (fail)
        go_wp2
        go_quiet ((go_at_call 85;refine (class_any _ _).mono ?_;rintro e g ⟨rfl,rfl⟩;exact ⟨rfl,_,rfl⟩))
        go_wp2
        go_step3
        refine (fun (h:(∃ i l f:Nat,SkSt w q s out R _ i l f)∧skM q s.size _<skM q s.size b)=>⟨rfl,⟨rfl,rfl,rfl,h.1⟩,h.2⟩) ?_;exact sk_jump a.out (Nat.lt_succ_self i) ⟨a.out.setI _ ((i+1:Nat):Int),(m.out.drewN _).setCell rfl _,by omega,by omega,by omega,o.out⟩
      · have W:((cls s[i].toNat)==4)=false:=by rw [B.out.1,beq_eq_false_iff_ne];exact d
        by_cases j:s[i]=10
        · have X:((cls s[i].toNat)==5)=true:=by rw [B.out.2,beq_iff_eq];exact j
          have o:Hid (skipG false (s.data.toList.drop (i+1)) (l+1) (i+1 - (i+1)+1)=R):=zz (by
            have :=t.out;rw [F,j] at this
            rw [←this,Nat.sub_self];simp [skipG])
          have N:=a.out.frozen 1;have f2:=a.out.frozen 2;have f3:=a.out.frozen 3;clear d j
          go_wp2
          go_quiet (fail)
          go_wp2
          go_quiet ((go_at_call 85;refine (class_any _ _).mono ?_;rintro e g ⟨rfl,rfl⟩;exact ⟨rfl,_,rfl⟩))
          go_wp2
          go_region
          all_goals go_wp2
          all_goals go_step3
          refine (fun (h:(∃ i l f:Nat,SkSt w q s out R _ i l f)∧skM q s.size _<skM q s.size b)=>⟨rfl,⟨rfl,rfl,rfl,h.1⟩,h.2⟩) ?_;exact sk_jump a.out (Nat.lt_succ_self i) (f2:=i+1) (l2:=l+1) ⟨((a.out.setI _ ((i+1:Nat):Int)).setL 0 ((l+1:Nat):Int)).setF 0 ((i+1:Nat):Int),((((m.out.drewN _).setCell rfl _).setCell rfl _).setCell rfl _).drewN 1,by omega,by omega,by omega,o.out⟩
        · have X:((cls s[i].toNat)==5)=false:=by rw [B.out.2,beq_eq_false_iff_ne];exact j
          have N:=a.out.frozen 1
          by_cases p:pre? [45,45] (s.data.toList.drop i)=true
          · have D:=zz p
            have G:(s.data.toList.drop i).length=s.size - i:=by rw [List.length_drop,length_data]
            obtain ⟨k,A⟩:∃ k,k=((s.data.toList.drop i).takeWhile (· != 10)).length:=⟨_,rfl⟩;obtain ⟨y,g2,Y⟩:=skipG_far l (i - f+1) p k A;rw [List.drop_drop,t.out] at y;rw [G] at Y
            by_cases z:(s.data.toList.drop i).any (· ==10)=true
            · have H:Hid (nlI (s.data.toList.drop i)=(k:Int)):=zz (by rw [nlI,if_pos z,A])
              have o:Hid (skipG false (s.data.toList.drop (i+k)) l (i+k - f+1)=R):=zz (by rw [y,show i+k - f+1=i - f+1+k by omega]);clear d j p A y z G
              go_wp2
              go_quiet (fail)
              go_wp2
              go_quiet ((go_at_call 85;refine (class_any _ _).mono ?_;rintro e g ⟨rfl,rfl⟩;exact ⟨rfl,_,rfl⟩))
              go_wp2
              go_quiet ((go_at_call 86;refine (hasPrefix_at s ⟨#[45,45]⟩ i true _ D.out).mono ?_;rintro e g ⟨rfl,rfl⟩;exact ⟨rfl,_,rfl⟩))
              go_wp2
              go_quiet ((go_at_call 87;refine (indexByte_at s i _ _ H.out).mono ?_;rintro e g ⟨rfl,rfl⟩;exact ⟨rfl,_,rfl⟩))
              go_wp2
              go_step3
              refine (fun (h:(∃ i l f:Nat,SkSt w q s out R _ i l f)∧skM q s.size _<skM q s.size b)=>⟨rfl,⟨rfl,rfl,rfl,h.1⟩,h.2⟩) ?_;exact sk_jump a.out (show i<i+k by omega) (f2:=f) (l2:=l) ⟨a.out.setI _ ((i+k:Nat):Int),(m.out.drewN _).setCell rfl _,by omega,by omega,by omega,o.out⟩
            · have a0:k=s.size - i:=by
                rw [A, ←G]
                congr 1
                refine tw_all _ _ (fun x hx=>?_);rw [bne_iff_ne];rintro rfl;exact z (List.any_eq_true.2 ⟨_,hx,beq_self_eq_true _⟩)
              have H:Hid (nlI (s.data.toList.drop i)= -1):=zz (by rw [nlI,if_neg z]);have o:Hid (skipG false (s.data.toList.drop s.size) l (s.size - f+1)=R):=zz (by rw [y,show i - f+1+k=s.size - f+1 by omega,show i+k=s.size by omega]);clear d j p A y z G a0
              go_wp2
              go_quiet (fail)
              go_wp2
              go_quiet ((go_at_call 85;refine (class_any _ _).mono ?_;rintro e g ⟨rfl,rfl⟩;exact ⟨rfl,_,rfl⟩))
              go_wp2
              go_quiet ((go_at_call 86;refine (hasPrefix_at s ⟨#[45,45]⟩ i true _ D.out).mono ?_;rintro e g ⟨rfl,rfl⟩;exact ⟨rfl,_,rfl⟩))
              go_wp2
              go_quiet ((go_at_call 87;refine (indexByte_at s i _ _ H.out).mono ?_;rintro e g ⟨rfl,rfl⟩;exact ⟨rfl,_,rfl⟩))
              go_wp2
              go_step3
              refine (fun (h:(∃ i l f:Nat,SkSt w q s out R _ i l f)∧skM q s.size _<skM q s.size b)=>⟨rfl,⟨rfl,rfl,rfl,h.1⟩,h.2⟩) ?_;exact sk_jump a.out T (f2:=f) (l2:=l) ⟨a.out.setI _ ((s.size:Nat):Int),(m.out.drewN _).setCell rfl _,by omega,by omega,by omega,o.out⟩
          · have D:Hid (pre? [45,45] (s.data.toList.drop i)=false):=zz (by simpa using p)
            have C:Hid (R=(s.data.toList.drop i,l,i - f+1)):=zz (by
              rw [←t.out,F];refine skipG_here _ _ j d (fun Z=>p ?_)
              rw [F];exact (pre_two _ _).2 Z)
            clear d j p
            go_wp2
            go_quiet (fail)
            go_wp2
            go_quiet ((go_at_call 85;refine (class_any _ _).mono ?_;rintro e g ⟨rfl,rfl⟩;exact ⟨rfl,_,rfl⟩))
            go_wp2
            go_quiet ((go_at_call 86;refine (hasPrefix_at s ⟨#[45,45]⟩ i false _ D.out).mono ?_;rintro e g ⟨rfl,rfl⟩;exact ⟨rfl,_,rfl⟩))
            go_wp2
            simp only [Exit.jump]
            go_end0
            first | exact ⟨rfl,i,l,f,a.out,m.out.drewN _,K,J,L,C.out⟩ | exact ⟨rfl,i,l,f,a.out,(m.out.drewN _).drewN _,K,J,L,C.out⟩
    · have V:((i:Int)==(s.size:Int))=true:=by rw [beq_iff_eq];omega
      have C:Hid (R=(s.data.toList.drop i,l,i - f+1)):=zz (by
        rw [←t.out,List.drop_eq_nil_of_le (by rw [length_data];omega)];rfl)
      go_wp2
      go_quiet (fail)
      go_wp2
      simp only [Exit.jump];refine bodyPost_ret (results_none rfl _ _ _) rfl ?_;exact ⟨rfl,i,l,f,a.out,m.out.drewN nq,K,J,L,C.out⟩
end
section
open Go.RowKit
attribute [local go_sem ↓] store_tok
attribute [local go_sem] stOk_tok stB_eq stC_eq wr_drew wr_alloc wr_row
theorem wr_drewN (w:World) (k q n:Nat) (t:TypeId):Wr (w.drewN k) q t n=Wr w q t n:=rfl
attribute [local go_sem] wr_drewN
def tokV (r:List UInt8):Int × ByteArray × Int × Bool:=
  match r with
  | []=>(0,str [],0,false)
  | x :: _ =>
    if cls x.toNat=1∨cls x.toNat=2 then (kindW (str (r.takeWhile partB)),str (r.takeWhile partB),0,kindW (str (r.takeWhile partB)) != 0)
    else if cls x.toNat=3 then (4,str (r.takeWhile isDig),numN (r.takeWhile isDig),okN (r.takeWhile isDig))
    else match symbols.find? (fun y=>pre? y.data.toList r) with
      | some y=>(6,y,0,true)
      | none=>(0,str [],0,false)
theorem tokV_tok {r:List UInt8} {k n:Int} {t:ByteArray} (h:tokV r=(k,t,n,true)):tokL r=some (k,t.data.toList,n):=by
  unfold tokV at h;unfold tokL
  cases r with
  | nil=>cases h
  | cons x r =>
    simp only at h ⊢
    split at h
    · rename_i hc
      rw [if_pos hc];simp only [Prod.mk.injEq] at h;obtain ⟨h1,h2,h3,h4⟩:=h;subst h3;subst h2;unfold kindW at h1 h4
      split at h1
      · rw [if_pos ‹_›];subst h1;rfl
      · rw [if_neg ‹_›]
        split at h1
        · rw [if_pos ‹_›];subst h1;rfl
        · rw [if_neg ‹_›]
          split at h1
          · rw [if_pos ‹_›];subst h1;rfl
          · subst h1
            simp_all
    · rename_i hc
      rw [if_neg hc]
      split at h
      · rename_i h3
        rw [if_pos h3];simp only [Prod.mk.injEq] at h;obtain ⟨h1,h2,h4,h5⟩:=h
        rw [if_pos h5, ←h1, ←h2, ←h4];rfl
      · rename_i h3
        rw [if_neg h3]
        split at h
        · rename_i y hy
          rw [hy];simp only [Prod.mk.injEq] at h;obtain ⟨h1,h2,h4,_⟩:=h
          subst h1;subst h2;subst h4;rfl
        · simp at h
theorem tokV_no {r:List UInt8} {k n:Int} {t:ByteArray} (h:tokV r=(k,t,n,false)):tokL r=none:=by
  unfold tokV at h;unfold tokL
  cases r with
  | nil=>rfl
  | cons x r =>
    simp only at h ⊢
    split at h
    · rename_i hc
      rw [if_pos hc];simp only [Prod.mk.injEq] at h;obtain ⟨h1,h2,h3,h4⟩:=h;unfold kindW at h4
      split at h4
      · simp at h4
      · rw [if_neg ‹_›]
        split at h4
        · simp at h4
        · rw [if_neg ‹_›]
          split at h4
          · simp at h4
          · rw [if_neg ‹_›]
    · rename_i hc
      rw [if_neg hc]
      split at h
      · rename_i h3
        rw [if_pos h3];simp only [Prod.mk.injEq] at h;rw [if_neg (by rw [h.2.2.2];decide)]
      · rename_i h3
        rw [if_neg h3]
        split at h
        · simp at h
        · rename_i hy
          rw [hy];rfl
theorem Sc.dn {w:World} {q:Nat} {s:ByteArray} {i l f:Int} {out:Value} (h:Sc w q s i l f out) (n:Nat):Sc (w.drewN n) q s i l f out:=h
theorem Bo.dn {w:World} {q:Nat} {t:TypeId} {a:Array Value} (h:Bo w q t a) (n:Nat):Bo (w.drewN n) q t a:=h
theorem sym_rd {W a:World} {N:Nat} (d:W.alloc (.cells (strs symbols).toArray 9)=a) (b:W.heap.size=N):Rd (N+1) a (some ⟨N,0,none⟩) 11 11 1 (strs symbols):=by
  subst b;subst d;exact rd_new W (strs symbols).toArray 9 11 1 rfl (by decide)
theorem token_any {w:World} {q:Nat} {s:ByteArray} {line from':Int} {out:Value} (i:Nat) (h:Sc w q s i line from' out) (hi:i<s.size) (hs:s.size≤1000000) {k n:Int} {t:ByteArray} {b:Bool} (hv:tokV (s.data.toList.drop i)=(k,t,n,b)):
    Calls Tryz.prog 52 #[.pointer (some ⟨q,0,none⟩)] w fun e w'=>e=.returned (.tuple #[.agg #[.int .i64 k,.string t,.int .i64 n,.int .i64 0,.int .i64 0],.bool b])∧Below w.heap.size w w':=by
  have hsc:Sc (w.alloc (.cells #[.int .i64 0,.string ⟨#[]⟩,.int .i64 0,.int .i64 0,.int .i64 0] 53)) q s i line from' out:=Bo.alloc h _
  have hd:s.data.toList.drop i=s[i]::s.data.toList.drop (i+1):=by
    rw [List.drop_eq_getElem_cons (by rw [length_data];exact hi)];rfl
  obtain ⟨c0,c1,c2,c3,c4⟩:=Sc.c5 hsc;have HS:=zz hsc;have HR:=zz (Bo.new w 53 #[.int .i64 0,.string ⟨#[]⟩,.int .i64 0,.int .i64 0,.int .i64 0]);have HB:Hid (Below w.heap.size w (w.alloc (.cells #[.int .i64 0,.string ⟨#[]⟩,.int .i64 0,.int .i64 0,.int .i64 0] 53))):=zz (below_new w _);have HV:=zz hv;have HD:=zz hd;clear h hsc hv hd
  by_cases h12:cls s[i].toNat=1∨cls s[i].toNat=2
  · have HW:=HV.out
    unfold tokV at HW;rw [HD.out] at HW;simp only [if_pos h12,Prod.mk.injEq] at HW;rw [←HD.out] at HW;obtain ⟨g1,g2,g3,g4⟩:=HW
    have hlen:(str ((s.data.toList.drop i).takeWhile partB)).size≤1000000:=by
      have :=(List.takeWhile_prefix (l:=s.data.toList.drop i) partB).length_le;rw [List.length_drop,length_data] at this
      rw [str_size];omega
    have HWD:=zz (fun W=>lword_any (str ((s.data.toList.drop i).takeWhile partB)) W hlen);have HWH:=zz (fun W (hh:Sc W q s i line from' out)=>while_any i 1 3 true hh (Nat.le_of_lt hi) hs);rw [show inC 1 3 true=partB from funext inC_part] at HWH;rw [g1] at g4;rw [g1,g2,g4] at HWD;rw [g2] at HWH;subst g3;clear g1 g2 g4 hlen
    have e12:((cls s[i].toNat==1)=true)∨((cls s[i].toNat==1)=false∧(cls s[i].toNat==2)=true):=by
      rcases h12 with h | h
      · exact .inl (by rw [h];rfl)
      · exact .inr ⟨by rw [h];rfl,by rw [h];rfl⟩
    clear h12
    rcases e12 with e1 | ⟨e1,e2⟩
    all_goals
      go_enter Tryz.func52,Tryz.ntmps52
      go_wp2
      go_quiet ((go_at_call 85;refine (class_any _ _).mono ?_;rintro e w'' ⟨rfl,rfl⟩;exact ⟨rfl,_,rfl⟩))
      go_wp2_with (first
        | (go_at_call 89;refine (HWH.out _ (HS.out.dn _)).mono ?_;rintro e w1 ⟨rfl,hb⟩;have HR1:=zz ((HR.out.dn _).keep hb);have HB1:Hid (Below w.heap.size w w1):=zz ((below_drewN HB.out _).trans (hb.mono HB.out.size));clear hb)
        | (go_at_call 88;refine (HWD.out _).mono ?_;rintro e w2 ⟨rfl,hb⟩;have HR2:=zz (HR1.out.keep hb);have y2:Wr w2 w.heap.size 53 5:=HR2.out.wr;have HB2:Hid (Below w.heap.size w w2):=zz (HB1.out.trans (hb.mono HB1.out.size));clear hb))
      have HE:=zz (HR2.out.row #[.int .i64 k,.string t,.int .i64 0,.int .i64 0,.int .i64 0]).t5;exact bodyPost_ret (v:=.tuple #[.agg #[.int .i64 k,.string t,.int .i64 0,.int .i64 0,.int .i64 0],.bool b]) (by simp [results,Tryz.results52,go_sem,HE.out]) rfl ⟨rfl,below_setRow HB2.out (Nat.le_refl _) _⟩
  · by_cases h3:cls s[i].toNat=3
    · have HW:=HV.out
      unfold tokV at HW;rw [HD.out] at HW;simp only [if_neg h12,if_pos h3,Prod.mk.injEq] at HW;rw [←HD.out] at HW;obtain ⟨g1,g2,g3,g4⟩:=HW
      have hlen:(str ((s.data.toList.drop i).takeWhile isDig)).size≤maxLen:=by
        have :=(List.takeWhile_prefix (l:=s.data.toList.drop i) isDig).length_le;rw [List.length_drop,length_data] at this
        rw [str_size];unfold maxLen;omega
      have HWD:=zz (fun W=>number_any (str ((s.data.toList.drop i).takeWhile isDig)) W hlen);have HWH:=zz (fun W (hh:Sc W q s i line from' out)=>while_any i 3 3 false hh (Nat.le_of_lt hi) hs);rw [show inC 3 3 false=isDig from funext inC_dig] at HWH;rw [str_data,g2,g3,g4] at HWD;rw [g2] at HWH;subst g1;clear g2 g3 g4 hlen
      have e1:(cls s[i].toNat==1)=false:=by rw [h3];rfl
      have e2:(cls s[i].toNat==2)=false:=by rw [h3];rfl
      have e3:(cls s[i].toNat==3)=true:=by rw [h3];rfl
      clear h12 h3;go_enter Tryz.func52,Tryz.ntmps52
      go_wp2
      go_quiet ((go_at_call 85;refine (class_any _ _).mono ?_;rintro e w'' ⟨rfl,rfl⟩;exact ⟨rfl,_,rfl⟩))
      go_wp2_with (first
        | (go_at_call 89;refine (HWH.out _ (HS.out.dn _)).mono ?_;rintro e w1 ⟨rfl,hb⟩;have HR1:=zz ((HR.out.dn _).keep hb);have HB1:Hid (Below w.heap.size w w1):=zz ((below_drewN HB.out _).trans (hb.mono HB.out.size));clear hb)
        | (go_at_call 90;refine (HWD.out _).mono ?_;rintro e w2 ⟨rfl,hb⟩;have HR2:=zz (HR1.out.keep hb);have y2:Wr w2 w.heap.size 53 5:=HR2.out.wr;have HB2:Hid (Below w.heap.size w w2):=zz (HB1.out.trans (hb.mono HB1.out.size));clear hb))
      have HE:=zz (HR2.out.row #[.int .i64 4,.string t,.int .i64 n,.int .i64 0,.int .i64 0]).t5;exact bodyPost_ret (v:=.tuple #[.agg #[.int .i64 4,.string t,.int .i64 n,.int .i64 0,.int .i64 0],.bool b]) (by simp [results,Tryz.results52,go_sem,HE.out]) rfl ⟨rfl,below_setRow HB2.out (Nat.le_refl _) _⟩
    · have HW:=HV.out
      unfold tokV at HW;rw [HD.out] at HW;simp only [if_neg h12,if_neg h3] at HW;rw [←HD.out] at HW;have HWV:=zz HW
      have e1:(cls s[i].toNat==1)=false:=by rw [beq_eq_false_iff_ne];exact fun h=>h12 (.inl h)
      have e2:(cls s[i].toNat==2)=false:=by rw [beq_eq_false_iff_ne];exact fun h=>h12 (.inr h)
      have e3:(cls s[i].toNat==3)=false:=by rw [beq_eq_false_iff_ne];exact h3
      clear h12 h3 HW;go_enter Tryz.func52,Tryz.ntmps52
      go_wp2
      go_quiet ((go_at_call 85;refine (class_any _ _).mono ?_;rintro e w'' ⟨rfl,rfl⟩;exact ⟨rfl,_,rfl⟩))
      go_wp2_with (first
        | (go_at_call 91
           refine (symbols_any _).mono ?_;rintro e ws ⟨rfl,hw⟩;have HSs:Hid (Sc ws q s i line from' out):=zz (hw ▸ Bo.alloc (HS.out.dn _) _);have HRs:=zz (hw ▸ Bo.alloc (HR.out.dn _) (.cells (strs symbols).toArray 9));have HBs:Hid (Below w.heap.size w ws):=zz (hw ▸ (below_drewN HB.out _).alloc HB.out.size _);have HRD:Hid (Rd (w.heap.size+1+1) ws (some ⟨w.heap.size+1,0,none⟩) 11 11 1 (strs symbols)):=zz (sym_rd hw (World.size_alloc w _))
           clear hw))
      clear c0 c1 c2 c3 c4
      go_loopw [8,42] (fun _ j wr=>∃ k:Nat,k≤11∧j=.int .i64 k∧Hid (∃ n,wr=ws.drewN n)∧Hid (∀ m (hm:m<symbols.length),m<k→pre? symbols[m].data.toList (s.data.toList.drop i)=false)) (fun _ j _=>11 - (intOf j).toNat)
      case atStart=>exact ⟨0,Nat.zero_le _,rfl,⟨0,rfl⟩,fun m _ h0=>by omega⟩
      case round=>
        obtain ⟨kk,hkk,rfl,⟨nn,rfl⟩,HN⟩:=hrel;have y2:Wr ws w.heap.size 53 5:=HRs.out.wr;obtain ⟨c0,c1,c2,c3,c4⟩:=HSs.out.c5
        by_cases hlt:kk<11
        · obtain ⟨ab,ao,hae,hl,hc⟩:=HRD.out.strAt kk hlt
          cases hae;obtain ⟨sy,hsy⟩:∃ sy,symbols[kk]=sy:=⟨_,rfl⟩;rw [hsy] at hc;simp only [Nat.zero_add] at hc
          have hlt':(kk:Int)<11:=by omega
          cases hb:pre? sy.data.toList (s.data.toList.drop i) with
          | true =>
            have HP:=zz hb
            have hf:symbols.find? (fun y=>pre? y.data.toList (s.data.toList.drop i))=some sy:=by
              rw [←hsy,List.find?_eq_some_iff_getElem];refine ⟨by rw [hsy];exact hb,kk,hl,rfl,fun m hm=>?_⟩
              rw [HN.out m (by omega) hm];rfl
            have hv:=HWV.out;rw [hf] at hv;simp only [Prod.mk.injEq] at hv;obtain ⟨h1,h2,h3,h4⟩:=hv;subst h1;subst h2;subst h3;subst h4;clear hf hb hsy
            go_wp2
            go_quiet ((go_at_call 86;refine (hasPrefix_at s sy i true _ HP.out).mono ?_;rintro e w'' ⟨rfl,rfl⟩;exact ⟨rfl,_,rfl⟩))
            go_wp2
            have HE:=zz (fun n=>((HRs.out.dn n).row #[.int .i64 6,.string sy,.int .i64 0,.int .i64 0,.int .i64 0]).t5);exact bodyPost_ret (v:=.tuple #[.agg #[.int .i64 6,.string sy,.int .i64 0,.int .i64 0,.int .i64 0],.bool true]) (by simp [results,Tryz.results52,go_sem,HE.out]) rfl ⟨rfl,below_setRow (below_drewN HBs.out _) (Nat.le_refl _) _⟩
          | false =>
            have HP:=zz hb
            have HN2:Hid (∀ m (hm:m<symbols.length),m<kk+1→pre? symbols[m].data.toList (s.data.toList.drop i)=false):=zz (fun m hm h1=>by
              rcases Nat.lt_or_ge m kk with h2 | h2
              · exact HN.out m hm h2
              · obtain rfl:m=kk:=by omega
                rw [hsy];exact hb)
            clear hb hsy
            go_wp2
            go_quiet ((go_at_call 86;refine (hasPrefix_at s sy i false _ HP.out).mono ?_;rintro e w'' ⟨rfl,rfl⟩;exact ⟨rfl,_,rfl⟩))
            go_wp2
            go_roundw
            case rel=>exact ⟨kk+1,by omega,by go_num,⟨_,rfl⟩,HN2.out⟩
            case measure=>simp [intOf];omega
        · have hk:kk=11:=by omega
          subst hk
          have hf:symbols.find? (fun y=>pre? y.data.toList (s.data.toList.drop i))=none:=by
            rw [List.find?_eq_none];intro y hy;obtain ⟨m,hm,rfl⟩:=List.getElem_of_mem hy
            rw [HN.out m hm hm];decide
          have hv:=HWV.out;rw [hf] at hv;simp only [Prod.mk.injEq] at hv;obtain ⟨h1,h2,h3,h4⟩:=hv;subst h1;subst h2;subst h3;subst h4;clear hf
          go_wp2
          have HE:=zz ((HRs.out.dn nn).row #[.int .i64 0,.string ⟨#[]⟩,.int .i64 0,.int .i64 0,.int .i64 0]).t5;exact bodyPost_ret (v:=.tuple #[.agg #[.int .i64 0,.string ⟨#[]⟩,.int .i64 0,.int .i64 0,.int .i64 0],.bool false]) (by simp [results,Tryz.results52,go_sem,HE.out]) rfl ⟨rfl,below_setRow (below_drewN HBs.out nn) (Nat.le_refl _) _⟩
end
section
open Go.RowKit
def tokR (t:Tok):List Value:=[.int .i64 t.k,.string t.s,.int .i64 t.n,.int .i64 t.l,.int .i64 t.c]
def tokVs (ts:List Tok):List Value:=ts.flatMap tokR
theorem tokVs_len (ts:List Tok):(tokVs ts).length=ts.length * 5:=by
  induction ts with
  | nil=>rfl
  | cons t ts ih=>simp only [tokVs,List.flatMap_cons,List.length_append,List.length_cons] at *; rw [ih];simp [tokR];omega
theorem tokVs_app (a b:List Tok):tokVs (a++b)=tokVs a++tokVs b:=by simp [tokVs]
theorem tokVs_one (t:Tok):tokVs [t]=tokR t:=by simp [tokVs]
theorem tokR_one (t:Tok):∀ u∈tokR t,u.oneCell'=true:=by
  intro u a;simp only [tokR,List.mem_cons,List.not_mem_nil,or_false] at a
  rcases a with rfl | rfl | rfl | rfl | rfl <;> rfl
def OwnT (base:Nat) (w:World) (y:Value) (ts:List Tok):Prop:=w.ownsRow base 53 5 y ts.length (tokVs ts)
theorem OwnT.nil (base:Nat) (w:World):OwnT base w (.slice none 0 0) []:=World.ownsRow_nil w base 53 5
theorem OwnT.lt {base:Nat} {w:World} {y:Value} {ts:List Tok} (h:OwnT base w y ts):∀ k,y.ownBlock=some k→base≤k∧k<w.heap.size:=World.ownsRow.lt h
theorem OwnT.grown {base:Nat} {w b:World} {y:Value} {ts:List Tok} {r:Option Nat} (h:OwnT base w y ts) (i:w.grownBy b r) (m:∀ k,r=some k→y.ownBlock≠some k):OwnT base b y ts:=by
  refine ⟨h.1,?_⟩
  rcases h.2 with j | ⟨g,cap,d,rfl,f,a,rest⟩
  · exact .inl j
  · exact .inr ⟨g,cap,d,rfl,f,(i.block g (Array.getElem?_eq_some_iff.1 a).1 (fun e=>m g e.symm rfl)).trans a,rest⟩
theorem OwnT.keep {base:Nat} {w b:World} {y:Value} {ts:List Tok} (h:OwnT base w y ts) (a:Below w.heap.size w b):OwnT base b y ts:=
  h.grown (r:=none) ⟨a.os,a.tape,a.output,a.size,fun k d _=>a.block k d⟩ (fun _ e=>by cases e)
theorem OwnT.far {base:Nat} {w d:World} {y:Value} {ts:List Tok} {q:Nat} (h:OwnT base w y ts) (a:Far (fun k=>k=q) w d) (g:q<base):OwnT base d y ts:=
  h.grown (r:=some q) ⟨a.os,a.tape,a.output,a.size,fun k b f=>a.block k b (fun e=>f (by rw [e]))⟩ (fun k e b=>by injection e with e;subst e;have :=(h.lt _ b).1;omega)
theorem OwnT.dn {base:Nat} {w:World} {y:Value} {ts:List Tok} (h:OwnT base w y ts) (n:Nat):OwnT base (w.drewN n) y ts:=h
theorem OwnT.form {base:Nat} {w:World} {y:Value} {ts:List Tok} (h:OwnT base w y ts):∃ a cap,y=.slice a ts.length cap∧ts.length≤cap∧cap≤9223372036854775807∧Rd w.heap.size w a ts.length cap 5 (tokVs ts):=by
  rcases h.2 with ⟨rfl,e⟩ | ⟨g,cap,o,rfl,p,m,f,i,r,s⟩
  · exact ⟨none,0,by rw [e],by omega,by omega,tokVs_len ts,by omega,by omega,.inl e⟩
  · have d:cap≤9223372036854775807:=by simpa [maxLen] using i
    refine ⟨_,cap,rfl,f,d,tokVs_len ts,f,d,.inr ⟨g,0,rfl,(Array.getElem?_eq_some_iff.1 m).1,fun j b=>?_⟩⟩
    have q:j<ts.length * 5:=by rw [tokVs_len] at b;exact b
    rw [World.ownsRow.cellAt h (0+j) (by omega),Nat.zero_add,List.getElem?_eq_getElem b]
theorem info_tok:(Tryz.prog.info? 53).map (fun i=>(i.zero,i.size,i.bytes))=some (some (.agg #[.int .i64 0,.string ⟨#[]⟩,.int .i64 0,.int .i64 0,.int .i64 0]),5,48):=by kernel_rfl
theorem app_tok {base:Nat} {W:World} {y:Value} {ts:List Tok} {t:Tok} {g:Nat} (m:TypeId) (h:OwnT base W y ts) (E:∀ j u,(tokR t)[j]?=some u→W.cell? ⟨g,j,none⟩=some u) (V:ts.length≤100000) (D:base≤W.heap.size):
    ∃ a o,(Builtin.append_ #[46,46] m #[y,.slice (some ⟨g,0,none⟩) 1 1]).run Tryz.prog W=.ok a o∧OwnT base o a (ts++[t])∧W.grownBy o y.ownBlock∧(a.ownBlock=y.ownBlock∨∀ k,a.ownBlock=some k→W.heap.size≤k):=by
  obtain ⟨i,p,A,f,B⟩:=info_parts info_tok;have s:=Tryz.underlying46
  have q:∀ j u,(tokR t)[j]?=some u→W.cell? ((⟨g,0,none⟩:Addr).add j)=some u:=fun j u K=>by
    have e:(⟨g,0,none⟩:Addr).add j=⟨g,0+j,none⟩:=by unfold Addr.add;split <;> simp_all
    rw [e,Nat.zero_add];exact E j u K
  have z:ts.length+1≤maxLen:=by unfold maxLen;omega
  have w:(ts.length+1) * 48≤140737488355328:=by omega
  obtain ⟨a,o,r,H,F,_⟩:=run_append_own (P:=Tryz.prog) W base 46 m 53 i _ 5 48 s p A f B rfl (by decide) y ts.length (tokVs ts) h ⟨g,0,none⟩ 1 1 (tokR t) rfl q (tokR_one t) z w D
  have L:a.ownBlock=y.ownBlock∨∀ k,a.ownBlock=some k→W.heap.size≤k:=by
    have b:=h
    rcases b.2 with ⟨rfl,G⟩ | ⟨v,cap,N,rfl,O,R,S,Q,T,U⟩
    · have C:W.ownsRow W.heap.size 53 5 (.slice none 0 0) ts.length (tokVs ts):=⟨b.1,.inl ⟨rfl,G⟩⟩
      obtain ⟨X,M,d,I,_,_⟩:=run_append_own (P:=Tryz.prog) W W.heap.size 46 m 53 i _ 5 48 s p A f B rfl (by decide) _ ts.length (tokVs ts) C ⟨g,0,none⟩ 1 1 (tokR t) rfl q (tokR_one t) z w (Nat.le_refl _);have :=r.symm.trans d
      injection this with e1 e2
      subst e1
      exact .inr fun k x=>(I.lt k x).1
    · by_cases J:ts.length+1≤cap
      · obtain ⟨M,d,_⟩:=run_append_fits (P:=Tryz.prog) W base 46 m 53 i 5 s p f v ts.length cap (tokVs ts) b ⟨g,0,none⟩ 1 1 (tokR t) rfl q (tokR_one t) J
        have :=r.symm.trans d
        injection this with e1 e2
        subst e1;exact .inl rfl
      · have d:=run_append_grow (P:=Tryz.prog) W 46 m 53 i _ s p A ⟨v,0,none⟩ ts.length cap (tokVs ts) (by rw [f];exact b.1) (World.ownsRow.cells b (g:=v) rfl) ⟨g,0,none⟩ 1 1 (tokR t) (by rw [f];rfl) q (by omega) (by unfold maxLen at z;omega) (growslice_fits (by omega) (by rw [B];exact w))
        have :=r.symm.trans d
        injection this with e1 e2
        subst e1;refine .inr fun k x=>?_;simp only [Value.ownBlock,Option.some.injEq] at x
        omega
  refine ⟨a,o,r,?_,F,L⟩;unfold OwnT;rw [tokVs_app,tokVs_one,List.length_append];exact H
end
end Go.Proofs.YtcoiagfeoonpbaaGreat
