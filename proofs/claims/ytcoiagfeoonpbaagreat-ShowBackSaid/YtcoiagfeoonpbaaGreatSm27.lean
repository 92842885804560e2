/-
  Expressions as texts: the plain model, and the small functions: parts, open, brackets. No condition but sizes.
-/
import Derived.Test.YtcoiagfeoonpbaaGreatSm26
import Derived.Test.YtcoiagfeoonpbaaGreatSm3
import Derived.Test.YtcoiagfeoonpbaaGreatSm7
import Derived.Test.YtcoiagfeoonpbaaGreatSm17
set_option maxHeartbeats 20000000
set_option maxRecDepth 100000
namespace Go.Proofs.YtcoiagfeoonpbaaGreat
section
open Go.RowKit
def partsX (k:Int):Int:=if k=1∨k=2∨k=3∨k=9 then 0 else if k=8 then 1 else if k=5∨k=7 then 2 else if k=6 then 3 else -1
def openX (k:Int):Bool:=decide (k=7∨k=8∨k=6)
def brkX (b:Bool) (s:ByteArray):ByteArray:=if b then (⟨#[40]⟩++s)++⟨#[41]⟩ else s
def smallX (k:Int):Bool:=decide (k=1∨k=2∨k=3∨k=9)
def atomX (e:Ex) (s:ByteArray):ByteArray:=if smallX e.kind then s else (⟨#[40]⟩++s)++⟨#[41]⟩
def lessX (e:Ex) (r:Nat) (strict:Bool):Bool:=decide (e.kind=5) && (decide (bindsE e.name<r) || (decide (bindsE e.name=r) && strict))
def opndX (e:Ex) (s:ByteArray) (r:Nat) (strict:Bool):ByteArray:=brkX (openX e.kind || lessX e r strict) s
def leftX (s:ByteArray):Bool:=decide (s=⟨#[63]⟩) || (decide (s=⟨#[61,61]⟩) || decide (s=⟨#[60]⟩))
def opX (s:ByteArray) (a b:Ex) (x y:ByteArray):ByteArray:=(((opndX a x (bindsE s) (leftX s)++⟨#[32]⟩)++s)++⟨#[32]⟩)++opndX b y (bindsE s) (decide (s≠⟨#[63]⟩))
def ifX (x y z:ByteArray):ByteArray:=(((((⟨#[105,102,32]⟩:ByteArray)++x)++⟨#[32,116,104,101,110,32]⟩)++y)++⟨#[32,101,108,115,101,32]⟩)++z
def letX (s x y:ByteArray):ByteArray:=(((((⟨#[108,101,116,32]⟩:ByteArray)++s)++⟨#[32,61,32]⟩)++x)++⟨#[32,105,110,32]⟩)++y
def freeX (s x:ByteArray):ByteArray:=(((⟨#[108,101,116,32]⟩:ByteArray)++s)++⟨#[32,102,114,101,101,32,105,110,32]⟩)++x
def formX (k:Int) (s:ByteArray) (n:Int) (args:List Ex) (L:List ByteArray):ByteArray:=
  if k=4∧args≠[] then joinB (List.zipWith atomX args L) ⟨#[32]⟩
  else if partsX k≠(args.length:Int) then ⟨#[63]⟩
  else if k=1∨k=2 then s
  else if k=3 then ⟨(digs n).toArray⟩
  else if k=5 then (match args,L with | [a,b],[x,y]=>opX s a b x y | _,_=>⟨#[]⟩)
  else if k=6 then (match L with | [x,y,z]=>ifX x y z | _=>⟨#[]⟩)
  else if k=7 then (match L with | [x,y]=>letX s x y | _=>⟨#[]⟩)
  else if k=8 then (match L with | [x]=>freeX s x | _=>⟨#[]⟩)
  else ⟨#[95]⟩
mutual
def showX:Ex→ByteArray
  | .mk k s n args _ _=>formX k s n args (showXs args)
def showXs:List Ex→List ByteArray
  | []=>[]
  | e::es=>showX e::showXs es
end
mutual
def NumX:Ex→Prop
  | .mk _ _ n args _ _=>(-9223372036854775808≤n∧n≤9223372036854775807)∧NumXs args
def NumXs:List Ex→Prop
  | []=>True
  | e::es=>NumX e∧NumXs es
end
theorem showXs_eq (l:List Ex):showXs l=l.map showX:=by
  induction l with
  | nil=>rw [showXs];rfl
  | cons e l ih=>rw [showXs,ih];rfl
theorem showX_eq (e:Ex):showX e=formX e.kind e.name e.n e.args (e.args.map showX):=by
  cases e;rw [showX,showXs_eq];rfl
theorem numXs_mem {l:List Ex} (h:NumXs l):∀ x∈l,NumX x:=by
  induction l with
  | nil=>intro x hx;cases hx
  | cons e l ih =>
    rw [NumXs] at h;intro x hx
    rcases List.mem_cons.1 hx with rfl | hx
    · exact h.1
    · exact ih h.2 x hx
theorem NumX.parts {e:Ex} (h:NumX e):(-9223372036854775808≤e.n∧e.n≤9223372036854775807)∧∀ x∈e.args,NumX x:=by
  cases e;rw [NumX] at h;exact ⟨h.1,numXs_mem h.2⟩
theorem brk_size (b:Bool) (s:ByteArray):s.size≤(brkX b s).size∧(brkX b s).size≤s.size+2:=by
  unfold brkX
  split
  · rw [ByteArray.size_append,ByteArray.size_append]
    have h1:(⟨#[40]⟩:ByteArray).size=1:=rfl;have h2:(⟨#[41]⟩:ByteArray).size=1:=rfl
    omega
  · omega
theorem atom_size (e:Ex) (s:ByteArray):s.size≤(atomX e s).size:=by
  unfold atomX
  split
  · exact Nat.le_refl _
  · exact (brk_size true s).1
theorem parts_any (k:Int) (w:World):Calls Tryz.prog 76 #[.int .i64 k] w fun e w'=>e=.returned (.int .i64 (partsX k))∧w=w':=by
  by_cases h1:k=1
  · subst h1
    go_enter Tryz.func76,Tryz.ntmps76
    go_wp2
    go_ret;exact ⟨rfl,rfl⟩
  by_cases h2:k=2
  · subst h2
    go_enter Tryz.func76,Tryz.ntmps76
    go_wp2
    go_ret;exact ⟨rfl,rfl⟩
  by_cases h3:k=3
  · subst h3
    go_enter Tryz.func76,Tryz.ntmps76
    go_wp2
    go_ret;exact ⟨rfl,rfl⟩
  by_cases h9:k=9
  · subst h9
    go_enter Tryz.func76,Tryz.ntmps76
    go_wp2
    go_ret;exact ⟨rfl,rfl⟩
  by_cases h8:k=8
  · subst h8
    go_enter Tryz.func76,Tryz.ntmps76
    go_wp2
    go_ret;exact ⟨rfl,rfl⟩
  by_cases h5:k=5
  · subst h5
    go_enter Tryz.func76,Tryz.ntmps76
    go_wp2
    go_ret;exact ⟨rfl,rfl⟩
  by_cases h7:k=7
  · subst h7
    go_enter Tryz.func76,Tryz.ntmps76
    go_wp2
    go_ret;exact ⟨rfl,rfl⟩
  by_cases h6:k=6
  · subst h6
    go_enter Tryz.func76,Tryz.ntmps76
    go_wp2
    go_ret;exact ⟨rfl,rfl⟩
  have e1:(k==1)=false:=by simp [h1]
  have e2:(k==2)=false:=by simp [h2]
  have e3:(k==3)=false:=by simp [h3]
  have e9:(k==9)=false:=by simp [h9]
  have e8:(k==8)=false:=by simp [h8]
  have e5:(k==5)=false:=by simp [h5]
  have e7:(k==7)=false:=by simp [h7]
  have e6:(k==6)=false:=by simp [h6]
  have HP:Hid (partsX k= -1):=zz (by unfold partsX;rw [if_neg (by omega),if_neg (by omega),if_neg (by omega),if_neg (by omega)]);clear h1 h2 h3 h9 h8 h5 h7 h6;go_enter Tryz.func76,Tryz.ntmps76
  go_wp2
  go_ret;exact ⟨by rw [HP.out];rfl,rfl⟩
def exC (e:Ex) (a:Option Addr) (n c:Nat):Value:=.agg #[.int .i64 e.kind,.string e.name,.int .i64 e.n,.slice a n c,.int .i64 e.line,.int .i64 e.col]
theorem open_any (e:Ex) (a:Option Addr) (n c:Nat) (w:World):Calls Tryz.prog 141 #[exC e a n c] w fun e' w'=>e'=.returned (.bool (openX e.kind))∧Below w.heap.size w w':=by
  unfold exC
  by_cases h7:e.kind=7
  · have e7:(e.kind==7)=true:=by simp [h7]
    have HP:Hid (openX e.kind=true):=zz (by unfold openX;rw [h7];rfl);clear h7;go_enter Tryz.func141,Tryz.ntmps141
    go_wp2
    go_ret;exact ⟨ret_bool HP.out.symm,below_new _ _⟩
  by_cases h8:e.kind=8
  · have e7:(e.kind==7)=false:=by simp [h7]
    have e8:(e.kind==8)=true:=by simp [h8]
    have HP:Hid (openX e.kind=true):=zz (by unfold openX;rw [h8];rfl);clear h7 h8;go_enter Tryz.func141,Tryz.ntmps141
    go_wp2
    go_ret;exact ⟨ret_bool HP.out.symm,below_new _ _⟩
  by_cases h6:e.kind=6
  · have e7:(e.kind==7)=false:=by simp [h7]
    have e8:(e.kind==8)=false:=by simp [h8]
    have e6:(e.kind==6)=true:=by simp [h6]
    have HP:Hid (openX e.kind=true):=zz (by unfold openX;rw [h6];rfl);clear h7 h8 h6;go_enter Tryz.func141,Tryz.ntmps141
    go_wp2
    go_ret;exact ⟨ret_bool HP.out.symm,below_new _ _⟩
  have e7:(e.kind==7)=false:=by simp [h7]
  have e8:(e.kind==8)=false:=by simp [h8]
  have e6:(e.kind==6)=false:=by simp [h6]
  have HP:Hid (openX e.kind=false):=zz (by unfold openX;exact decide_eq_false (by omega));clear h7 h8 h6;go_enter Tryz.func141,Tryz.ntmps141
  go_wp2
  go_ret;exact ⟨ret_bool HP.out.symm,below_new _ _⟩
theorem brackets_any (b:Bool) (s:ByteArray) (w:World) (hs:s.size≤1000000000):Calls Tryz.prog 113 #[.bool b,.string s] w fun e w'=>e=.returned (.string (brkX b s))∧w=w':=by
  have i1: ¬(9223372036854775807<1+s.size):=by omega
  have i2: ¬(9223372036854775807<1+s.size+1):=by omega
  clear hs
  cases b with
  | true =>
    go_enter Tryz.func113,Tryz.ntmps113
    go_wp2
    go_ret;exact ⟨rfl,rfl⟩
  | false =>
    go_enter Tryz.func113,Tryz.ntmps113
    go_wp2
    go_ret;exact ⟨rfl,rfl⟩
end
end Go.Proofs.YtcoiagfeoonpbaaGreat
