/-
  strings.HasPrefix, strings.IndexByte and the document's starts, walked. No condition but sizes.
-/
import Derived.Test.YtcoiagfeoonpbaaGreatMp24
import Derived.Lib.Strings
import Derived.Lib.Bytealg
set_option maxHeartbeats 20000000
set_option maxRecDepth 100000
namespace Go.Proofs.YtcoiagfeoonpbaaGreat
section
open Go.RowKit
theorem sl_hasPrefix (s p:ByteArray) (w:World):
    Calls Tryz.prog 120 #[.string s,.string p] w fun e a=>e=.returned (.bool (pre? p.data.toList s.data.toList))∧w=a:=by
  show Calls _ _ _ _ fun e a=>e=.returned (.bool (Lib.hasPrefix s.data.toList p.data.toList))∧w=a
  rw [←Lib.hasPrefix_of_take, ←Lib.size_eq, ←Lib.size_eq];go_enter Tryz.func120,Tryz.ntmps120
  go_wp2
  · rename_i h
    go_ret;refine ⟨?_,rfl⟩
    show Ending.returned (Value.bool ((s.extract 0 p.size).toList==p.toList))=_
    rw [Lib.extract_toList,Lib.toList_data]
    simp [h]
  · rename_i h
    go_ret;refine ⟨?_,rfl⟩
    show Ending.returned (Value.bool false)=_
    simp [h]
theorem hasPrefix_any (s p:ByteArray) (w:World):
    Calls Tryz.prog 86 #[.string s,.string p] w fun e a=>e=.returned (.bool (pre? p.data.toList s.data.toList))∧w=a:=by
  go_enter Tryz.func86,Tryz.ntmps86
  go_wp2_with (go_at_call 120;refine (sl_hasPrefix _ _ _).mono ?_;rintro e a ⟨rfl,rfl⟩)
  go_ret;exact ⟨rfl,rfl⟩
theorem sl_indexByte (s:ByteArray) (c:Int) (w:World):
    Calls Tryz.prog 121 #[.string s,.int .u8 c] w fun e a=>e=.returned (.int .i64 (Lib.indexByte s.data.toList c.toNat.toUInt8))∧w=a:=by
  go_enter Tryz.func121,Tryz.ntmps121
  go_wp2
  rw [run_callFunc_extern Tryz.func143 (by kernel_rfl) (by kernel_rfl) (by kernel_rfl) (e:=Extern.BytealgIndexByte.indexByte) (by kernel_rfl),Lib.run_indexByteString];simp only [Result.andThen];rw [Oper.upon_value]
  go_wp2
  go_ret;exact ⟨rfl,rfl⟩
theorem indexByte_any (s:ByteArray) (c:Int) (w:World):
    Calls Tryz.prog 87 #[.string s,.int .u8 c] w fun e a=>e=.returned (.int .i64 (Lib.indexByte s.data.toList c.toNat.toUInt8))∧w=a:=by
  go_enter Tryz.func87,Tryz.ntmps87
  go_wp2_with (go_at_call 121;refine (sl_indexByte _ _ _).mono ?_;rintro e a ⟨rfl,rfl⟩)
  go_ret;exact ⟨rfl,rfl⟩
theorem indexByte_take (l:List UInt8) (c:UInt8):Lib.indexByte l c=if l.any (· ==c) then ((l.takeWhile (· != c)).length:Int) else -1:=by
  induction l with
  | nil=>rfl
  | cons x l ih =>
    rw [Lib.indexByte]
    by_cases h:x=c
    · subst h;simp
    · have h1:(x==c)=false:=by simpa using h
      rw [h1,ih]
      by_cases h2:l.any (· ==c)=true
      · rw [if_pos h2]
        have h3: ¬(((l.takeWhile (· != c)).length:Int)== -1)=true:=by simp
        rw [if_neg h3];simp only [Bool.false_eq_true,if_false,List.any_cons,h1,Bool.false_or,h2,if_true]
        rw [List.takeWhile_cons_of_pos (by simp [bne,h1])];rfl
      · rw [if_neg h2]
        simp only [Bool.not_eq_true] at h2
        simp [h1,h2]
theorem ext_eq (s:ByteArray) (i k:Nat):(s.extract i k).data.toList=(s.data.toList.drop i).take (k - i):=by
  rw [←Lib.toList_data,Lib.extract_toList]
theorem pre_take (y r:List UInt8):pre? y r=(decide (y.length≤r.length) && (r.take y.length==y)):=(Lib.hasPrefix_of_take r y).symm
theorem rbegins_any (s p:ByteArray) (i:Nat) (w:World) (g:i≤s.size) (m:s.size≤1000000) (j:p.size≤1000):
    Calls Tryz.prog 60 #[.string s,.int .i64 i,.string p] w fun e f=>e=.returned (.bool (pre? p.data.toList (s.data.toList.drop i)))∧w=f:=by
  have b:=zz (pre_take p.data.toList (s.data.toList.drop i))
  by_cases h:i+p.size≤s.size
  · have a:Hid (pre? p.data.toList (s.data.toList.drop i)=((s.extract i (i+p.size)).toList==p.toList)):=zz (by
      rw [b.out,Lib.extract_toList,Lib.toList_data,List.length_drop,length_data,length_data,Nat.add_sub_cancel_left]
      have :p.size≤s.size - i:=by omega
      simp [this])
    have d:decide ((p.size:Int)≤(s.size:Int) - (i:Int))=true:=by rw [decide_eq_true_eq];omega
    go_enter Tryz.func60,Tryz.ntmps60
    go_wp2
    go_ret;exact ⟨ret_bool a.out.symm,rfl⟩
  · have a:Hid (pre? p.data.toList (s.data.toList.drop i)=false):=zz (by
      rw [b.out,List.length_drop,length_data,length_data]
      have : ¬p.size≤s.size - i:=by omega
      simp [this])
    have d:decide ((p.size:Int)≤(s.size:Int) - (i:Int))=false:=by rw [decide_eq_false_iff_not];omega
    go_enter Tryz.func60,Tryz.ntmps60
    go_wp2
    go_ret;exact ⟨ret_bool a.out.symm,rfl⟩
end
end Go.Proofs.YtcoiagfeoonpbaaGreat
