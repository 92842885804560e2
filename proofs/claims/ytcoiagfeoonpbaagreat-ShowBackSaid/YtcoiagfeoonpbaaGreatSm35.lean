/-
  SameExpr: two expressions that are alike (places too, where they are asked for) are told to be. No condition but how they lie.
-/
import Derived.Test.YtcoiagfeoonpbaaGreatSm15
import Derived.Test.YtcoiagfeoonpbaaGreatSm8
import Derived.StillTailTactics
set_option maxHeartbeats 20000000
set_option maxRecDepth 100000
namespace Go.Proofs.YtcoiagfeoonpbaaGreat
section
open Go.RowKit
theorem ex_atS {S:Nat→Prop} {w:World} {l:List Ex} {a:Option Addr} {m c:Nat} (h:Mem S w (.s 6 (Ex.rows l)) (.slice a m c)) (i:Nat) (hi:i<l.length):
    ∃ b o x a' m' c',a=some ⟨b,o,none⟩∧S b∧Hid (l[i]?=some x)∧w.cell? ⟨b,o+i * 6,none⟩=some (.int .i64 x.kind)∧w.cell? ⟨b,o+i * 6+1,none⟩=some (.string x.name)∧w.cell? ⟨b,o+i * 6+2,none⟩=some (.int .i64 x.n)∧w.cell? ⟨b,o+i * 6+3,none⟩=some (.slice a' m' c')∧w.cell? ⟨b,o+i * 6+4,none⟩=some (.int .i64 x.line)∧w.cell? ⟨b,o+i * 6+5,none⟩=some (.int .i64 x.col)∧Hid (Mem S w (.s 6 (Ex.rows x.args)) (.slice a' m' c')):=by
  obtain ⟨b,o,x,a',m',c',rfl,hx,g⟩:=ex_at h i hi;obtain ⟨b2,o2,he,hS,_⟩:=Mem.at h i (by rw [Ex.rows_len];exact hi);cases he;exact ⟨b,o,x,a',m',c',rfl,hS,hx,g⟩
attribute [local go_sem] toList_beq
theorem neq_toListE (a b:ByteArray):(a.toList != b.toList)=(a != b):=by rw [bne,bne,toList_beq]
attribute [local go_sem] neq_toListE
end
end Go.Proofs.YtcoiagfeoonpbaaGreat
