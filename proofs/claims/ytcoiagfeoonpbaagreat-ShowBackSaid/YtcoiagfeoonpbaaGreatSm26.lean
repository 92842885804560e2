/-
  strings.Join at this program: the shelf's contract, laid in plain words. No condition.
-/
import Derived.Test.YtcoiagfeoonpbaaGreatSm1
import Derived.Shelf.Strings.Builder1
import Derived.Shelf.Strings.Builder2
import Derived.Shelf.Strings.OnBuilder
set_option maxHeartbeats 20000000
set_option maxRecDepth 100000
namespace Go.Proofs
open Go.Shelf
def YtcoiagfeoonpbaaGreat.lays156_ren:Go.Shelf.Ren:=⟨fun | 156=>75 | 165=>108 | 166=>45 | 169=>48 | 240=>79 | 241=>140 | 276=>112 | 277=>150 | n=>n,fun | 31=>37 | 9=>9 | 3=>3 | 4=>4 | 0=>0 | 20=>20 | 72=>95 | 76=>98 | 70=>92 | 37=>93 | 75=>97 | 127=>132 | 164=>155 | 5=>5 | 80=>102 | n=>n,fun | n=>n⟩
theorem YtcoiagfeoonpbaaGreat.lays156:Go.Proofs.Lays.n156 Tryz.prog YtcoiagfeoonpbaaGreat.lays156_ren:= {
  mixed:=by kernel_rfl
  f156:=Tryz.func75.trans (congrArg some (by kernel_rfl))
  f165:=Tryz.func108.trans (congrArg some (by kernel_rfl))
  f166:=Tryz.func45.trans (congrArg some (by kernel_rfl))
  f169:=Tryz.func48.trans (congrArg some (by kernel_rfl))
  f240:=Tryz.func79.trans (congrArg some (by kernel_rfl))
  f241:=Tryz.func140.trans (congrArg some (by kernel_rfl))
  f276:=Tryz.func112.trans (congrArg some (by kernel_rfl))
  f277:=Tryz.func150.trans (congrArg some (by kernel_rfl))
  t0:=Tryz.underlying0
  a0:=Tryz.isAgg0
  z0:=Tryz.sizeOf0
  v0:=Tryz.zeroValue0
  t3:=Tryz.underlying3
  a3:=Tryz.isAgg3
  z3:=Tryz.sizeOf3
  v3:=Tryz.zeroValue3
  t4:=Tryz.underlying4
  a4:=Tryz.isAgg4
  z4:=Tryz.sizeOf4
  v4:=Tryz.zeroValue4
  t9:=Tryz.underlying9
  a9:=Tryz.isAgg9
  z9:=Tryz.sizeOf9
  v9:=Tryz.zeroValue9
  t20:=Tryz.underlying20
  a20:=Tryz.isAgg20
  z20:=Tryz.sizeOf20
  v20:=Tryz.zeroValue20
  t31:=Tryz.underlying37
  a31:=Tryz.isAgg37
  z31:=Tryz.sizeOf37
  v31:=Tryz.zeroValue37
  t37:=Tryz.underlying93
  a37:=Tryz.isAgg93
  z37:=Tryz.sizeOf93
  v37:=Tryz.zeroValue93
  t70:=Tryz.underlying92
  a70:=Tryz.isAgg92
  z70:=Tryz.sizeOf92
  v70:=Tryz.zeroValue92
  t72:=Tryz.underlying95
  a72:=Tryz.isAgg95
  z72:=Tryz.sizeOf95
  v72:=Tryz.zeroValue95
  t75:=Tryz.underlying97
  a75:=Tryz.isAgg97
  z75:=Tryz.sizeOf97
  v75:=Tryz.zeroValue97
  t76:=Tryz.underlying98
  a76:=Tryz.isAgg98
  z76:=Tryz.sizeOf98
  v76:=Tryz.zeroValue98
  t127:=Tryz.underlying132
  a127:=Tryz.isAgg132
  z127:=Tryz.sizeOf132
  v127:=Tryz.zeroValue132
  t164:=Tryz.underlying155
  a164:=Tryz.isAgg155
  z164:=Tryz.sizeOf155
  v164:=Tryz.zeroValue155 }
theorem YtcoiagfeoonpbaaGreat.joinExtra:Builder.Extra Tryz.prog YtcoiagfeoonpbaaGreat.lays156_ren:= {
  sizeBuilder:=by kernel_rfl
  liesBuilder:=by kernel_rfl
  t5:=Tryz.underlying5
  a5:=Tryz.isAgg5
  z5:=Tryz.sizeOf5
  v5:=Tryz.zeroValue5
  infoByte:=by kernel_rfl
  cellsByte:=by kernel_rfl
  sizeByte:=by kernel_rfl
  neB5:=by decide }
end Go.Proofs
namespace Go.Proofs.YtcoiagfeoonpbaaGreat
open Go.RowKit
def joinB (xs:List ByteArray) (sep:ByteArray):ByteArray:=⟨(Lib.join (xs.map (·.data.toList)) sep.data.toList).toArray⟩
theorem join_any (bk o c:Nat) (xs:List ByteArray) (sep:ByteArray) (w:World) (hcells:∀ (j:Nat) x,xs[j]?=some x→w.cell? ⟨bk,o+j,none⟩=some (.string x)) (hbk:bk<w.heap.size) (hN:xs.length≤140737488355328) (hcap:xs.length≤c) (hlen:(Lib.join (xs.map (·.data.toList)) sep.data.toList).length≤140737488355328):
    Calls Tryz.prog 75 #[.slice (some ⟨bk,o,none⟩) xs.length c,.string sep] w fun e w'=>e=.returned (.string (joinB xs sep))∧Below w.heap.size w w':=Any.strings_Join lays156 joinExtra bk o c xs sep w hcells hbk hN hcap hlen
end Go.Proofs.YtcoiagfeoonpbaaGreat
