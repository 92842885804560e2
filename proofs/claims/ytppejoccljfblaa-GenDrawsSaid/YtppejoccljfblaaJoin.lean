/-
  strings.Join at this program: the shelf's contract, laid in plain words; and the document's lines, joined. No condition.
-/
import Derived.Test.YtppejoccljfblaaLines
import Derived.Shelf.Strings.Builder1
import Derived.Shelf.Strings.Builder2
import Derived.Shelf.Strings.OnBuilder
namespace Go.Proofs
open Go.Shelf
def Ytppejoccljfblaa.lays156_ren : Go.Shelf.Ren := ⟨fun | 156 => 72 | 165 => 123 | 166 => 85 | 169 => 87 | 240 => 138 | 241 => 170 | 276 => 177 | 277 => 187 | n => n, fun | 31 => 29 | 9 => 9 | 3 => 3 | 4 => 4 | 0 => 0 | 20 => 20 | 72 => 125 | 76 => 128 | 70 => 123 | 37 => 22 | 75 => 127 | 127 => 180 | 164 => 201 | 5 => 5 | 80 => 131 | n => n, fun | n => n⟩
theorem Ytppejoccljfblaa.lays156 : Go.Proofs.Lays.n156 Try.prog Ytppejoccljfblaa.lays156_ren := {
  mixed := by kernel_rfl
  f156 := Try.func72.trans (congrArg some (by kernel_rfl))
  f165 := Try.func123.trans (congrArg some (by kernel_rfl))
  f166 := Try.func85.trans (congrArg some (by kernel_rfl))
  f169 := Try.func87.trans (congrArg some (by kernel_rfl))
  f240 := Try.func138.trans (congrArg some (by kernel_rfl))
  f241 := Try.func170.trans (congrArg some (by kernel_rfl))
  f276 := Try.func177.trans (congrArg some (by kernel_rfl))
  f277 := Try.func187.trans (congrArg some (by kernel_rfl))
  t0 := Try.underlying0
  a0 := Try.isAgg0
  z0 := Try.sizeOf0
  v0 := Try.zeroValue0
  t3 := Try.underlying3
  a3 := Try.isAgg3
  z3 := Try.sizeOf3
  v3 := Try.zeroValue3
  t4 := Try.underlying4
  a4 := Try.isAgg4
  z4 := Try.sizeOf4
  v4 := Try.zeroValue4
  t9 := Try.underlying9
  a9 := Try.isAgg9
  z9 := Try.sizeOf9
  v9 := Try.zeroValue9
  t20 := Try.underlying20
  a20 := Try.isAgg20
  z20 := Try.sizeOf20
  v20 := Try.zeroValue20
  t31 := Try.underlying29
  a31 := Try.isAgg29
  z31 := Try.sizeOf29
  v31 := Try.zeroValue29
  t37 := Try.underlying22
  a37 := Try.isAgg22
  z37 := Try.sizeOf22
  v37 := Try.zeroValue22
  t70 := Try.underlying123
  a70 := Try.isAgg123
  z70 := Try.sizeOf123
  v70 := Try.zeroValue123
  t72 := Try.underlying125
  a72 := Try.isAgg125
  z72 := Try.sizeOf125
  v72 := Try.zeroValue125
  t75 := Try.underlying127
  a75 := Try.isAgg127
  z75 := Try.sizeOf127
  v75 := Try.zeroValue127
  t76 := Try.underlying128
  a76 := Try.isAgg128
  z76 := Try.sizeOf128
  v76 := Try.zeroValue128
  t127 := Try.underlying180
  a127 := Try.isAgg180
  z127 := Try.sizeOf180
  v127 := Try.zeroValue180
  t164 := Try.underlying201
  a164 := Try.isAgg201
  z164 := Try.sizeOf201
  v164 := Try.zeroValue201 }
set_option maxRecDepth 100000 in
theorem Ytppejoccljfblaa.joinExtra : Builder.Extra Try.prog Ytppejoccljfblaa.lays156_ren := {
  sizeBuilder := by kernel_rfl
  liesBuilder := by kernel_rfl
  t5 := Try.underlying5
  a5 := Try.isAgg5
  z5 := Try.sizeOf5
  v5 := Try.zeroValue5
  infoByte := by kernel_rfl
  cellsByte := by kernel_rfl
  sizeByte := by kernel_rfl
  neB5 := by decide }
end Go.Proofs
namespace Go.Proofs.Ytppejoccljfblaa
open Go.RowKit
def joinB (xs : List ByteArray) (sep : ByteArray) : ByteArray := ⟨(Lib.join (xs.map (·.data.toList)) sep.data.toList).toArray⟩
theorem join_any (bk o c : Nat) (xs : List ByteArray) (sep : ByteArray) (w : World) (hcells : ∀ (j : Nat) x, xs[j]? = some x → w.cell? ⟨bk, o + j, none⟩ = some (.string x)) (hbk : bk < w.heap.size) (hN : xs.length ≤ 140737488355328) (hcap : xs.length ≤ c) (hlen : (Lib.join (xs.map (·.data.toList)) sep.data.toList).length ≤ 140737488355328) :
    Calls Try.prog 72 #[.slice (some ⟨bk, o, none⟩) xs.length c, .string sep] w fun e w' => e = .returned (.string (joinB xs sep)) ∧ Below w.heap.size w w' := Any.strings_Join lays156 joinExtra bk o c xs sep w hcells hbk hN hcap hlen
def joinL : ByteArray := joinB linesL ⟨#[10]⟩
theorem joinL_len : (Lib.join (linesL.map (·.data.toList)) [10]).length ≤ 1000 := by decide +kernel
theorem joinL_size : joinL.size ≤ 1000 := joinL_len
theorem join_lines (w : World) : Calls Try.prog 72 #[.slice (some ⟨w.heap.size, 0, none⟩) 19 19, .string ⟨#[10]⟩] (w.alloc (.cells linesV 9)) fun e w' => e = .returned (.string joinL) ∧ Below (w.alloc (.cells linesV 9)).heap.size (w.alloc (.cells linesV 9)) w' :=
  join_any w.heap.size 0 19 linesL ⟨#[10]⟩ _ (fun j x hx => by
    have hl : j < 19 := by have := (List.getElem?_eq_some_iff.1 hx).1; exact this
    obtain ⟨b, o, e, hj, hc⟩ := (lines_rd w).strAt j hl
    cases e
    have : linesL[j] = x := (List.getElem?_eq_some_iff.1 hx).2
    rw [← this]; exact hc) (by simp) (by decide) (by decide) (Nat.le_trans joinL_len (by decide))
end Go.Proofs.Ytppejoccljfblaa
