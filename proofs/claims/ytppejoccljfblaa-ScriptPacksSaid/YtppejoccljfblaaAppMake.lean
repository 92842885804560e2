/-
  'append(x, make([]byte, n)...)': n noughts behind x. No condition but sizes.
-/
import Derived.Test.YtppejoccljfblaaTake
import Derived.Deep.RegionLawGrows
import Derived.Deep.AppendSrc
namespace Go.Proofs.Ytppejoccljfblaa
open Go.RowKit

theorem info_byte : (Try.prog.info? 5).map (fun i => (i.size, i.bytes, i.zero)) = some (1, 1, some (.int .u8 0)) := by kernel_rfl
theorem info_byte' : ∃ i, Try.prog.info? 5 = some i ∧ i.size = 1 ∧ i.bytes = 1 ∧ i.zero = some (.int .u8 0) := by
  have h := info_byte
  cases hi : Try.prog.info? 5 with
  | none => rw [hi] at h; cases h
  | some i =>
    rw [hi] at h
    simp only [Option.map_some, Option.some.injEq, Prod.mk.injEq] at h
    exact ⟨i, rfl, h.1, h.2.1, h.2.2⟩
theorem zero_list (n : Nat) : (Builtin.zeroCells (Value.int .u8 0).cells n).toList = List.replicate n (.int .u8 0) := by
  apply List.ext_getElem
  · simp [Builtin.zeroCells, Value.cells]
  · intro k h1 h2
    simp [Builtin.zeroCells, Value.cells, Nat.mod_one]
theorem wrap_small {n : Nat} (h : n ≤ 1000) : IntKind.i64.wrap (n : Int) = (n : Int) := by
  unfold IntKind.wrap; simp [IntKind.bits]; omega
set_option maxRecDepth 100000 in
theorem app_make_room {b off sLen sCap n : Nat} {w : World} (hn : 0 < n) (hn1 : n ≤ 1000) (hroom : sLen + n ≤ sCap)
    (hc : ∀ j, j < n → (w.cell? ⟨b, off + sLen + j, none⟩).isSome = true) (hf : ∀ j, j < n → w.frozen? ⟨b, off + sLen + j, none⟩ = false) :
    (Builtin.append_ #[22, 3] 22 #[.slice (some ⟨b, off, none⟩) sLen sCap, .int .i64 (n : Int)]).run Try.prog w = .ok (.slice (some ⟨b, off, none⟩) (sLen + n) sCap) (w.setCells b (off + sLen) (List.replicate n (.int .u8 0))) := by
  obtain ⟨i, hi, hs, hb, hz⟩ := info_byte'
  have hst := run_storeCells_cells (P := Try.prog) b (off + sLen) (List.replicate n (.int .u8 0)) 0 w (by simpa using hc) (by simpa using hf) (by simp [Value.oneCell'])
  simp only [Nat.add_zero] at hst
  have h0 : ¬ ((n : Int) < 0) := by omega
  have h1 : ¬ (281474976710656 < (n : Int)) := by omega
  have h2 : ¬ (n = 0) := by omega
  simp [Builtin.append_, run_underlying Try.underlying22, run_underlying Try.underlying3, sizeOf, typeInfo, zeroValue, hi, hs, hb, hz, wrap_small hn1, h0, h1, h2, hroom, Addr.add_lit, zero_list, hst, asInt, asIntOf]
theorem zero_toArray (n : Nat) : Builtin.zeroCells (Value.int .u8 0).cells n = (List.replicate n (Value.int .u8 0)).toArray := by rw [← zero_list]
set_option maxRecDepth 100000 in
theorem app_make_grow {base : Option Addr} {sLen sCap n : Nat} {w : World} {olds : List Value} (hn : 0 < n) (hn1 : n ≤ 1000) (hl : sLen ≤ 1000)
    (hold : (Builtin.firstCells 1 sLen (.slice base sLen sCap)).run Try.prog w.drew = .ok olds.toArray w.drew) (hg : sCap < sLen + n) (hfit : Builtin.nextslicecap (sLen + n) sCap ≤ 281474976710656) :
    (Builtin.append_ #[22, 3] 22 #[.slice base sLen sCap, .int .i64 (n : Int)]).run Try.prog w =
      .ok (.slice (some ⟨w.heap.size, 0, none⟩) (sLen + n) (grownCap w (sLen + n) sCap 5))
        (w.drew.alloc (.cells ((olds ++ List.replicate n (Value.int .u8 0)).toArray ++ Builtin.zeroCells (Value.int .u8 0).cells (grownCap w (sLen + n) sCap 5 - (sLen + n))) 5)) := by
  obtain ⟨i, hi, hs, hb, hz⟩ := info_byte'
  have h0 : ¬ ((n : Int) < 0) := by omega
  have h1 : ¬ (281474976710656 < (n : Int)) := by omega
  have h2 : ¬ (n = 0) := by omega
  have h3 : ¬ (sLen + n ≤ sCap) := by omega
  have h4 : ¬ (9223372036854775807 < ((sLen : Int) + (n : Int))) := by omega
  have h5 : ¬ (281474976710656 < Builtin.nextslicecap (sLen + n) sCap) := by omega
  simp [Builtin.append_, run_underlying Try.underlying22, run_underlying Try.underlying3, sizeOf, typeInfo, zeroValue, hi, hs, hb, hz, wrap_small hn1, h0, h1, h2, h3, h4, h5, Question.forced, hold, newRow, grownCap, zero_toArray, asInt, asIntOf]
  congr 2
  apply Array.ext'
  simp [List.append_assoc]
end Go.Proofs.Ytppejoccljfblaa
