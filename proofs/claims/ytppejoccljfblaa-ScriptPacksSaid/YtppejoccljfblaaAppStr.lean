/-
  'append' of a text's bytes onto a row of bytes of the call's own. No condition but sizes.
-/
import Derived.Test.YtppejoccljfblaaAppGen
namespace Go.Proofs.Ytppejoccljfblaa
open Go.RowKit

theorem u8s_byteCells (s : ByteArray) : byteCells s = u8s s.data.toList := by simp [byteCells, u8s]
theorem u8s_app2 (l m : List UInt8) : u8s (l ++ m) = u8s l ++ u8s m := by simp [u8s]
theorem sum_take {cur' cur : Array Value} {xs vs : List Value} (hx : cur.toList.take xs.length = xs) (hs : cur'.size = cur.size) (hl : xs.length + vs.length ≤ cur.size) (h1 : ∀ j, j < xs.length → cur'[j]? = cur[j]?) (h2 : ∀ j (h : j < vs.length), cur'[xs.length + j]? = some vs[j]) : cur'.toList.take (xs.length + vs.length) = xs ++ vs := by
  apply List.ext_getElem?
  intro j
  by_cases hj : j < xs.length
  · rw [List.getElem?_take_of_lt (by omega), List.getElem?_append_left hj, Array.getElem?_toList, h1 j hj]
    have := congrArg (fun l => l[j]?) hx
    simp only [List.getElem?_take_of_lt hj, Array.getElem?_toList] at this
    exact this
  · by_cases hj2 : j < xs.length + vs.length
    · rw [List.getElem?_take_of_lt hj2, List.getElem?_append_right (by omega), Array.getElem?_toList]
      have := h2 (j - xs.length) (by omega)
      rw [show xs.length + (j - xs.length) = j by omega] at this
      rw [this, List.getElem?_eq_getElem (by omega)]
    · rw [List.getElem?_eq_none (by rw [List.length_take]; omega), List.getElem?_eq_none (by simp; omega)]
theorem app_str_grow {base : Nat} {w : World} {l : List UInt8} {b : Option Addr} {cap : Nat} (ty : TypeId) (s : ByteArray) (hold : (Builtin.firstCells 1 l.length (.slice b l.length cap)).run Try.prog w.drew = .ok (u8s l).toArray w.drew) (hcap : cap < l.length + s.size) (hl : l.length + s.size ≤ 100000) (hbase : base ≤ w.heap.size) :
    ∃ v' w', (Builtin.append_ #[22, 9] ty #[.slice b l.length cap, .string s]).run Try.prog w = .ok v' w' ∧ (OwnB base w' v' (l ++ s.data.toList) ∧ Below w.heap.size w w' ∧ v'.ownBlock = some w.heap.size) := by
  obtain ⟨i, hi, hs, hb, hz⟩ := info_byte'
  have hu := Try.underlying22
  have hk := Try.underlying9
  have hsl : s.data.toList.length = s.size := by rw [Array.length_toList]; rfl
  have hsrc : Src Try.prog i.size 9 (.string s) s.size (byteCells s) w := by rw [hs]; exact Src.ofString w hk s
  have hu8 : (u8s l).length = l.length := u8s_length l
  have hbc : (byteCells s).length = s.size := by rw [u8s_byteCells, u8s_length, hsl]
  have hgc := grownCap_ge w (l.length + s.size) cap 5
  have hgm := grownCap_le_maxLen w (l.length + s.size) cap 5 (by unfold maxLen; omega)
  have hr := run_append_grow_src (P := Try.prog) w 22 9 ty 5 i _ hu hi hz b l.length cap (u8s l) (by rw [hs]; exact hold) (.string s) s.size (byteCells s) hsrc hcap (by omega) (growslice_fits (by omega) (by rw [hb]; omega))
  have hll : (l ++ s.data.toList).length = l.length + s.size := by rw [List.length_append, hsl]
  refine ⟨_, _, hr, ?_, ((Below.refl _ w).drew).alloc (Nat.le_refl _) _, rfl⟩
  unfold OwnB
  rw [hll]
  refine ⟨by rw [u8s_length, hll, Nat.mul_one], .inr ⟨w.heap.size, _, _, rfl, hbase, Bo.new w.drew _ _, hgc, hgm, ?_, ?_⟩⟩
  · simp only [Builtin.zeroCells, Value.cells, Array.size_append, List.size_toArray, List.length_append, hu8, hbc, Array.size_ofFn, List.length_cons, List.length_nil]
    simp
    omega
  · rw [Nat.mul_one, Array.toList_append, List.take_append_of_le_length (by rw [List.length_append, hu8, hbc]; exact Nat.le_refl _), List.take_of_length_le (by rw [List.length_append, hu8, hbc]; exact Nat.le_refl _), u8s_app2, u8s_byteCells]
theorem app_str {base : Nat} {w : World} {y : Value} {l : List UInt8} (ty : TypeId) (s : ByteArray) (h : OwnB base w y l) (hl : l.length + s.size ≤ 100000) (hbase : base ≤ w.heap.size) :
    ∃ v' w', (Builtin.append_ #[22, 9] ty #[y, .string s]).run Try.prog w = .ok v' w' ∧ (OwnB base w' v' (l ++ s.data.toList) ∧ Stay base y w v' w') := by
  obtain ⟨i, hi, hs, hb, hz⟩ := info_byte'
  have hu := Try.underlying22
  have hk := Try.underlying9
  have hsl : s.data.toList.length = s.size := by rw [Array.length_toList]; rfl
  have hsrc : Src Try.prog i.size 9 (.string s) s.size (byteCells s) w := by rw [hs]; exact Src.ofString w hk s
  have hu8 : (u8s l).length = l.length := u8s_length l
  have hbc : (byteCells s).length = s.size := by rw [u8s_byteCells, u8s_length, hsl]
  have hll : (l ++ s.data.toList).length = l.length + s.size := by rw [List.length_append, hsl]
  have fin : ∀ {b : Option Addr} {cap : Nat}, y = .slice b l.length cap → (Builtin.firstCells 1 l.length (.slice b l.length cap)).run Try.prog w.drew = .ok (u8s l).toArray w.drew → cap < l.length + s.size → ∃ v' w', (Builtin.append_ #[22, 9] ty #[y, .string s]).run Try.prog w = .ok v' w' ∧ (OwnB base w' v' (l ++ s.data.toList) ∧ Stay base y w v' w') := by
    intro b cap hy hold hc
    subst hy
    obtain ⟨v', w', hr, ho, hb, hv⟩ := app_str_grow (base := base) ty s hold hc hl hbase
    exact ⟨v', w', hr, ho, hb.mono hbase, fun q hq _ => ⟨hb.block q hq, fun e => by rw [hv] at e; injection e with e; omega⟩⟩
  rcases h.2 with ⟨rfl, hn0⟩ | ⟨g, cap, cur, rfl, hbg, hgg, hncap, hcap, hcs, htake⟩
  · have hl0 : l = [] := List.eq_nil_of_length_eq_zero hn0
    subst hl0
    by_cases hs0 : s.size = 0
    · have hd : s.data.toList = [] := List.eq_nil_of_length_eq_zero (by omega)
      have hc := hsrc.cells
      have hn : byteCells s = [] := List.eq_nil_of_length_eq_zero (by omega)
      rw [hs0, hn] at hc
      refine ⟨.slice none 0 0, w, ?_, by rw [hd]; exact OwnB.nil _ _, Stay.refl _ _ _⟩
      simp [Builtin.append_, run_underlying hu, run_underlying hk, sizeOf, typeInfo, hi, hsrc.len, hc, hs0]
    · exact fin rfl (run_firstCells_none _ 1 0 0 0) (by simp only [List.length_nil]; omega)
  · by_cases hroom : l.length + s.size ≤ cap
    · have hB : Bo w g 5 cur := hgg
      have hr := run_append_room_src (P := Try.prog) w 22 9 ty 5 i hu hi g 0 l.length cap (.string s) s.size (byteCells s) hsrc hroom (fun j hj => by
        rw [hs, hB.cell (Array.getElem?_eq_getElem (by omega : 0 + l.length * 1 + j < cur.size))]; rfl) (fun j hj => hB.frozen _)
      rw [hs, show 0 + l.length * 1 = l.length by omega] at hr
      obtain ⟨cur', g1, g2, g3, g4⟩ := setCells_row g 5 (byteCells s) l.length w cur hgg (by omega)
      obtain ⟨f1, f2, f3, f4, f5⟩ := setCells_far g (byteCells s) l.length w
      refine ⟨_, _, hr, ?_, ⟨⟨f3, f4, f5, by rw [f1]; exact Nat.le_refl _, fun j hj => f2 j (by omega)⟩, fun q hq hne => ⟨f2 q (fun e => hne (by rw [e]; rfl)), fun e => hne ?_⟩⟩⟩
      · unfold OwnB
        rw [hll]
        refine ⟨by rw [u8s_length, hll, Nat.mul_one], .inr ⟨g, cap, cur', rfl, hbg, g1, hroom, hcap, by rw [g2, hcs], ?_⟩⟩
        have := sum_take (xs := u8s l) (vs := byteCells s) (cur := cur) (cur' := cur') (by have := htake; rw [Nat.mul_one] at this; rw [hu8]; exact this) g2 (by omega) (fun j hj => g3 j (by omega)) (fun j hj => by rw [hu8]; exact g4 j hj)
        rw [hu8, hbc, u8s_byteCells, ← u8s_app2] at this
        rw [Nat.mul_one]; exact this
      · exact e
    · refine fin rfl ?_ (by omega)
      refine run_firstCells_some w.drew 1 l.length ⟨g, 0, none⟩ l.length cap (u8s l) (by rw [hu8, Nat.mul_one]) (fun j u hj => ?_)
      have hj' := (List.getElem?_eq_some_iff.1 hj).1
      have e : (⟨g, 0, none⟩ : Addr).add j = ⟨g, 0 + j, none⟩ := by unfold Addr.add; split <;> simp_all
      rw [e]
      have := World.ownsRow.cellAt h (0 + j) (by omega)
      rw [Nat.zero_add] at this ⊢
      exact this.trans hj
end Go.Proofs.Ytppejoccljfblaa
