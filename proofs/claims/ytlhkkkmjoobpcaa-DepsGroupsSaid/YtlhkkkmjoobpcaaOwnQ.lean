/-
  A row of numbers of the call's own that may begin anywhere in its block: its first element is taken off, others are appended. No condition but sizes.
-/
import Derived.Test.YtlhkkkmjoobpcaaIntRows
import Derived.Test.YtlhkkkmjoobpcaaAppCut
import Derived.ArgAppend
import Derived.Deep.AppendSrc
import Derived.Laws.IdiomCopy
import Derived.Lib.LazyBuf
namespace Go.Proofs.Ytlhkkkmjoobpcaa
open Go.RowKit

def OwnQ (base : Nat) (e : TypeId) (w : World) (y : Value) (xs : List Int) : Prop :=
  (y = .slice none 0 0 ∧ xs = []) ∨ ∃ g o cap, ∃ cur : Array Value, y = .slice (some ⟨g, o, none⟩) xs.length cap ∧ base ≤ g ∧ w.heap[g]? = some (.cells cur e (0, 0)) ∧ xs.length ≤ cap ∧ cap ≤ 9223372036854775807 ∧ o + cap ≤ cur.size ∧ ∀ j v, xs[j]? = some v → cur[o + j]? = some (.int .i64 v)
theorem intRows_flat {S : Nat → Prop} {w : World} : ∀ {xs : List Int} {css : List (List Value)}, All2 (fun r cs => cs.length = 1 ∧ All2 (Mem S w) r cs) (intRows xs) css → css.flatten = xs.map fun x => Value.int .i64 x
  | [], _, h => by cases h; rfl
  | x :: xs, _, h => by
    rw [show intRows (x :: xs) = [.v (.int .i64 x)] :: intRows xs from rfl] at h
    cases h with
    | cons h0 h =>
      obtain ⟨_, h1⟩ := h0
      cases h1 with
      | cons h2 h3 =>
        cases h3
        rw [List.flatten_cons, intRows_flat h, h2.val]; rfl
theorem OwnQ.of {B base : Nat} {e : TypeId} {w : World} {y : Value} {xs : List Int} (h : OwnD B base e 1 w y (intRows xs)) : OwnQ base e w y xs := by
  obtain ⟨css, ho, hm⟩ := h
  have hf := intRows_flat hm
  rcases ho.2 with ⟨h1, h2⟩ | ⟨g, cap, cur, h1, hb, hg, hn, hc, hs, ht⟩
  · rw [intRows_len] at h2
    exact .inl ⟨h1, List.length_eq_zero_iff.1 h2⟩
  · rw [intRows_len] at h1 hn ht
    refine .inr ⟨g, 0, cap, cur, h1, hb, hg, hn, by unfold maxLen at hc; omega, by omega, fun j v hv => ?_⟩
    rw [hf] at ht
    have h3 := congrArg (fun l => l[j]?) ht
    have hj := (List.getElem?_eq_some_iff.1 hv).1
    simp only [List.getElem?_take, Nat.mul_one, if_pos hj, Array.getElem?_toList, List.getElem?_map, hv, Option.map_some] at h3
    rw [Nat.zero_add]; exact h3
theorem OwnQ.lt {base : Nat} {e : TypeId} {w : World} {y : Value} {xs : List Int} (h : OwnQ base e w y xs) : ∀ k, y.ownBlock = some k → base ≤ k ∧ k < w.heap.size := fun k hk => by
  rcases h with ⟨rfl, _⟩ | ⟨g, o, cap, cur, rfl, hb, hg, _⟩
  · cases hk
  · cases hk; exact ⟨hb, (Array.getElem?_eq_some_iff.1 hg).1⟩
theorem OwnQ.form {base : Nat} {e : TypeId} {w : World} {y : Value} {xs : List Int} (h : OwnQ base e w y xs) : ∃ a cap, y = .slice a xs.length cap ∧ xs.length ≤ cap ∧ cap ≤ 9223372036854775807 := by
  rcases h with ⟨rfl, rfl⟩ | ⟨g, o, cap, cur, rfl, hb, hg, h1, h2, _⟩
  · exact ⟨none, 0, rfl, Nat.le_refl _, by decide⟩
  · exact ⟨_, cap, rfl, h1, h2⟩
theorem OwnQ.keepG {base : Nat} {e : TypeId} {w w' : World} {y : Value} {xs : List Int} {r : Option Nat} (h : OwnQ base e w y xs) (hg : w.grownBy w' r) (hr : ∀ k, y.ownBlock = some k → r ≠ some k) : OwnQ base e w' y xs := by
  rcases h with h | ⟨g, o, cap, cur, rfl, hb, hgg, rest⟩
  · exact .inl h
  · exact .inr ⟨g, o, cap, cur, rfl, hb, (hg.block g (Array.getElem?_eq_some_iff.1 hgg).1 (fun e => hr g rfl e.symm)).trans hgg, rest⟩
theorem OwnQ.keep {base : Nat} {e : TypeId} {w w' : World} {y : Value} {xs : List Int} (h : OwnQ base e w y xs) (hb : Below w.heap.size w w') : OwnQ base e w' y xs := by
  rcases h with h | ⟨g, o, cap, cur, rfl, hb', hgg, rest⟩
  · exact .inl h
  · exact .inr ⟨g, o, cap, cur, rfl, hb', (hb.block g (Array.getElem?_eq_some_iff.1 hgg).1).trans hgg, rest⟩
/-- The first element; the others. -/
theorem OwnQ.head {base : Nat} {e : TypeId} {w : World} {a : Option Addr} {n cap : Nat} {x : Int} {xs : List Int} (h : OwnQ base e w (.slice a n cap) (x :: xs)) :
    ∃ g o, a = some ⟨g, o, none⟩ ∧ n = xs.length + 1 ∧ base ≤ g ∧ g < w.heap.size ∧ w.cell? ⟨g, o, none⟩ = some (.int .i64 x) ∧ n ≤ cap ∧ OwnQ base e w (.slice (some ⟨g, if cap = 1 then o else o + 1, none⟩) xs.length (cap - 1)) xs := by
  rcases h with ⟨_, h⟩ | ⟨g, o, cap', cur, h0, hb, hg, h1, h2, h3, h4⟩
  · cases h
  · cases h0
    have hx := h4 0 x rfl
    simp only [List.length_cons] at h1
    refine ⟨g, o, rfl, rfl, hb, (Array.getElem?_eq_some_iff.1 hg).1, by rw [cell_of_row w g o cur e (0, 0) hg]; simpa using hx, by simp only [List.length_cons]; omega, .inr ⟨g, _, cap - 1, cur, rfl, hb, hg, by omega, by omega, ?_, fun j v hv => ?_⟩⟩
    · split <;> omega
    · have hj := (List.getElem?_eq_some_iff.1 hv).1
      rw [if_neg (by omega)]
      have := h4 (j + 1) v (by simpa using hv)
      rw [show o + 1 + j = o + (j + 1) by omega]
      exact this
theorem OwnQ.cells {base : Nat} {e : TypeId} {w : World} {g o n cap : Nat} {xs : List Int} (h : OwnQ base e w (.slice (some ⟨g, o, none⟩) n cap) xs) : ∀ j v, xs[j]? = some v → w.cell? ⟨g, o + j, none⟩ = some (.int .i64 v) := by
  rcases h with ⟨h, _⟩ | ⟨g', o', cap', cur, h0, hb, hg, h1, h2, h3, h4⟩
  · cases h
  · cases h0
    intro j v hv
    rw [cell_of_row w g (o + j) cur e (0, 0) hg]
    exact h4 j v hv
/-- More of them. -/
theorem run_append_Q {P : Program} {w : World} {t e : TypeId} {z : Value} (ty : TypeId) {base : Nat} (ht : P.underlying t = some (.slice e)) (hinfo : (P.info? e).map (fun i => (i.zero, i.size, i.bytes)) = some (some z, 1, 8)) (hz : z.cells.size = 1)
    {S : Nat → Prop} {y : Value} {xs ys : List Int} {a : Option Addr} {m c : Nat} (hO : OwnQ base e w y xs) (hM : Mem S w (.s 1 (intRows ys)) (.slice a m c)) (hS : ∀ b, S b → b < w.heap.size) (hbase : base ≤ w.heap.size) (hl : xs.length + ys.length ≤ 1000000000) :
    ∃ v' w', (Builtin.append_ #[t, t] ty #[y, .slice a m c]).run P w = .ok v' w' ∧ OwnQ base e w' v' (xs ++ ys) ∧ w.grownBy w' y.ownBlock ∧ (v'.ownBlock = y.ownBlock ∨ ∀ k, v'.ownBlock = some k → w.heap.size ≤ k) := by
  obtain ⟨i, hi, hz0, hz1, hz2⟩ := info_parts hinfo
  have hml := hM.len
  rw [intRows_len] at hml
  rcases hO with ⟨rfl, rfl⟩ | ⟨g, o, cap, cur, rfl, hb, hg, h1, h2, h3, h4⟩
  · obtain ⟨v', w', hr, h2, h3, h4⟩ := run_append_D2 (P := P) (B := w.heap.size) (base := base) ty ht hinfo hz (by decide) (OwnD.nil w.heap.size base e 1 w) (hM.mono (fun b hb => ⟨⟨.inl (hS b hb), hS b hb⟩, fun h => by cases h⟩) fun _ _ => rfl) (by rw [intRows_len]; simp only [List.length_nil]; omega) (by rw [intRows_len]; simp only [List.length_nil]; omega) hbase
    exact ⟨v', w', hr, OwnQ.of (by rw [List.nil_append] at h2 ⊢; exact h2), h3, h4⟩
  · have hgl := (Array.getElem?_eq_some_iff.1 hg).1
    obtain ⟨ncs, hn2, hncell⟩ := hM.flat
    have hf := intRows_flat hn2
    have hone : ∀ u ∈ ys.map (fun x => Value.int .i64 x), u.oneCell' = true := fun u hu => by
      obtain ⟨x, _, rfl⟩ := List.mem_map.1 hu; rfl
    have hcell : ∀ j, j < cap → (w.cell? ⟨g, o + j, none⟩).isSome = true ∧ w.frozen? ⟨g, o + j, none⟩ = false := fun j hj => by
      have hc : o + j < cur.size := by omega
      refine ⟨?_, frozen_of_row w g (o + j) cur e hg⟩
      rw [cell_of_row w g (o + j) cur e (0, 0) hg, Array.getElem?_eq_getElem hc]; rfl
    have hsrc : Src P i.size t (.slice a m c) m (ys.map fun x => Value.int .i64 x) w := by
      rw [hz1]
      cases a with
      | none =>
        have : ys = [] := by
          cases ys with
          | nil => rfl
          | cons x ys => rw [show intRows (x :: ys) = [.v (.int .i64 x)] :: intRows ys from rfl] at hM; cases hM
        subst this
        obtain rfl : m = 0 := hml.1.symm
        exact Src.ofNil w ht c
      | some ad => exact Src.ofSlice w ht ad m c _ (by rw [List.length_map]; omega) (fun j u hu => hncell ad rfl j u (by rw [hf]; exact hu)) hone
    by_cases hroom : xs.length + m ≤ cap
    · have hr := run_append_room_src (P := P) w t t ty e i ht hi g o xs.length cap (.slice a m c) m (ys.map fun x => Value.int .i64 x) hsrc hroom
        (fun j hj => by rw [hz1, Nat.mul_one, Nat.add_assoc]; rw [List.length_map] at hj; exact (hcell _ (by omega)).1) (fun j hj => by rw [hz1, Nat.mul_one, Nat.add_assoc]; rw [List.length_map] at hj; exact (hcell _ (by omega)).2)
      rw [hz1, Nat.mul_one] at hr
      have hrow : w.rowIs g e cur.size (fun j => (cur[j]?).getD default) := ⟨cur, hg, rfl, fun j hj => by simp only [Array.getElem?_eq_getElem hj, Option.getD_some]⟩
      obtain ⟨cur2, hg2, hs2, hc2⟩ := rowIs_setCells (ys.map fun x => Value.int .i64 x) (o + xs.length) w _ hrow
      refine ⟨_, _, hr, .inr ⟨g, o, cap, cur2, by rw [List.length_append, hml.1], hb, hg2, by rw [List.length_append]; omega, h2, by omega, fun j v hv => ?_⟩, ?_, .inl rfl⟩
      · have hj := (List.getElem?_eq_some_iff.1 hv).1
        rw [List.length_append] at hj
        rw [hc2 (o + j) (by omega)]
        by_cases hjx : j < xs.length
        · rw [List.getElem?_append_left hjx] at hv
          have hn : ¬ (o + xs.length ≤ o + j ∧ o + j < o + xs.length + (ys.map fun x => Value.int .i64 x).length) := fun h => by have := h.1; omega
          simp only [if_neg hn, h4 j v hv, Option.getD_some]
        · rw [List.getElem?_append_right (by omega)] at hv
          have hp : o + xs.length ≤ o + j ∧ o + j < o + xs.length + (ys.map fun x => Value.int .i64 x).length := ⟨by omega, by rw [List.length_map]; omega⟩
          simp only [if_pos hp]
          rw [show o + j - (o + xs.length) = j - xs.length by omega, List.getElem?_map, hv]; rfl
      · have key : ∀ (cs : List Value) (p : Nat) (w0 : World), w0.grownBy (w0.setCells g p cs) (some g) := by
          intro cs
          induction cs with
          | nil => intro p w0; exact grownBy_refl _ _
          | cons c cs ih => intro p w0; rw [World.setCells]; exact grownBy_trans (grownBy_setCell w0 g p c) (ih _ _)
        exact key _ _ _
    · have hold : (Builtin.firstCells i.size xs.length (.slice (some ⟨g, o, none⟩) xs.length cap)).run P w.drew = .ok (xs.map fun x => Value.int .i64 x).toArray w.drew := by
        rw [hz1]
        refine run_firstCells_some w.drew 1 xs.length _ xs.length cap _ (by rw [List.length_map]; omega) fun j u hu => ?_
        rw [List.getElem?_map] at hu
        cases hx : xs[j]? with
        | none => rw [hx] at hu; cases hu
        | some x =>
          rw [hx] at hu
          have eu : Value.int .i64 x = u := by simpa using hu
          rw [Addr.add_lit, World.cell?_drew, cell_of_row w g (o + j) cur e (0, 0) hg, h4 j x hx, eu]
      have h63 : xs.length + m ≤ maxLen := by unfold maxLen; omega
      have hr := run_append_grow_src (P := P) w t t ty e i z ht hi hz0 (some ⟨g, o, none⟩) xs.length cap _ hold (.slice a m c) m _ hsrc (by omega) (by omega) (growslice_fits (by omega) (by rw [hz2]; omega))
      have hge := grownCap_ge w (xs.length + m) cap e
      have hcm : grownCap w (xs.length + m) cap e ≤ maxLen := grownCap_le_maxLen w (xs.length + m) cap e h63
      have hsz : ((xs.map fun x => Value.int .i64 x) ++ (ys.map fun x => Value.int .i64 x)).toArray.size = xs.length + m := by simp [hml.1]
      refine ⟨_, _, hr, .inr ⟨w.heap.size, 0, _, _, by rw [List.length_append, hml.1], hbase, heap_alloc_new w.drew _, by rw [List.length_append, hml.1]; exact hge, by unfold maxLen at hcm; omega, ?_, fun j v hv => ?_⟩, ⟨rfl, rfl, rfl, by simp, fun k hk _ => heap_alloc_old w.drew _ hk⟩, .inr fun k hk => by cases hk; exact Nat.le_refl _⟩
      · rw [Array.size_append, hsz, size_zeroCells, hz]
        omega
      · have hj := (List.getElem?_eq_some_iff.1 hv).1
        rw [List.length_append] at hj
        rw [Nat.zero_add, Array.getElem?_append_left (by rw [hsz]; omega), List.getElem?_toArray, ← List.map_append, List.getElem?_map, hv]; rfl
end Go.Proofs.Ytlhkkkmjoobpcaa
