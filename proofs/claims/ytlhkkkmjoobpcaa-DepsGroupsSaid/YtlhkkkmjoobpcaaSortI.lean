/-
  slices.Sort of a row of numbers of the call's own: the shelf's contract, laid in plain words. No condition but sizes.
-/
import Derived.Test.YtlhkkkmjoobpcaaIntRows
import Derived.Shelf.SlGeneric
import Derived.Shelf.SortM.Plain
import Derived.Shelf.SortM.SortNone
import Derived.Ground.SlgmProg
import Derived.Sort.OwnSortedInts
namespace Go.Proofs
open Go.Shelf
def Ytlhkkkmjoobpcaa.sortA_ren : Go.Shelf.Ren := ⟨fun | 5 => 21 | 8 => 24 | 7 => 23 | 19 => 34 | 20 => 35 | 10 => 25 | 11 => 26 | 12 => 27 | 13 => 28 | 14 => 29 | 15 => 30 | 16 => 31 | 17 => 32 | 18 => 33 | 30 => 36 | 31 => 37 | 32 => 38 | 33 => 39 | 34 => 40 | 35 => 41 | 40 => 42 | n => n, fun | 23 => 27 | 25 => 3 | 3 => 3 | 32 => 43 | 22 => 27 | 0 => 0 | 44 => 54 | 46 => 56 | 4 => 4 | 36 => 46 | 35 => 45 | 41 => 51 | 5 => 5 | 9 => 9 | 53 => 57 | 57 => 61 | 63 => 64 | 64 => 65 | n => n, fun | n => n⟩
theorem Ytlhkkkmjoobpcaa.sortA : Go.Proofs.SlLaysM.n5 Try.prog Ytlhkkkmjoobpcaa.sortA_ren := {
  mixed := by kernel_rfl
  f5 := ⟨Try.f21.name, by decide, Try.func21.trans (congrArg some (by kernel_rfl))⟩
  f7 := ⟨Try.f23.name, by decide, Try.func23.trans (congrArg some (by kernel_rfl))⟩
  f8 := Try.func24.trans (congrArg some (by kernel_rfl))
  f10 := ⟨Try.f25.name, by decide, Try.func25.trans (congrArg some (by kernel_rfl))⟩
  f11 := ⟨Try.f26.name, by decide, Try.func26.trans (congrArg some (by kernel_rfl))⟩
  f12 := ⟨Try.f27.name, by decide, Try.func27.trans (congrArg some (by kernel_rfl))⟩
  f13 := ⟨Try.f28.name, by decide, Try.func28.trans (congrArg some (by kernel_rfl))⟩
  f14 := ⟨Try.f29.name, by decide, Try.func29.trans (congrArg some (by kernel_rfl))⟩
  f15 := ⟨Try.f30.name, by decide, Try.func30.trans (congrArg some (by kernel_rfl))⟩
  f16 := ⟨Try.f31.name, by decide, Try.func31.trans (congrArg some (by kernel_rfl))⟩
  f17 := ⟨Try.f32.name, by decide, Try.func32.trans (congrArg some (by kernel_rfl))⟩
  f18 := ⟨Try.f33.name, by decide, Try.func33.trans (congrArg some (by kernel_rfl))⟩
  f19 := Try.func34.trans (congrArg some (by kernel_rfl))
  f20 := Try.func35.trans (congrArg some (by kernel_rfl))
  f30 := ⟨Try.f36.name, by decide, Try.func36.trans (congrArg some (by kernel_rfl))⟩
  f31 := Try.func37.trans (congrArg some (by kernel_rfl))
  f32 := Try.func38.trans (congrArg some (by kernel_rfl))
  f33 := ⟨Try.f39.name, by decide, Try.func39.trans (congrArg some (by kernel_rfl))⟩
  f34 := ⟨Try.f40.name, by decide, Try.func40.trans (congrArg some (by kernel_rfl))⟩
  f35 := ⟨Try.f41.name, by decide, Try.func41.trans (congrArg some (by kernel_rfl))⟩
  f40 := ⟨Try.f42.name, by decide, Try.func42.trans (congrArg some (by kernel_rfl))⟩
  t0 := Try.underlying0
  a0 := Try.isAgg0
  z0 := Try.sizeOf0
  v0 := Try.zeroValue0
  t3 := Try.underlying3
  a3 := Try.isAgg3
  z3 := Try.sizeOf3
  v3 := Try.zeroValue3
  t4 := Try.underlying4
  a4 := Try.isAgg4
  z4 := Try.sizeOf4
  v4 := Try.zeroValue4
  t5 := Try.underlying5
  a5 := Try.isAgg5
  z5 := Try.sizeOf5
  v5 := Try.zeroValue5
  t9 := Try.underlying9
  a9 := Try.isAgg9
  z9 := Try.sizeOf9
  v9 := Try.zeroValue9
  t22 := Try.underlying27
  a22 := Try.isAgg27
  z22 := Try.sizeOf27
  v22 := Try.zeroValue27
  t23 := Try.underlying27
  a23 := Try.isAgg27
  z23 := Try.sizeOf27
  v23 := Try.zeroValue27
  t25 := Try.underlying3
  a25 := Try.isAgg3
  z25 := Try.sizeOf3
  v25 := Try.zeroValue3
  t32 := Try.underlying43
  a32 := Try.isAgg43
  z32 := Try.sizeOf43
  v32 := Try.zeroValue43
  t35 := Try.underlying45
  a35 := Try.isAgg45
  z35 := Try.sizeOf45
  v35 := Try.zeroValue45
  t36 := Try.underlying46
  a36 := Try.isAgg46
  z36 := Try.sizeOf46
  v36 := Try.zeroValue46
  t41 := Try.underlying51
  a41 := Try.isAgg51
  z41 := Try.sizeOf51
  v41 := Try.zeroValue51
  t44 := Try.underlying54
  a44 := Try.isAgg54
  z44 := Try.sizeOf54
  v44 := Try.zeroValue54
  t46 := Try.underlying56
  a46 := Try.isAgg56
  z46 := Try.sizeOf56
  v46 := Try.zeroValue56
  t53 := Try.underlying57
  a53 := Try.isAgg57
  z53 := Try.sizeOf57
  v53 := Try.zeroValue57
  t57 := Try.underlying61
  a57 := Try.isAgg61
  z57 := Try.sizeOf61
  v57 := Try.zeroValue61
  t63 := Try.underlying64
  a63 := Try.isAgg64
  z63 := Try.sizeOf64
  v63 := Try.zeroValue64
  t64 := Try.underlying65
  a64 := Try.isAgg65
  z64 := Try.sizeOf65
  v64 := Try.zeroValue65 }
end Go.Proofs
namespace Go.Proofs.Ytlhkkkmjoobpcaa
open Go.RowKit Go.Sort Go.Shelf

theorem rows_of_ints {S : Nat → Prop} {w : World} (l : List Int) : All2 (fun r cs => cs.length = 1 ∧ All2 (Mem S w) r cs) (intRows l) (l.map fun x => [Value.int .i64 x]) := by
  induction l with
  | nil => exact .nil
  | cons x l ih => exact .cons ⟨rfl, .cons (.v _ rfl) .nil⟩ ih
theorem flat_ints (l : List Int) : (l.map fun x => [Value.int .i64 x]).flatten = l.map (Value.int .i64) := by
  induction l with
  | nil => rfl
  | cons x l ih => rw [List.map_cons, List.flatten_cons, ih, List.map_cons]; rfl
theorem ints_flat {S : Nat → Prop} {w : World} : ∀ {xs : List Int} {css : List (List Value)}, All2 (fun r cs => cs.length = 1 ∧ All2 (Mem S w) r cs) (intRows xs) css → css.flatten = xs.map (Value.int .i64)
  | [], _, h => by cases h; rfl
  | x :: xs, _, h => by
    rw [show intRows (x :: xs) = [.v (.int .i64 x)] :: intRows xs from rfl] at h
    cases h with
    | cons h0 h =>
      obtain ⟨_, h1⟩ := h0
      cases h1 with
      | cons h2 h3 =>
        cases h3
        rw [List.flatten_cons, ints_flat h, h2.val]; rfl
set_option maxHeartbeats 1000000 in
theorem sortI_any {B base : Nat} {w : World} {y : Value} {xs : List Int} (h : OwnD B base 3 1 w y (intRows xs)) (hn : xs.length ≤ 1000000) :
    Calls Try.prog 21 #[y] w fun e w' => e = .returned (.tuple #[]) ∧ ∃ L : List Int, L.Perm xs ∧ L.Pairwise (· ≤ ·) ∧ OwnD B base 3 1 w' y (intRows L) ∧ w.grownBy w' y.ownBlock := by
  have hL : (xs.mergeSort fun x y => decide (x ≤ y)).Perm xs ∧ (xs.mergeSort fun x y => decide (x ≤ y)).Pairwise (· ≤ ·) := by
    refine ⟨List.mergeSort_perm xs _, ?_⟩
    have h := List.pairwise_mergeSort (le := fun x y : Int => decide (x ≤ y)) (fun a b c h1 h2 => by simp only [decide_eq_true_eq] at *; omega) (fun a b => by simp only [Bool.or_eq_true, decide_eq_true_eq]; omega) xs
    exact h.imp fun h => by simpa using h
  obtain ⟨css, ho, hm⟩ := h
  have hf := ints_flat hm
  rcases ho.2 with ⟨rfl, h2⟩ | ⟨g, cap, cur, rfl, hb, hg, hcn, hc, hs, ht⟩
  · rw [intRows_len] at h2
    have hx : xs = [] := List.length_eq_zero_iff.1 h2
    subst hx
    refine (AnyM.slices_Sort_int_none Ytlhkkkmjoobpcaa.sortA none 0 w).mono ?_
    rintro e w' ⟨rfl, rfl⟩
    exact ⟨rfl, [], .nil, .nil, OwnD.nil _ _ _ _ _, grownBy_refl _ _⟩
  · rw [intRows_len] at hcn ht
    have hlt : (xs.map (Value.int .i64)).length = xs.length := by simp
    rw [hf, Nat.mul_one] at ht
    have hH := holds_of_blockI hg ht
    rw [intRows_len]
    refine (AnyM.slices_Sort_int Ytlhkkkmjoobpcaa.sortA g 0 cap xs w hH (Array.getElem?_eq_some_iff.1 hg).1 (by omega)).mono ?_
    rintro e w' ⟨rfl, n, os, rfl⟩
    refine ⟨rfl, _, hL.1, hL.2, ⟨(xs.mergeSort fun x y => decide (x ≤ y)).map fun x => [.int .i64 x], ?_, rows_of_ints _⟩, grownBy_sortedI _⟩
    rw [intRows_len, flat_ints, List.length_mergeSort]
    exact ownsRow_sortedI (List.length_mergeSort _) hb hg hcn hc hs
end Go.Proofs.Ytlhkkkmjoobpcaa
