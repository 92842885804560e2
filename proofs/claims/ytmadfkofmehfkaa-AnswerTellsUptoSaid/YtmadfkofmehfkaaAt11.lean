/-
  slices.Sorted(maps.Keys(m)) at this program: the shelf's contract, laid in plain words. No condition but the map's size.
-/
import Derived.Test.YtmadfkofmehfkaaAt10
import Derived.Shelf.SlGeneric
import Derived.Shelf.SlIterI.Nil
import Derived.Shelf.SortM.Plain
import Derived.Shelf.SortM.SortNone
import Derived.Ground.GgzProg
import Derived.Ground.SlgmProg
namespace Go.Proofs
open Go.Shelf
def Ytmadfkofmehfkaa.keysA_ren : Go.Shelf.Ren := ⟨fun | 7 => 43 | 10 => 61 | n => n, fun | 23 => 66 | 26 => 3 | 3 => 24 | 28 => 69 | 0 => 0 | 27 => 68 | 33 => 80 | 4 => 4 | n => n, fun | n => n⟩
theorem Ytmadfkofmehfkaa.keysA : Go.Proofs.SlLaysZI.n7 Try.prog Ytmadfkofmehfkaa.keysA_ren := {
  mixed := by kernel_rfl
  f7 := ⟨Try.f43.name, by decide, Try.func43.trans (congrArg some (by kernel_rfl))⟩
  f10 := ⟨Try.f61.name, by decide, Try.func61.trans (congrArg some (by kernel_rfl))⟩
  t0 := Try.underlying0
  a0 := Try.isAgg0
  z0 := Try.sizeOf0
  v0 := Try.zeroValue0
  t4 := Try.underlying4
  a4 := Try.isAgg4
  z4 := Try.sizeOf4
  v4 := Try.zeroValue4
  t23 := Try.underlying66
  a23 := Try.isAgg66
  z23 := Try.sizeOf66
  v23 := Try.zeroValue66
  t26 := Try.underlying3
  a26 := Try.isAgg3
  z26 := Try.sizeOf3
  v26 := Try.zeroValue3
  t27 := Try.underlying68
  a27 := Try.isAgg68
  z27 := Try.sizeOf68
  v27 := Try.zeroValue68
  t28 := Try.underlying69
  a28 := Try.isAgg69
  z28 := Try.sizeOf69
  v28 := Try.zeroValue69
  t33 := Try.underlying80
  a33 := Try.isAgg80
  z33 := Try.sizeOf80
  v33 := Try.zeroValue80 }
def Ytmadfkofmehfkaa.sortedA_ren : Go.Shelf.Ren := ⟨fun | 6 => 42 | 8 => 59 | 9 => 60 | 11 => 70 | 13 => 72 | 12 => 71 | 23 => 90 | 24 => 91 | 14 => 81 | 15 => 82 | 16 => 83 | 17 => 84 | 18 => 85 | 19 => 86 | 20 => 87 | 21 => 88 | 22 => 89 | 25 => 94 | 26 => 95 | 27 => 96 | 28 => 97 | 29 => 98 | 30 => 92 | 31 => 99 | n => n, fun | 26 => 3 | 28 => 69 | 24 => 55 | 0 => 0 | 3 => 3 | 37 => 91 | 48 => 108 | 50 => 83 | 4 => 4 | 40 => 100 | 39 => 99 | 45 => 105 | 5 => 5 | 9 => 9 | 51 => 111 | 55 => 115 | 57 => 117 | 58 => 118 | 33 => 80 | n => n, fun | n => n⟩
theorem Ytmadfkofmehfkaa.sortedA : Go.Proofs.SlLaysZI.n6 Try.prog Ytmadfkofmehfkaa.sortedA_ren := {
  mixed := by kernel_rfl
  f6 := ⟨Try.f42.name, by decide, Try.func42.trans (congrArg some (by kernel_rfl))⟩
  f8 := ⟨Try.f59.name, by decide, Try.func59.trans (congrArg some (by kernel_rfl))⟩
  f11 := ⟨Try.f70.name, by decide, Try.func70.trans (congrArg some (by kernel_rfl))⟩
  t0 := Try.underlying0
  a0 := Try.isAgg0
  z0 := Try.sizeOf0
  v0 := Try.zeroValue0
  t24 := Try.underlying55
  a24 := Try.isAgg55
  z24 := Try.sizeOf55
  v24 := Try.zeroValue55
  t26 := Try.underlying3
  a26 := Try.isAgg3
  z26 := Try.sizeOf3
  v26 := Try.zeroValue3
  t28 := Try.underlying69
  a28 := Try.isAgg69
  z28 := Try.sizeOf69
  v28 := Try.zeroValue69
  i26 := by kernel_rfl }
def Ytmadfkofmehfkaa.sortA_ren : Go.Shelf.Ren := ⟨fun | 5 => 60 | 8 => 72 | 7 => 71 | 19 => 90 | 20 => 91 | 10 => 81 | 11 => 82 | 12 => 83 | 13 => 84 | 14 => 85 | 15 => 86 | 16 => 87 | 17 => 88 | 18 => 89 | 30 => 94 | 31 => 95 | 32 => 96 | 33 => 97 | 34 => 98 | 35 => 92 | 40 => 99 | n => n, fun | 23 => 55 | 25 => 3 | 3 => 3 | 32 => 91 | 22 => 55 | 0 => 0 | 44 => 108 | 46 => 83 | 4 => 4 | 36 => 100 | 35 => 99 | 41 => 105 | 5 => 5 | 9 => 9 | 53 => 111 | 57 => 115 | 63 => 117 | 64 => 118 | n => n, fun | n => n⟩
theorem Ytmadfkofmehfkaa.sortA : Go.Proofs.SlLaysM.n5 Try.prog Ytmadfkofmehfkaa.sortA_ren := {
  mixed := by kernel_rfl
  f5 := ⟨Try.f60.name, by decide, Try.func60.trans (congrArg some (by kernel_rfl))⟩
  f7 := ⟨Try.f71.name, by decide, Try.func71.trans (congrArg some (by kernel_rfl))⟩
  f8 := Try.func72.trans (congrArg some (by kernel_rfl))
  f10 := ⟨Try.f81.name, by decide, Try.func81.trans (congrArg some (by kernel_rfl))⟩
  f11 := ⟨Try.f82.name, by decide, Try.func82.trans (congrArg some (by kernel_rfl))⟩
  f12 := ⟨Try.f83.name, by decide, Try.func83.trans (congrArg some (by kernel_rfl))⟩
  f13 := ⟨Try.f84.name, by decide, Try.func84.trans (congrArg some (by kernel_rfl))⟩
  f14 := ⟨Try.f85.name, by decide, Try.func85.trans (congrArg some (by kernel_rfl))⟩
  f15 := ⟨Try.f86.name, by decide, Try.func86.trans (congrArg some (by kernel_rfl))⟩
  f16 := ⟨Try.f87.name, by decide, Try.func87.trans (congrArg some (by kernel_rfl))⟩
  f17 := ⟨Try.f88.name, by decide, Try.func88.trans (congrArg some (by kernel_rfl))⟩
  f18 := ⟨Try.f89.name, by decide, Try.func89.trans (congrArg some (by kernel_rfl))⟩
  f19 := Try.func90.trans (congrArg some (by kernel_rfl))
  f20 := Try.func91.trans (congrArg some (by kernel_rfl))
  f30 := ⟨Try.f94.name, by decide, Try.func94.trans (congrArg some (by kernel_rfl))⟩
  f31 := Try.func95.trans (congrArg some (by kernel_rfl))
  f32 := Try.func96.trans (congrArg some (by kernel_rfl))
  f33 := ⟨Try.f97.name, by decide, Try.func97.trans (congrArg some (by kernel_rfl))⟩
  f34 := ⟨Try.f98.name, by decide, Try.func98.trans (congrArg some (by kernel_rfl))⟩
  f35 := ⟨Try.f92.name, by decide, Try.func92.trans (congrArg some (by kernel_rfl))⟩
  f40 := ⟨Try.f99.name, by decide, Try.func99.trans (congrArg some (by kernel_rfl))⟩
  t0 := Try.underlying0
  a0 := Try.isAgg0
  z0 := Try.sizeOf0
  v0 := Try.zeroValue0
  t3 := Try.underlying3
  a3 := Try.isAgg3
  z3 := Try.sizeOf3
  v3 := Try.zeroValue3
  t4 := Try.underlying4
  a4 := Try.isAgg4
  z4 := Try.sizeOf4
  v4 := Try.zeroValue4
  t5 := Try.underlying5
  a5 := Try.isAgg5
  z5 := Try.sizeOf5
  v5 := Try.zeroValue5
  t9 := Try.underlying9
  a9 := Try.isAgg9
  z9 := Try.sizeOf9
  v9 := Try.zeroValue9
  t22 := Try.underlying55
  a22 := Try.isAgg55
  z22 := Try.sizeOf55
  v22 := Try.zeroValue55
  t23 := Try.underlying55
  a23 := Try.isAgg55
  z23 := Try.sizeOf55
  v23 := Try.zeroValue55
  t25 := Try.underlying3
  a25 := Try.isAgg3
  z25 := Try.sizeOf3
  v25 := Try.zeroValue3
  t32 := Try.underlying91
  a32 := Try.isAgg91
  z32 := Try.sizeOf91
  v32 := Try.zeroValue91
  t35 := Try.underlying99
  a35 := Try.isAgg99
  z35 := Try.sizeOf99
  v35 := Try.zeroValue99
  t36 := Try.underlying100
  a36 := Try.isAgg100
  z36 := Try.sizeOf100
  v36 := Try.zeroValue100
  t41 := Try.underlying105
  a41 := Try.isAgg105
  z41 := Try.sizeOf105
  v41 := Try.zeroValue105
  t44 := Try.underlying108
  a44 := Try.isAgg108
  z44 := Try.sizeOf108
  v44 := Try.zeroValue108
  t46 := Try.underlying83
  a46 := Try.isAgg83
  z46 := Try.sizeOf83
  v46 := Try.zeroValue83
  t53 := Try.underlying111
  a53 := Try.isAgg111
  z53 := Try.sizeOf111
  v53 := Try.zeroValue111
  t57 := Try.underlying115
  a57 := Try.isAgg115
  z57 := Try.sizeOf115
  v57 := Try.zeroValue115
  t63 := Try.underlying117
  a63 := Try.isAgg117
  z63 := Try.sizeOf117
  v63 := Try.zeroValue117
  t64 := Try.underlying118
  a64 := Try.isAgg118
  z64 := Try.sizeOf118
  v64 := Try.zeroValue118 }
end Go.Proofs
namespace Go.Proofs.Ytmadfkofmehfkaa
open Go.RowKit Go.Maps Go.Sort Go.Shelf

theorem sortsK (m : Nat) : AnyZI.SortsIn Try.prog sortedA_ren Fence.wide m :=
  ⟨fun blk off cap ss W hH hblk hsz => callsIn_wide.2 (AnyM.slices_Sort_int sortA blk off cap ss W hH hblk hsz),
   fun p cap W => callsIn_wide.2 (AnyM.slices_Sort_int_none sortA p cap W)⟩
theorem keys_any (mb : Option Nat) (W : World) : Calls Try.prog 43 #[.map mb] W fun e w' => e = .returned (.func (.func 61) #[] #[.pointer (some ⟨W.heap.size, 0, none⟩)]) ∧ w' = W.alloc (.cells #[.map mb] 66) :=
  callsIn_wide.1 (AnyZI.keys_in keysA Fence.wide 5 trivial rfl mb W)
set_option maxHeartbeats 1000000 in
theorem sorted_any {b nn : Nat} {D0 : DataW Value} {w : World} (hown : w.ownsMap Try.prog 3 heldR b nn D0) (hmax : Maps.size D0 ≤ 1048576) :
    Calls Try.prog 42 #[.func (.func 61) #[] #[.pointer (some ⟨w.heap.size, 0, none⟩)]] (w.alloc (.cells #[.map (some b)] 66)) fun e w' => ∃ (v : Value) (L : List Int), e = .returned v ∧ L.Perm (intKeys D0) ∧ L.Pairwise (· ≤ ·) ∧ OwnD 0 (w.heap.size + 1) 3 1 w' v (intRows L) ∧ Below w.heap.size w w' := by
  have hseq : SeqGives Fence.wide 2 Try.prog 61 #[.pointer (some ⟨w.heap.size, 0, none⟩)] encZ (fun ss => ss.Perm (intKeys D0)) (Maps.size D0) (w.alloc (.cells #[.map (some b)] 66)) :=
    AnyZI.keys_gives (ρ := keysA_ren) { keysA with } Fence.wide _ trivial rfl (by omega) w.heap.size b nn D0 _ (by simp) (by simp) (World.ownsMap.alloc hown _)
  have cS := AnyZI.sorted_in sortedA Fence.wide 5 trivial trivial trivial trivial rfl (by omega) (sortsK _) (enters_of Try.func60 (by kernel_rfl) rfl) 61 #[.pointer (some ⟨w.heap.size, 0, none⟩)] trivial (enters_of Try.func61 (by kernel_rfl) rfl) _ _ (by unfold maxLen; omega) (by omega) _ hseq
  change CallsIn _ _ Try.prog 42 _ _ _ at cS
  refine (callsIn_wide.1 cS).mono ?_
  rintro e w' ⟨v, ss, rfl, hS, hrow, _, hb⟩
  have hs : (w.alloc (.cells #[.map (some b)] 66)).heap.size = w.heap.size + 1 := World.size_alloc _ _
  rw [hs] at hrow
  refine ⟨v, ss.mergeSort (fun x y => decide (x ≤ y)), rfl, (List.mergeSort_perm ss _).trans hS, ?_, ⟨(ss.mergeSort (fun x y => decide (x ≤ y))).map fun x => [.int .i64 x], ?_, ?_⟩, (below_new w _).trans (hb.mono (below_new w _).size)⟩
  · have h := List.pairwise_mergeSort (le := fun x y : Int => decide (x ≤ y)) (fun a b c h1 h2 => by simp only [decide_eq_true_eq] at *; omega) (fun a b => by simp only [Bool.or_eq_true, decide_eq_true_eq]; omega) ss
    exact h.imp fun h => by simpa using h
  · rw [intRows_len, List.length_mergeSort]
    have e : ((ss.mergeSort (fun x y => decide (x ≤ y))).map fun x => [Value.int .i64 x]).flatten = (ss.mergeSort (fun x y => decide (x ≤ y))).map encZ := by
      generalize ss.mergeSort (fun x y => decide (x ≤ y)) = l
      induction l with
      | nil => rfl
      | cons x l ih => rw [List.map_cons, List.flatten_cons, ih, List.map_cons]; rfl
    rw [e]
    exact hrow
  · generalize ss.mergeSort (fun x y => decide (x ≤ y)) = l
    induction l with
    | nil => exact .nil
    | cons x l ih => exact .cons ⟨rfl, .cons (.v _ rfl) .nil⟩ ih
end Go.Proofs.Ytmadfkofmehfkaa

/-
  A map of terms, its keys in order: plain laws, and the look-up of an element that is there. No condition.
-/
namespace Go.Proofs.Ytmadfkofmehfkaa
open Go.RowKit Go.Maps

theorem mem_insertD (a : Lit × DataW Value) : ∀ l : List (Lit × DataW Value), ∀ p ∈ DataW.insert a l, p = a ∨ p ∈ l
  | [], p, h => by
    simp only [DataW.insert, List.mem_singleton] at h
    exact .inl h
  | y :: r, p, h => by
    unfold DataW.insert at h
    split at h
    · rcases List.mem_cons.1 h with h | h
      · exact .inl h
      · exact .inr h
    · rcases List.mem_cons.1 h with h | h
      · exact .inr (h ▸ List.mem_cons_self ..)
      · rcases mem_insertD a r p h with h | h
        · exact .inl h
        · exact .inr (List.mem_cons_of_mem _ h)
theorem fold_entries : ∀ (M : List (Int × El)) (es : List (Lit × DataW Value)), (∀ p ∈ es, ∃ x, p.1 = .int .i64 x) → ∃ es', M.foldl putE (.map es) = .map es' ∧ ∀ p ∈ es', ∃ x, p.1 = .int .i64 x
  | [], es, h => ⟨es, rfl, h⟩
  | x :: M, es, h => by
    rw [List.foldl_cons]
    refine fold_entries M _ fun p hp => ?_
    rcases mem_insertD _ _ p hp with e | hp
    · exact ⟨x.1, by rw [e]⟩
    · exact h p (List.mem_filter.1 hp).1
theorem keys_perm {w : World} {b n : Nat} {M : List (Int × El)} (hown : w.ownsMap Try.prog 3 heldR b n (mapE M)) (hN : (M.map (·.1)).Nodup) : (M.map (·.1)).Perm (intKeys (mapE M)) := by
  obtain ⟨es, he, hp, _⟩ := hown.entries (int_keyed Try.underlying3)
  obtain ⟨es', he', hk⟩ := fold_entries M [] (fun p hp => by cases hp)
  have e0 : mapE M = .map es' := he'
  rw [e0] at he
  obtain rfl : es' = es := by injection he
  have hh := mapE_has M
  rw [e0] at hh ⊢
  refine perm_intKeys hp hk hN fun x => ?_
  rw [hh]
  constructor
  · intro hx
    obtain ⟨y, hy⟩ := look_some hx
    rw [hy]; rfl
  · intro hx
    cases hl : look M x with
    | none => rw [hl] at hx; cases hx
    | some y => exact List.mem_map.2 ⟨_, look_mem hl, rfl⟩
theorem wpList_lookup_held (w : World) {ops : Array Oper} {rest : List Oper} {o : Oper} {a : Act} {Q : Exit → Act → World → Prop} {P : Program}
    (hg : o.guard = none) (m x : Operand) (t : TypeId) (hop : o.op = Op.lookup t m x false)
    (k e : TypeId) (K : Keyed P k) (ht : P.underlying t = some (.map k e)) {z : Value} (hz : (zeroValue e).run P w = .ok z w) (b n : Nat) (D : DataW Value)
    (hm : a.eval m = .map (some b)) (hown : w.ownsMap P k heldR b n D) (key : Value) (kl : Lit) (hx : a.eval x = key) (hkey : keyOf P k key = some kl) (val : Value) (hat : D.atKey kl (.held z) = .held val)
    (hK : wpList P ops Q rest (a.put o.dst val) w) :
    wpList P ops Q (o :: rest) a w := by
  refine wpList_plain hg fun K' hK' => ?_
  obtain ⟨v, ps, hrun, hv⟩ := hown.lookup K ht hz (zd := .held z) (zp := []) rfl hkey
  rw [hat] at hv
  obtain ⟨rfl, _⟩ : v = val ∧ ps = [] := by simpa [heldR] using hv
  unfold Oper.wp
  simp [execOp, hop, hm, hx, hrun, Result.andThen]
  exact hK' _ _ hK
/-- What stands for a variable, as a row. -/
def bindT (x : Int × Tm) : List At := .v (.int .i64 x.1) :: x.2.row
def bindsT (l : List (Int × Tm)) : List (List At) := l.map bindT
theorem bindsT_len (l : List (Int × Tm)) : (bindsT l).length = l.length := by simp [bindsT]
theorem tmE_get {M : List (Int × El)} {n : Int} {e : El} (h : look M n = some e) : look (tmE M) n = some e.t := by rw [look_tmE, h]; rfl
/-- The list that a sorted list of the keys leads to. -/
def pickT (M : List (Int × Tm)) (L : List Int) : List (Int × Tm) := L.map fun n => (n, (look M n).getD (.mk 0 ⟨#[]⟩ 0 []))
theorem look_self {α : Type} : ∀ {M : List (Int × α)}, (M.map (·.1)).Nodup → ∀ x ∈ M, look M x.1 = some x.2
  | (n, e) :: M, hN, x, hx => by
    rw [List.map_cons, List.nodup_cons] at hN
    rw [look_cons]
    rcases List.mem_cons.1 hx with rfl | hx
    · rw [if_pos rfl]
    · rw [if_neg (fun h => hN.1 (List.mem_map.2 ⟨x, hx, h.symm⟩))]
      exact look_self hN.2 x hx
theorem pick_self {M : List (Int × Tm)} (hN : (M.map (·.1)).Nodup) : pickT M (M.map (·.1)) = M := by
  unfold pickT
  rw [List.map_map]
  conv => rhs; rw [← List.map_id M]
  refine List.map_congr_left fun x hx => ?_
  have hl := look_self hN x hx
  show (x.1, (look M x.1).getD _) = x
  rw [hl]; rfl
theorem pick_perm {M : List (Int × Tm)} (hN : (M.map (·.1)).Nodup) {L : List Int} (h : L.Perm (M.map (·.1))) : (pickT M L).Perm M := by
  have := h.map (fun n => (n, (look M n).getD (.mk 0 ⟨#[]⟩ 0 [])))
  have e : (M.map (·.1)).map (fun n => (n, (look M n).getD (.mk 0 ⟨#[]⟩ 0 []))) = M := pick_self hN
  rw [e] at this
  exact this
theorem tmE_keys (M : List (Int × El)) : (tmE M).map (·.1) = M.map (·.1) := by unfold tmE; rw [List.map_map]; rfl
end Go.Proofs.Ytmadfkofmehfkaa
