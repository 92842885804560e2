/-
  Arguments that are types or terms, as the walks want them. No condition.
-/
import Derived.Test.YtcoiagfeoonpbaaSt6
import Derived.ChangeSlices
import Derived.ProofKit
import Derived.OpenShut
namespace Go.Proofs.Ytcoiagfeoonpbaa
open Go.ChangeShapes Go.WideShapes Go.ChangeAt Go.RowKit
def inI64 (n : Int) : Prop := -9223372036854775808 ≤ n ∧ n ≤ 9223372036854775807
def Tm.ok (t : Tm) : Prop := ∀ x ∈ t.all, inI64 x.kind ∧ inI64 x.n
def Tm.wt (t : Tm) : Nat := (t.all.map fun x => x.name.size + 1).sum
theorem tm_plain {w : World} {a : Addr} {v : Value} (h : w.cell? a = some v) : ∃ b o, a = ⟨b, o, none⟩ := by
  obtain ⟨b, o, c⟩ := a
  cases c with
  | none => exact ⟨b, o, rfl⟩
  | some c =>
    exfalso
    unfold World.cell? at h
    split at h <;> simp at h
theorem plain_add (b o i : Nat) : (⟨b, o, none⟩ : Addr).add i = ⟨b, o + i, none⟩ := by
  unfold Addr.add; split <;> simp_all
theorem choose_list {α : Type} {R : Nat → α → Prop} : ∀ (n : Nat), (∀ i, i < n → ∃ x, R i x) → ∃ l : List α, l.length = n ∧ ∀ i (h : i < l.length), R i l[i]
  | 0, _ => ⟨[], rfl, fun i h => by simp at h⟩
  | n + 1, h => by
    obtain ⟨l, hl, hr⟩ := choose_list n fun i hi => h i (by omega)
    obtain ⟨x, hx⟩ := h n (by omega)
    refine ⟨l ++ [x], by simp [hl], fun i hi => ?_⟩
    simp at hi
    by_cases e : i < l.length
    · rw [List.getElem_append_left e]; exact hr i e
    · obtain rfl : i = l.length := by omega
      rw [List.getElem_append_right (Nat.le_refl _)]
      simpa [hl] using hx
section
variable {H : Type} {enc : TypeId × Value → H} {P : Program} {W : World} {tT tS : TypeId} {f0 f1 f2 f3 : Field}
end
end Go.Proofs.Ytcoiagfeoonpbaa

/-
  An argument that is a slice of whatever structs, as the walks want it: its elements opened one by one. No condition.
-/
namespace Go.Proofs.Ytcoiagfeoonpbaa
open Go.ChangeShapes Go.WideShapes Go.ChangeAt Go.RowKit
section
variable {H : Type} {enc : TypeId × Value → H} {P : Program} {W : World} {tE tS : TypeId} {α : Type}
theorem open_rows {fuel sz : Nat} {cs : List Value} {x : DataW H × List MemPlace} (uS : P.underlying tS = some (.slice tE)) (cE : P.cellsOf tE = sz) (hsz : 0 < sz) (R : α → List Value → Nat → Prop) (row : α → List At) (wt : α → Nat)
    (hrow : ∀ y cs k, R y cs k → All2 (Mem (· < W.heap.size) W) (row y) cs) (hlen : ∀ y, (row y).length = sz) (hwt : ∀ y cs k, R y cs k → wt y ≤ k)
    (el : ∀ (n : Nat) (cs : List Value) (x : DataW H × List MemPlace), DataW.trod enc P W 0 (fun _ => true) true n tE cs = some x → ∃ y, R y cs (Rows.uptoBulk x.1))
    (h : DataW.trod enc P W 0 (fun _ => true) true fuel tS cs = some x) :
    ∃ (l : List α) (a : Option Addr) (n cap : Nat), cs = [.slice a n cap] ∧ MemW W (.s sz (l.map row)) (.slice a n cap) ∧ (∀ y ∈ l, ∃ cs k, R y cs k) ∧ (l.map wt).sum ≤ Rows.uptoBulk x.1 := by
  rcases DataW.trod_slice uS h with ⟨rfl, rfl⟩ | ⟨a, len, cap, elems, rest, n, rfl, rfl, rfl, _, hle, hm, hlen2, hel, _, _⟩
  · exact ⟨[], none, 0, 0, rfl, .e _ _ _ (by decide), by simp, by simp⟩
  · unfold maxLen at hm
    by_cases h0 : len = 0
    · subst h0
      exact ⟨[], some a, 0, cap, rfl, .e _ _ _ (by omega), by simp, by simp⟩
    · have key : ∀ i, i < len → ∃ y : α, ∃ cs', (∃ hi : i < elems.length, R y cs' (Rows.uptoBulk (elems[i]).1)) ∧ cs'.length = sz ∧ ∀ j (hj : j < cs'.length), W.cell? ((a.add (i * sz)).add j) = some cs'[j] := fun i hi => by
        have he := hel i hi
        rw [cE, List.getElem?_eq_getElem (by omega)] at he
        obtain ⟨cs', h1, h2⟩ := Option.bind_eq_some_iff.1 he
        obtain ⟨y, hy⟩ := el n cs' _ h2
        obtain ⟨_, hl, hc⟩ := World.cells?_some h1
        exact ⟨y, cs', ⟨by omega, hy⟩, hl, fun j hj => by rw [hc j (by omega), List.getElem?_eq_getElem]⟩
      obtain ⟨b, o, rfl⟩ : ∃ b o, a = ⟨b, o, none⟩ := by
        obtain ⟨_, cs', _, hl, hc⟩ := key 0 (by omega)
        have := hc 0 (by omega)
        have e : (a.add (0 * sz)).add 0 = a := by obtain ⟨b, o, c⟩ := a; cases c <;> simp [Addr.add]
        rw [e] at this
        exact tm_plain this
      obtain ⟨ts, hts, hr⟩ := choose_list len key
      refine ⟨ts, some ⟨b, o, none⟩, len, cap, rfl, ?_, fun t ht => ?_, ?_⟩
      · have hbl : b < W.heap.size := by
          obtain ⟨_, cs', _, hl, hc⟩ := key 0 (by omega)
          have := hc 0 (by omega)
          rw [plain_add, plain_add] at this
          exact World.block_lt_of_cell? W _ this
        refine .s b o len cap sz _ (fun i j => (W.cell? ⟨b, o + i * sz + j, none⟩).getD undef) (by rw [List.length_map, hts]) hle (by omega) hbl (fun i hi => ?_) (fun i j hi hj => ?_) (fun i j hi hj => ?_)
        · rw [List.getElem_map, hlen]
        · obtain ⟨cs', _, hl, hc⟩ := hr i (by omega)
          have := hc j (by omega)
          rw [plain_add, plain_add] at this
          rw [this]; rfl
        · have hi' : i < ts.length := by rw [List.length_map] at hi; exact hi
          have e : (ts.map row)[i] = row ts[i] := by simp
          obtain ⟨cs', ⟨_, hR⟩, hl, hc⟩ := hr i hi'
          have h2 := hrow _ _ _ hR
          have hj' : j < (row ts[i]).length := by rw [← e]; exact hj
          have hj2 : j < cs'.length := by rw [← h2.len]; exact hj'
          have h3 := h2.at j hj' hj2
          have := hc j hj2
          rw [plain_add, plain_add] at this
          simp only [this, Option.getD_some, e]
          exact h3
      · obtain ⟨i, hi, rfl⟩ := List.getElem_of_mem ht
        obtain ⟨cs', ⟨_, hR⟩, _⟩ := hr i hi
        exact ⟨_, _, hR⟩
      · have hw : ∀ (k : Nat), k ≤ ts.length → ((ts.take k).map wt).sum ≤ Rows.uptoBulkAll ((elems.map (·.1)).take k) := by
          intro k
          induction k with
          | zero => intro _; simp
          | succ k ih =>
            intro hk
            have h1 := ih (by omega)
            obtain ⟨cs', ⟨hi, hR⟩, _⟩ := hr k (by omega)
            have hw := hwt _ _ _ hR
            rw [take_at (List.getElem?_eq_getElem (show k < ts.length by omega)), take_at (x := (elems[k]).1) (by simp [hi])]
            have e2 : ∀ (l : List (DataW H)) (d : DataW H), Rows.uptoBulkAll (l ++ [d]) = Rows.uptoBulkAll l + Rows.uptoBulk d := by
              intro l d
              induction l with
              | nil => simp [Rows.uptoBulkAll]
              | cons y l ih => rw [List.cons_append, Rows.uptoBulkAll, ih, Rows.uptoBulkAll]; omega
            rw [e2, List.map_append, List.sum_append]
            simp only [List.map_cons, List.map_nil, List.sum_cons, List.sum_nil]
            omega
        have := hw ts.length (Nat.le_refl _)
        rw [List.take_length, List.take_of_length_le (by simp; omega)] at this
        simp only [Rows.uptoBulk]
        omega
end
end Go.Proofs.Ytcoiagfeoonpbaa
