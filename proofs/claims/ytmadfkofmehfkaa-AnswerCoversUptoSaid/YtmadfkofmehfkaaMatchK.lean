/-
  A map of terms, its keys in order: plain laws, and the look-up of an element that is there. No condition.
-/
import Derived.Test.YtmadfkofmehfkaaKeys
namespace Go.Proofs.Ytmadfkofmehfkaa
open Go.RowKit Go.Maps

theorem mem_insertD (a : Lit × DataW Value) : ∀ l : List (Lit × DataW Value), ∀ p ∈ DataW.insert a l, p = a ∨ p ∈ l
  | [], p, h => by
    simp only [DataW.insert, List.mem_singleton] at h
    exact .inl h
  | y :: r, p, h => by
    unfold DataW.insert at h
    split at h
    · rcases List.mem_cons.1 h with h | h
      · exact .inl h
      · exact .inr h
    · rcases List.mem_cons.1 h with h | h
      · exact .inr (h ▸ List.mem_cons_self ..)
      · rcases mem_insertD a r p h with h | h
        · exact .inl h
        · exact .inr (List.mem_cons_of_mem _ h)
theorem fold_entries : ∀ (M : List (Int × El)) (es : List (Lit × DataW Value)), (∀ p ∈ es, ∃ x, p.1 = .int .i64 x) → ∃ es', M.foldl putE (.map es) = .map es' ∧ ∀ p ∈ es', ∃ x, p.1 = .int .i64 x
  | [], es, h => ⟨es, rfl, h⟩
  | x :: M, es, h => by
    rw [List.foldl_cons]
    refine fold_entries M _ fun p hp => ?_
    rcases mem_insertD _ _ p hp with e | hp
    · exact ⟨x.1, by rw [e]⟩
    · exact h p (List.mem_filter.1 hp).1
theorem keys_perm {w : World} {b n : Nat} {M : List (Int × El)} (hown : w.ownsMap Try.prog 3 heldR b n (mapE M)) (hN : (M.map (·.1)).Nodup) : (M.map (·.1)).Perm (intKeys (mapE M)) := by
  obtain ⟨es, he, hp, _⟩ := hown.entries (int_keyed Try.underlying3)
  obtain ⟨es', he', hk⟩ := fold_entries M [] (fun p hp => by cases hp)
  have e0 : mapE M = .map es' := he'
  rw [e0] at he
  obtain rfl : es' = es := by injection he
  have hh := mapE_has M
  rw [e0] at hh ⊢
  refine perm_intKeys hp hk hN fun x => ?_
  rw [hh]
  constructor
  · intro hx
    obtain ⟨y, hy⟩ := look_some hx
    rw [hy]; rfl
  · intro hx
    cases hl : look M x with
    | none => rw [hl] at hx; cases hx
    | some y => exact List.mem_map.2 ⟨_, look_mem hl, rfl⟩
theorem wpList_lookup_held (w : World) {ops : Array Oper} {rest : List Oper} {o : Oper} {a : Act} {Q : Exit → Act → World → Prop} {P : Program}
    (hg : o.guard = none) (m x : Operand) (t : TypeId) (hop : o.op = Op.lookup t m x false)
    (k e : TypeId) (K : Keyed P k) (ht : P.underlying t = some (.map k e)) {z : Value} (hz : (zeroValue e).run P w = .ok z w) (b n : Nat) (D : DataW Value)
    (hm : a.eval m = .map (some b)) (hown : w.ownsMap P k heldR b n D) (key : Value) (kl : Lit) (hx : a.eval x = key) (hkey : keyOf P k key = some kl) (val : Value) (hat : D.atKey kl (.held z) = .held val)
    (hK : wpList P ops Q rest (a.put o.dst val) w) :
    wpList P ops Q (o :: rest) a w := by
  refine wpList_plain hg fun K' hK' => ?_
  obtain ⟨v, ps, hrun, hv⟩ := hown.lookup K ht hz (zd := .held z) (zp := []) rfl hkey
  rw [hat] at hv
  obtain ⟨rfl, _⟩ : v = val ∧ ps = [] := by simpa [heldR] using hv
  unfold Oper.wp
  simp [execOp, hop, hm, hx, hrun, Result.andThen]
  exact hK' _ _ hK
/-- What stands for a variable, as a row. -/
def bindT (x : Int × Tm) : List At := .v (.int .i64 x.1) :: x.2.row
def bindsT (l : List (Int × Tm)) : List (List At) := l.map bindT
theorem bindsT_len (l : List (Int × Tm)) : (bindsT l).length = l.length := by simp [bindsT]
theorem tmE_get {M : List (Int × El)} {n : Int} {e : El} (h : look M n = some e) : look (tmE M) n = some e.t := by rw [look_tmE, h]; rfl
/-- The list that a sorted list of the keys leads to. -/
def pickT (M : List (Int × Tm)) (L : List Int) : List (Int × Tm) := L.map fun n => (n, (look M n).getD (.mk 0 ⟨#[]⟩ 0 []))
theorem look_self {α : Type} : ∀ {M : List (Int × α)}, (M.map (·.1)).Nodup → ∀ x ∈ M, look M x.1 = some x.2
  | (n, e) :: M, hN, x, hx => by
    rw [List.map_cons, List.nodup_cons] at hN
    rw [look_cons]
    rcases List.mem_cons.1 hx with rfl | hx
    · rw [if_pos rfl]
    · rw [if_neg (fun h => hN.1 (List.mem_map.2 ⟨x, hx, h.symm⟩))]
      exact look_self hN.2 x hx
theorem pick_self {M : List (Int × Tm)} (hN : (M.map (·.1)).Nodup) : pickT M (M.map (·.1)) = M := by
  unfold pickT
  rw [List.map_map]
  conv => rhs; rw [← List.map_id M]
  refine List.map_congr_left fun x hx => ?_
  have hl := look_self hN x hx
  show (x.1, (look M x.1).getD _) = x
  rw [hl]; rfl
theorem pick_perm {M : List (Int × Tm)} (hN : (M.map (·.1)).Nodup) {L : List Int} (h : L.Perm (M.map (·.1))) : (pickT M L).Perm M := by
  have := h.map (fun n => (n, (look M n).getD (.mk 0 ⟨#[]⟩ 0 [])))
  have e : (M.map (·.1)).map (fun n => (n, (look M n).getD (.mk 0 ⟨#[]⟩ 0 []))) = M := pick_self hN
  rw [e] at this
  exact this
theorem tmE_keys (M : List (Int × El)) : (tmE M).map (·.1) = M.map (·.1) := by unfold tmE; rw [List.map_map]; rfl
end Go.Proofs.Ytmadfkofmehfkaa
