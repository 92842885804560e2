/-
  The plain law of the groups, second part: both orders are one; the lengths. No condition.
-/
import Derived.Test.YtlhkkkmjoobpcaaGroupsL
namespace Go.Proofs.Ytlhkkkmjoobpcaa

def pickR (l : List (List Int)) (told : List Bool) : Option Nat := (List.range l.length).find? fun i => !on told i && rdyP l told i l.length
def stepR (l : List (List Int)) (s : List Bool × List (List Int)) : List Bool × List (List Int) :=
  match pickR l s.1 with
  | none => s
  | some i => (markT s.1 (grpP l i l.length), s.2 ++ [grpP l i l.length])
/-- The document's rounds. -/
def rounR (l : List (List Int)) : Nat → List Bool × List (List Int)
  | 0 => (List.replicate l.length false, [])
  | k + 1 => stepR l (rounR l k)
def itR (l : List (List Int)) : Nat → List Bool × List (List Int) → List Bool × List (List Int)
  | 0, s => s
  | m + 1, s => itR l m (stepR l s)
theorem itR_roun (l : List (List Int)) : ∀ m k, itR l m (rounR l k) = rounR l (k + m)
  | 0, k => rfl
  | m + 1, k => by
    rw [itR, ← rounR, itR_roun l m (k + 1)]
    congr 1; omega
theorem some_ready {l : List (List Int)} {told : List Bool} : ∀ (m : Nat) (i : Nat) (S : List Nat), S.length ≤ m → (∀ k : Nat, (k = i ∨ Rch l i k) → k ∈ S) → i < l.length → on told i = false → ∃ j, j < l.length ∧ on told j = false ∧ rdyP l told j l.length = true := by
  intro m
  induction m with
  | zero =>
    intro i S hS h hi _
    have := h i (.inl rfl)
    rw [List.eq_nil_of_length_eq_zero (Nat.le_zero.1 hS)] at this
    cases this
  | succ m ih =>
    intro i S hS h hi ht
    by_cases hr : rdyP l told i l.length = true
    · exact ⟨i, hi, ht, hr⟩
    · rw [rdy_iff] at hr
      obtain ⟨k, hk⟩ := Classical.not_forall.1 hr
      obtain ⟨hk1, hk2⟩ := Classical.not_imp.1 hk
      have hk3 : ¬ EqG l i k := fun e => hk2 (.inl e)
      have hk4 : on told k = false := Bool.eq_false_iff.2 fun e => hk2 (.inr e)
      refine ih k (S.erase i) ?_ (fun j hj => ?_) (by have := (okN_iff.1 hk1.ok).2; omega) hk4
      · rw [List.length_erase_of_mem (h i (.inl rfl))]; omega
      · have hj1 : Rch l i j := by
          rcases hj with rfl | hj
          · exact hk1
          · exact hk1.then hj
        have hne : j ≠ i := by
          rintro rfl
          rcases hj with e | hj
          · exact hk3 (.inl e.symm)
          · exact hk3 (.inr ⟨hk1, hj⟩)
        exact (List.mem_erase_of_ne hne).2 (h j (.inr hj1))
theorem map_erase {α β : Type} (f : α → β) : ∀ (L : List α) (i : Nat), (L.map f).eraseIdx i = (L.eraseIdx i).map f
  | [], _ => rfl
  | _ :: _, 0 => rfl
  | x :: L, i + 1 => by rw [List.map_cons, List.eraseIdx_cons_succ, map_erase f L i, List.eraseIdx_cons_succ, List.map_cons]
theorem pairwise_erase {L : List Nat} (hs : L.Pairwise (· < ·)) : ∀ (i : Nat) (x : Nat), L[i]? = some x → (L.eraseIdx i).Pairwise (· < ·) ∧ ∀ j, j ∈ L.eraseIdx i ↔ j ∈ L ∧ j ≠ x := by
  induction L with
  | nil => intro i x h; simp at h
  | cons y L ih =>
    intro i x h
    obtain ⟨h1, h2⟩ := List.pairwise_cons.1 hs
    cases i with
    | zero =>
      obtain rfl : y = x := by simpa using h
      refine ⟨h2, fun j => ?_⟩
      rw [List.eraseIdx_cons_zero, List.mem_cons]
      constructor
      · intro hj; exact ⟨.inr hj, fun e => by have := h1 j hj; omega⟩
      · rintro ⟨rfl | hj, hne⟩
        · exact absurd rfl hne
        · exact hj
    | succ i =>
      obtain ⟨h3, h4⟩ := ih h2 i x (by simpa using h)
      have hx : x ∈ L := List.mem_of_getElem? (by simpa using h)
      rw [List.eraseIdx_cons_succ]
      refine ⟨List.pairwise_cons.2 ⟨fun j hj => h1 j ((h4 j).1 hj).1, h3⟩, fun j => ?_⟩
      rw [List.mem_cons, List.mem_cons, h4 j]
      constructor
      · rintro (rfl | ⟨hj, hne⟩)
        · exact ⟨.inl rfl, fun e => by have := h1 x hx; omega⟩
        · exact ⟨.inr hj, hne⟩
      · rintro ⟨rfl | hj, hne⟩
        · exact .inl rfl
        · exact .inr ⟨hj, hne⟩
/-- The groups not yet told, by their least nodes. -/
structure Left (l : List (List Int)) (told : List Bool) (L : List Nat) : Prop where
  sorted : L.Pairwise (· < ·)
  mem : ∀ j, j ∈ L ↔ Least l j ∧ on told j = false
theorem run_of {l : List (List Int)} : ∀ (m : Nat) (told : List Bool) (L : List Nat) (out : List (List Int)), ClosedG l told → Left l told L → L.length ≤ m → RunG l told (L.map fun i => grpP l i l.length) out (itR l m (told, out)).2 := by
  intro m
  induction m with
  | zero =>
    intro told L out _ _ hm
    obtain rfl := List.eq_nil_of_length_eq_zero (Nat.le_zero.1 hm)
    exact .done _ _
  | succ m ih =>
    intro told L out hc hL hm
    have hunt : ∀ j, j < l.length → on told j = false → ∃ j', j' ≤ j ∧ j' ∈ L ∧ EqG l j j' := fun j hj ht => by
      obtain ⟨j', h1, h2, h3⟩ := least_of j hj
      refine ⟨j', h1, (hL.mem j').2 ⟨h2, Bool.eq_false_iff.2 fun e => ?_⟩, h3⟩
      rw [hc.same j' j e h3.symm] at ht
      cases ht
    cases L with
    | nil =>
      have hp : pickR l told = none := by
        unfold pickR
        rw [List.find?_eq_none]
        intro i hi
        have hi := List.mem_range.1 hi
        cases ht : on told i with
        | true => simp
        | false =>
          obtain ⟨_, _, h, _⟩ := hunt i hi ht
          cases h
      have he : ∀ k, itR l k (told, out) = (told, out) := by
        intro k
        induction k with
        | zero => rfl
        | succ k ihk =>
          rw [itR, show stepR l (told, out) = (told, out) by unfold stepR; rw [hp]]
          exact ihk
      rw [he]
      exact .done _ _
    | cons y L0 =>
      have hy := (hL.mem y).1 (List.mem_cons_self ..)
      obtain ⟨j, hj1, hj2, hj3⟩ := some_ready l.length y (List.range l.length) (by simp) (fun k hk => List.mem_range.2 (by
        rcases hk with rfl | hk
        · exact hy.1.1
        · have := (okN_iff.1 hk.ok).2; omega)) hy.1.1 hy.2
      obtain ⟨j', _, hj4, hj5⟩ := hunt j hj1 hj2
      generalize hLL : y :: L0 = LL at *
      have hrd : ∀ i ∈ LL, readyG l told (grpP l i l.length) = rdyP l told i l.length := fun i hi => ready_iff ((hL.mem i).1 hi).1.1 hc
      have hany : (LL.map fun i => grpP l i l.length).any (readyG l told) = true := by
        rw [List.any_map, List.any_eq_true]
        exact ⟨j', hj4, by show readyG l told _ = true; rw [hrd j' hj4]; exact rdy_same hj5 hj3⟩
      have hidx : (LL.map fun i => grpP l i l.length).findIdx (readyG l told) < (LL.map fun i => grpP l i l.length).length := List.findIdx_lt_length.2 (by
        obtain ⟨x, hx, e⟩ := List.any_eq_true.1 hany
        exact ⟨x, hx, e⟩)
      obtain ⟨ix, hix, hixL, hgood, hfirst⟩ : ∃ ix, (LL.map fun i => grpP l i l.length).findIdx (readyG l told) = ix ∧ ∃ hixL : ix < LL.length, readyG l told (grpP l LL[ix] l.length) = true ∧ ∀ a (ha : a < LL.length), a < ix → readyG l told (grpP l LL[a] l.length) = false := by
        refine ⟨_, rfl, by rwa [List.length_map] at hidx, ?_, fun a ha hai => ?_⟩
        · have := List.findIdx_getElem (w := hidx)
          rwa [List.getElem_map] at this
        · have := List.not_of_lt_findIdx hai
          rw [List.getElem_map] at this
          simpa using this
      clear hidx
      have hiL : LL[ix] ∈ LL := List.getElem_mem hixL
      have hi := (hL.mem LL[ix]).1 hiL
      rw [hrd _ hiL] at hgood
      have hpick : pickR l told = some LL[ix] := by
        unfold pickR
        rw [List.find?_range_eq_some]
        refine ⟨by rw [hi.2, hgood]; rfl, List.mem_range.2 hi.1.1, fun a ha => ?_⟩
        cases ht : on told a with
        | true => simp
        | false =>
          cases hr : rdyP l told a l.length with
          | false => simp
          | true =>
            exfalso
            have hil := hi.1.1
            obtain ⟨a', ha1, ha2, ha3⟩ := hunt a (by omega) ht
            obtain ⟨p, hp, e⟩ := List.getElem_of_mem ha2
            have hlt : p < ix := by
              apply Nat.lt_of_not_le
              intro hle
              rcases Nat.eq_or_lt_of_le hle with h | h
              · subst h; omega
              · have := List.pairwise_iff_getElem.1 hL.sorted ix p hixL hp h
                omega
            have h1 := hfirst p hp hlt
            rw [e, hrd a' ha2, rdy_same ha3 hr] at h1
            cases h1
      obtain ⟨hsE, hmE⟩ := pairwise_erase hL.sorted ix LL[ix] (List.getElem?_eq_getElem hixL)
      have hcl := hc.mark hi.1.1 hgood
      have hLeft : Left l (markT told (grpP l LL[ix] l.length)) (LL.eraseIdx ix) := ⟨hsE, fun j => by
        rw [hmE, hL.mem]
        constructor
        · rintro ⟨⟨h1, h2⟩, h3⟩
          refine ⟨h1, Bool.eq_false_iff.2 fun e => ?_⟩
          rcases (markT_grp hi.1.1 hc.len j).1 e with h4 | h4
          · rw [h2] at h4; cases h4
          · exact h3 (hi.1.eq h1 h4).symm
        · rintro ⟨h1, h2⟩
          refine ⟨⟨h1, Bool.eq_false_iff.2 fun e => ?_⟩, fun e => ?_⟩
          · rw [(markT_grp hi.1.1 hc.len j).2 (.inl e)] at h2; cases h2
          · rw [(markT_grp hi.1.1 hc.len j).2 (.inr (e ▸ .refl _ _))] at h2; cases h2⟩
      have hrun := ih _ _ (out ++ [grpP l LL[ix] l.length]) hcl hLeft (by rw [List.length_eraseIdx_of_lt hixL]; omega)
      refine .step (g := grpP l LL[ix] l.length) hany (by rw [hix, List.getElem?_map, List.getElem?_eq_getElem hixL]; rfl) ?_
      rw [hix, itR, show stepR l (told, out) = (markT told (grpP l LL[ix] l.length), out ++ [grpP l LL[ix] l.length]) by unfold stepR; rw [hpick]]
      have e : (LL.map fun i => grpP l i l.length).eraseIdx ix = (LL.eraseIdx ix).map fun i => grpP l i l.length := map_erase _ LL ix
      rw [e]
      exact hrun
theorem doneP_on {l : List (List Int)} {i : Nat} {d : List Bool} (hd : d.length = l.length) : ∀ (k j : Nat), k ≤ l.length → (on (doneP l i d k) j = true ↔ on d j = true ∨ (j < k ∧ EqG l i j))
  | 0, j, _ => by
    constructor
    · intro h; exact .inl h
    · rintro (h | ⟨h, _⟩)
      · exact h
      · omega
  | k + 1, j, hk => by
    have ih := doneP_on (i := i) hd k j (by omega)
    rw [doneP_succ]
    split
    · rename_i h
      rw [on_set, Bool.or_eq_true, ih, doneP_len, hd, Bool.and_eq_true, decide_eq_true_eq, decide_eq_true_eq]
      constructor
      · rintro ((h1 | ⟨h1, h2⟩) | ⟨rfl, h2⟩)
        · exact .inl h1
        · exact .inr ⟨by omega, h2⟩
        · exact .inr ⟨by omega, ownG_iff.1 h⟩
      · rintro (h1 | ⟨h1, h2⟩)
        · exact .inl (.inl h1)
        · by_cases e : k = j
          · exact .inr ⟨e, by omega⟩
          · exact .inl (.inr ⟨by omega, h2⟩)
    · rename_i h
      rw [ih]
      constructor
      · rintro (h1 | ⟨h1, h2⟩)
        · exact .inl h1
        · exact .inr ⟨by omega, h2⟩
      · rintro (h1 | ⟨h1, h2⟩)
        · exact .inl h1
        · by_cases e : k = j
          · subst e; exact absurd (ownG_iff.2 h2) h
          · exact .inr ⟨by omega, h2⟩
theorem groupsS_is {l : List (List Int)} : ∀ m, m ≤ l.length → (∀ k, on (groupsS l m).1 k = true ↔ k < l.length ∧ ∃ i, i < m ∧ EqG l i k) ∧ ∃ L : List Nat, (groupsS l m).2 = L.map (fun i => grpP l i l.length) ∧ L.Pairwise (· < ·) ∧ (∀ j, j ∈ L ↔ Least l j ∧ j < m)
  | 0, _ => by
    refine ⟨fun k => ?_, [], rfl, .nil, fun j => ?_⟩
    · rw [groupsS]
      constructor
      · intro h
        unfold on at h
        rw [List.getElem?_replicate] at h
        split at h <;> simp at h
      · rintro ⟨_, i, hi, _⟩; omega
    · constructor
      · intro h; cases h
      · rintro ⟨_, h⟩; omega
  | m + 1, hm => by
    obtain ⟨h1, L, h2, h3, h4⟩ := groupsS_is (l := l) m (by omega)
    have hlen := (groupsS_len l m).1
    rw [groupsS]
    split
    · rename_i hon
      obtain ⟨_, i, hi, he⟩ := (h1 m).1 hon
      refine ⟨fun k => ?_, L, h2, h3, fun j => ?_⟩
      · rw [h1]
        constructor
        · rintro ⟨hk, a, ha, hb⟩; exact ⟨hk, a, by omega, hb⟩
        · rintro ⟨hk, a, ha, hb⟩
          by_cases e : a = m
          · subst e; exact ⟨hk, i, hi, he.trans hb⟩
          · exact ⟨hk, a, by omega, hb⟩
      · rw [h4]
        constructor
        · rintro ⟨ha, hb⟩; exact ⟨ha, by omega⟩
        · rintro ⟨ha, hb⟩
          refine ⟨ha, ?_⟩
          apply Nat.lt_of_not_le
          intro hle
          obtain rfl : j = m := by omega
          exact ha.2 i hi he.symm
    · rename_i hon
      refine ⟨fun k => ?_, L ++ [m], by simp [h2], List.pairwise_append.2 ⟨h3, by simp, fun a ha b hb => ?_⟩, fun j => ?_⟩
      · rw [doneP_on hlen l.length k (Nat.le_refl _), h1]
        constructor
        · rintro (⟨hk, a, ha, hb⟩ | ⟨hk, hb⟩)
          · exact ⟨hk, a, by omega, hb⟩
          · exact ⟨hk, m, by omega, hb⟩
        · rintro ⟨hk, a, ha, hb⟩
          by_cases e : a = m
          · subst e; exact .inr ⟨hk, hb⟩
          · exact .inl ⟨hk, a, by omega, hb⟩
      · obtain rfl := List.mem_singleton.1 hb
        exact ((h4 a).1 ha).2
      · rw [List.mem_append, h4, List.mem_singleton]
        constructor
        · rintro (⟨ha, hb⟩ | rfl)
          · exact ⟨ha, by omega⟩
          · exact ⟨⟨by omega, fun k hk he => hon ((h1 j).2 ⟨by omega, k, hk, he.symm⟩)⟩, by omega⟩
        · rintro ⟨ha, hb⟩
          by_cases e : j = m
          · exact .inr e
          · exact .inl ⟨ha, by omega⟩
theorem run_groups (l : List (List Int)) : RunG l (List.replicate l.length false) (groupsS l l.length).2 [] (rounR l l.length).2 := by
  obtain ⟨_, L, h2, h3, h4⟩ := groupsS_is (l := l) l.length (Nat.le_refl _)
  have hoff : ∀ k, on (List.replicate l.length false) k = false := fun k => by
    unfold on
    rw [List.getElem?_replicate]
    split <;> rfl
  have h := run_of l.length (List.replicate l.length false) L [] ⟨List.length_replicate, (fun i k hi => by rw [hoff] at hi; cases hi), (fun i k hi => by rw [hoff] at hi; cases hi)⟩
    ⟨h3, fun j => by rw [h4, hoff]; exact ⟨fun h => ⟨h.1, rfl⟩, fun h => ⟨h.1, h.1.1⟩⟩⟩ (by
      have := (groupsS_len l l.length).2
      rw [h2, List.length_map] at this
      exact this)
  rw [h2]
  have e := itR_roun l l.length 0
  rw [rounR, Nat.zero_add] at e
  rw [← e]
  exact h
/-- How many nodes. -/
theorem cnt_or {p q : Nat → Bool} : ∀ {L : List Nat}, (∀ k ∈ L, p k = true → q k = false) → L.countP (fun k => p k || q k) = L.countP p + L.countP q
  | [], _ => rfl
  | x :: L, h => by
    have ih := cnt_or (L := L) fun k hk => h k (List.mem_cons_of_mem _ hk)
    have h1 := h x (List.mem_cons_self ..)
    rw [List.countP_cons, List.countP_cons, List.countP_cons, ih]
    cases hp : p x with
    | true => rw [h1 hp]; simp; omega
    | false => cases q x <;> simp; omega
theorem groups_cnt {l : List (List Int)} : ∀ m, m ≤ l.length → ((groupsS l m).2.map List.length).sum = (List.range l.length).countP (on (groupsS l m).1)
  | 0, _ => by
    rw [groupsS]
    symm
    show _ = 0
    rw [List.countP_eq_zero]
    intro k _
    unfold on
    rw [List.getElem?_replicate]
    split <;> simp
  | m + 1, hm => by
    have ih := groups_cnt (l := l) m (by omega)
    obtain ⟨h1, _⟩ := groupsS_is (l := l) m (by omega)
    have hlen := (groupsS_len l m).1
    rw [groupsS]
    split
    · exact ih
    · rename_i hon
      rw [List.map_append, List.sum_append, ih]
      have e : (List.range l.length).countP (on (doneP l m (groupsS l m).1 l.length)) = (List.range l.length).countP (fun k => on (groupsS l m).1 k || ownG l m k) := by
        refine List.countP_congr fun k hk => ?_
        rw [doneP_on hlen l.length k (Nat.le_refl _), Bool.or_eq_true, ownG_iff]
        have := List.mem_range.1 hk
        exact ⟨fun h => h.imp id fun h => h.2, fun h => h.imp id fun h => ⟨this, h⟩⟩
      rw [e, cnt_or]
      · congr 1
        simp [grpP, List.countP_eq_length_filter]
      · intro k hk h
        obtain ⟨_, i, hi, he⟩ := (h1 k).1 h
        rw [Bool.eq_false_iff]
        intro h2
        exact hon ((h1 m).2 ⟨by omega, i, hi, he.trans (ownG_iff.1 h2).symm⟩)
theorem erase_sum {gs : List (List Int)} : ∀ {i : Nat} {g : List Int}, gs[i]? = some g → (gs.map List.length).sum = g.length + ((gs.eraseIdx i).map List.length).sum := by
  induction gs with
  | nil => intro i g h; simp at h
  | cons x gs ih =>
    intro i g h
    cases i with
    | zero =>
      obtain rfl : x = g := by simpa using h
      simp
    | succ i =>
      have := ih (i := i) (g := g) (by simpa using h)
      rw [List.eraseIdx_cons_succ, List.map_cons, List.map_cons, List.sum_cons, List.sum_cons]; omega
theorem RunG.sum {l : List (List Int)} {told : List Bool} {all out res : List (List Int)} (h : RunG l told all out res) : (res.map List.length).sum = (all.map List.length).sum + (out.map List.length).sum := by
  induction h with
  | done told out => simp
  | step _ hg _ ih =>
    rw [ih, erase_sum hg]
    simp; omega
theorem roun_sum (l : List (List Int)) : ((rounR l l.length).2.map List.length).sum = l.length := by
  rw [(run_groups l).sum, groups_cnt l.length (Nat.le_refl _)]
  obtain ⟨h1, _⟩ := groupsS_is (l := l) l.length (Nat.le_refl _)
  have : (List.range l.length).countP (on (groupsS l l.length).1) = (List.range l.length).length := by
    rw [List.countP_eq_length]
    intro k hk
    have := List.mem_range.1 hk
    exact (h1 k).2 ⟨this, k, this, .refl _ _⟩
  rw [this]
  simp
end Go.Proofs.Ytlhkkkmjoobpcaa
