/-
  Whom a node comes to, in plain Lean: by a queue; by marks in rounds. Both are the same. No condition.
-/
import Derived.Test.YtlhkkkmjoobpcaaBase
namespace Go.Proofs.Ytlhkkkmjoobpcaa

def okN (n : Nat) (k : Int) : Bool := decide (0 ≤ k) && decide (k < (n : Int))
theorem okN_iff {n : Nat} {k : Int} : okN n k = true ↔ 0 ≤ k ∧ k < (n : Int) := by simp [okN]
def rowG (l : List (List Int)) (i : Int) : List Int := (l[i.toNat]?).getD []
/-- The nodes that a node leads to. -/
def stepsG (l : List (List Int)) (i : Int) : List Int := if okN l.length i then (rowG l i).filter (okN l.length) else []
theorem stepsG_ok {l : List (List Int)} {i k : Int} (h : k ∈ stepsG l i) : okN l.length k = true := by
  unfold stepsG at h
  split at h
  · exact (List.mem_filter.1 h).2
  · cases h
inductive Rch (l : List (List Int)) (a : Int) : Int → Prop
  | one {k : Int} : k ∈ stepsG l a → Rch l a k
  | step {i k : Int} : Rch l a i → k ∈ stepsG l i → Rch l a k
theorem Rch.ok {l : List (List Int)} {a k : Int} (h : Rch l a k) : okN l.length k = true := by
  cases h with
  | one h => exact stepsG_ok h
  | step _ h => exact stepsG_ok h
/-- What holds while the queue is worked off. -/
structure Bfs (l : List (List Int)) (a : Int) (q out : List Int) : Prop where
  rch : ∀ k, k ∈ q ∨ k ∈ out → Rch l a k
  one : ∀ k ∈ stepsG l a, k ∈ q ∨ k ∈ out
  step : ∀ i ∈ out, ∀ k ∈ stepsG l i, k ∈ q ∨ k ∈ out
  nodup : out.Nodup
theorem Bfs.start (l : List (List Int)) (a : Int) : Bfs l a (stepsG l a) [] :=
  ⟨fun _ h => h.elim .one (fun h => nomatch h), fun _ h => .inl h, fun _ h => (nomatch h), List.nodup_nil⟩
theorem Bfs.skip {l : List (List Int)} {a k : Int} {q out : List Int} (h : Bfs l a (k :: q) out) (hk : k ∈ out) : Bfs l a q out :=
  ⟨fun j hj => h.rch j (hj.imp (List.mem_cons_of_mem _) id), fun j hj => (h.one j hj).elim (fun h1 => (List.mem_cons.1 h1).elim (fun e => .inr (e ▸ hk)) .inl) .inr,
   fun i hi j hj => (h.step i hi j hj).elim (fun h1 => (List.mem_cons.1 h1).elim (fun e => .inr (e ▸ hk)) .inl) .inr, h.nodup⟩
theorem Bfs.take {l : List (List Int)} {a k : Int} {q out : List Int} (h : Bfs l a (k :: q) out) (hk : k ∉ out) : Bfs l a (q ++ stepsG l k) (out ++ [k]) := by
  have hr := h.rch k (.inl (List.mem_cons_self ..))
  refine ⟨fun j hj => ?_, fun j hj => ?_, fun i hi j hj => ?_, ?_⟩
  · rcases hj with hj | hj
    · rcases List.mem_append.1 hj with hj | hj
      · exact h.rch j (.inl (List.mem_cons_of_mem _ hj))
      · exact .step hr hj
    · rcases List.mem_append.1 hj with hj | hj
      · exact h.rch j (.inr hj)
      · rw [List.mem_singleton.1 hj]; exact hr
  · rcases h.one j hj with h1 | h1
    · rcases List.mem_cons.1 h1 with rfl | h1
      · exact .inr (List.mem_append_right _ (List.mem_singleton_self _))
      · exact .inl (List.mem_append_left _ h1)
    · exact .inr (List.mem_append_left _ h1)
  · rcases List.mem_append.1 hi with hi | hi
    · rcases h.step i hi j hj with h1 | h1
      · rcases List.mem_cons.1 h1 with rfl | h1
        · exact .inr (List.mem_append_right _ (List.mem_singleton_self _))
        · exact .inl (List.mem_append_left _ h1)
      · exact .inr (List.mem_append_left _ h1)
    · rw [List.mem_singleton.1 hi] at hj
      exact .inl (List.mem_append_right _ hj)
  · rw [List.nodup_append]
    refine ⟨h.nodup, by simp, fun x hx y hy e => ?_⟩
    rw [List.mem_singleton.1 hy] at e
    exact hk (e ▸ hx)
theorem Bfs.done {l : List (List Int)} {a : Int} {out : List Int} (h : Bfs l a [] out) (k : Int) : Rch l a k ↔ k ∈ out := by
  constructor
  · intro hr
    induction hr with
    | one hk => exact (h.one _ hk).elim (fun h => by cases h) id
    | step _ hk ih => exact (h.step _ ih _ hk).elim (fun h => by cases h) id
  · intro hk; exact h.rch k (.inr hk)
theorem nodup_le {α : Type} [DecidableEq α] : ∀ {xs ys : List α}, xs.Nodup → (∀ x ∈ xs, x ∈ ys) → xs.length ≤ ys.length
  | [], ys, _, _ => Nat.zero_le _
  | x :: xs, ys, hn, h => by
    have hx := h x (List.mem_cons_self ..)
    obtain ⟨hxn, hn'⟩ := List.nodup_cons.1 hn
    have h1 := nodup_le (ys := ys.erase x) hn' fun y hy => (List.mem_erase_of_ne (fun (e : y = x) => hxn (e ▸ hy))).2 (h y (List.mem_cons_of_mem _ hy))
    rw [List.length_erase_of_mem hx] at h1
    have h2 : 0 < ys.length := List.length_pos_of_mem hx
    simp only [List.length_cons]
    omega
theorem Bfs.few {l : List (List Int)} {a : Int} {q out : List Int} (h : Bfs l a q out) : out.length ≤ l.length := by
  have h1 : ∀ k ∈ out, k ∈ (List.range l.length).map (fun i : Nat => (i : Int)) := fun k hk => by
    obtain ⟨h0, h1⟩ := okN_iff.1 (h.rch k (.inr hk)).ok
    exact List.mem_map.2 ⟨k.toNat, List.mem_range.2 (by omega), by omega⟩
  have := nodup_le h.nodup h1
  simpa using this

/-- Marks, in rounds. -/
def markK (n : Nat) (o : List Bool) (k : Int) : List Bool := if okN n k then o.set k.toNat true else o
def markI (l : List (List Int)) (a : Int) (o : List Bool) (i : Nat) : List Bool := if (i : Int) ≠ a ∧ (o[i]?).getD false = false then o else (rowG l i).foldl (markK l.length) o
def roundR (l : List (List Int)) (a : Int) (o : List Bool) : List Bool := (List.range l.length).foldl (markI l a) o
def roundsR (l : List (List Int)) (a : Int) : Nat → List Bool
  | 0 => List.replicate l.length false
  | m + 1 => roundR l a (roundsR l a m)
def on (o : List Bool) (k : Nat) : Bool := (o[k]?).getD false
def leB (o o' : List Bool) : Prop := o'.length = o.length ∧ ∀ k, on o k = true → on o' k = true
theorem leB.refl (o : List Bool) : leB o o := ⟨rfl, fun _ h => h⟩
theorem leB.trans {a b c : List Bool} (h : leB a b) (k : leB b c) : leB a c := ⟨k.1.trans h.1, fun j hj => k.2 j (h.2 j hj)⟩
theorem on_set (o : List Bool) (i j : Nat) : on (o.set i true) j = (on o j || (decide (i = j) && decide (i < o.length))) := by
  unfold on
  rw [List.getElem?_set]
  by_cases h : i = j
  · subst h
    by_cases h2 : i < o.length
    · simp [h2]
    · simp [h2]
  · simp [h]
theorem markK_le (n : Nat) (o : List Bool) (k : Int) : leB o (markK n o k) := by
  unfold markK
  split
  · exact ⟨by simp, fun j hj => by rw [on_set, hj]; rfl⟩
  · exact leB.refl _
theorem foldK_le (n : Nat) (r : List Int) : ∀ o : List Bool, leB o (r.foldl (markK n) o) := by
  induction r with
  | nil => intro o; exact leB.refl _
  | cons k r ih => intro o; exact (markK_le n o k).trans (ih _)
theorem markI_le (l : List (List Int)) (a : Int) (o : List Bool) (i : Nat) : leB o (markI l a o i) := by
  unfold markI
  split
  · exact leB.refl _
  · exact foldK_le _ _ _
theorem foldI_le (l : List (List Int)) (a : Int) (r : List Nat) : ∀ o : List Bool, leB o (r.foldl (markI l a) o) := by
  induction r with
  | nil => intro o; exact leB.refl _
  | cons k r ih => intro o; exact (markI_le l a o k).trans (ih _)
theorem foldK_on {n : Nat} {r : List Int} : ∀ {o : List Bool}, o.length = n → ∀ {k : Int}, k ∈ r → okN n k = true → on (r.foldl (markK n) o) k.toNat = true := by
  induction r with
  | nil => intro o _ k hk; cases hk
  | cons j r ih =>
    intro o ho k hk hok
    rcases List.mem_cons.1 hk with rfl | hk
    · refine (foldK_le n r _).2 _ ?_
      obtain ⟨h0, h1⟩ := okN_iff.1 hok
      rw [markK, if_pos hok, on_set, decide_eq_true rfl, decide_eq_true (show k.toNat < o.length by omega)]
      simp
    · exact ih (by rw [(markK_le n o j).1, ho]) hk hok
theorem foldK_sound {n : Nat} {r : List Int} {P : Nat → Prop} : ∀ {o : List Bool}, (∀ k ∈ r, okN n k = true → P k.toNat) → (∀ k, on o k = true → P k) → ∀ k, on (r.foldl (markK n) o) k = true → P k := by
  induction r with
  | nil => intro o _ h k hk; exact h k hk
  | cons j r ih =>
    intro o hr h
    refine ih (fun k hk => hr k (List.mem_cons_of_mem _ hk)) fun k hk => ?_
    unfold markK at hk
    split at hk
    · rename_i hok
      rw [on_set, Bool.or_eq_true, Bool.and_eq_true] at hk
      rcases hk with hk | ⟨hk, _⟩
      · exact h k hk
      · have e : j.toNat = k := of_decide_eq_true hk
        rw [← e]
        exact hr j (List.mem_cons_self ..) hok
    · exact h k hk
theorem mem_steps {l : List (List Int)} {i k : Int} (hi : okN l.length i = true) (hk : k ∈ rowG l i) (hok : okN l.length k = true) : k ∈ stepsG l i := by
  rw [stepsG, if_pos hi]
  exact List.mem_filter.2 ⟨hk, hok⟩
theorem markI_sound {l : List (List Int)} {a : Int} {o : List Bool} {i : Nat} (hi : i < l.length) (h : ∀ k, on o k = true → Rch l a k) : ∀ k, on (markI l a o i) k = true → Rch l a k := by
  unfold markI
  split
  · exact h
  · rename_i hc
    have hok : okN l.length (i : Int) = true := okN_iff.2 ⟨by omega, by omega⟩
    refine foldK_sound (P := fun k : Nat => Rch l a (k : Int)) (fun k hk hk2 => ?_) h
    have e : ((k.toNat : Nat) : Int) = k := Int.toNat_of_nonneg (okN_iff.1 hk2).1
    rw [e]
    have hs := mem_steps hok hk hk2
    by_cases hia : (i : Int) = a
    · rw [hia] at hs; exact .one hs
    · have ho : on o i = true := by
        cases hh : on o i with
        | true => rfl
        | false => exact absurd ⟨hia, hh⟩ hc
      exact .step (h i ho) hs
theorem foldI_sound {l : List (List Int)} {a : Int} (r : List Nat) : ∀ {o : List Bool}, (∀ i ∈ r, i < l.length) → (∀ k, on o k = true → Rch l a k) → ∀ k, on (r.foldl (markI l a) o) k = true → Rch l a k := by
  induction r with
  | nil => intro o _ h; exact h
  | cons j r ih => intro o hr h; exact ih (fun i hi => hr i (List.mem_cons_of_mem _ hi)) (markI_sound (hr j (List.mem_cons_self ..)) h)
theorem roundsR_sound (l : List (List Int)) (a : Int) : ∀ m k, on (roundsR l a m) k = true → Rch l a k
  | 0, k, h => by
    unfold roundsR on at h
    rw [List.getElem?_replicate] at h
    split at h <;> simp at h
  | m + 1, k, h => foldI_sound _ (fun i hi => List.mem_range.1 hi) (roundsR_sound l a m) k h
theorem roundsR_len (l : List (List Int)) (a : Int) : ∀ m, (roundsR l a m).length = l.length
  | 0 => by rw [roundsR, List.length_replicate]
  | m + 1 => by rw [roundsR, roundR, (foldI_le l a _ _).1]; exact roundsR_len l a m
/-- All that one leads to is marked. -/
def Shut (l : List (List Int)) (a : Int) (o : List Bool) : Prop := ∀ i : Nat, i < l.length → ((i : Int) = a ∨ on o i = true) → ∀ k ∈ stepsG l (i : Int), on o k.toNat = true
theorem foldI_on {l : List (List Int)} {a : Int} (r : List Nat) : ∀ {o : List Bool}, o.length = l.length → ∀ i ∈ r, i < l.length → ((i : Int) = a ∨ on o i = true) → ∀ k ∈ stepsG l (i : Int), on (r.foldl (markI l a) o) k.toNat = true := by
  induction r with
  | nil => intro o _ i hi; cases hi
  | cons j r ih =>
    intro o ho i hi hil hc k hk
    rcases List.mem_cons.1 hi with rfl | hi
    · refine (foldI_le l a r _).2 _ ?_
      have hn : ¬ ((i : Int) ≠ a ∧ (o[i]?).getD false = false) := fun ⟨h1, h2⟩ => hc.elim h1 (fun h => by unfold on at h; rw [h2] at h; cases h)
      rw [markI, if_neg hn]
      have hok : okN l.length (i : Int) = true := okN_iff.2 ⟨by omega, by omega⟩
      rw [stepsG, if_pos hok] at hk
      obtain ⟨h1, h2⟩ := List.mem_filter.1 hk
      exact foldK_on ho h1 h2
    · exact ih ((markI_le l a o j).1.trans ho) i hi hil (hc.imp id ((markI_le l a o j).2 i)) k hk
theorem shut_of_still {l : List (List Int)} {a : Int} {o : List Bool} (ho : o.length = l.length) (h : ∀ k, on (roundR l a o) k = true → on o k = true) : Shut l a o := fun i hi hc k hk =>
  h _ (foldI_on _ ho i (List.mem_range.2 hi) hi hc k hk)
def cntB (o : List Bool) : Nat := o.countP id
theorem on_cons_succ (x : Bool) (o : List Bool) (k : Nat) : on (x :: o) (k + 1) = on o k := by simp [on]
theorem cnt_le : ∀ {o o' : List Bool}, leB o o' → cntB o ≤ cntB o'
  | [], [], _ => Nat.le_refl _
  | [], _ :: _, h => by cases h.1
  | _ :: _, [], h => by cases h.1
  | x :: o, y :: o', h => by
    have ht : leB o o' := ⟨by simpa using h.1, fun k hk => by have := h.2 (k + 1) (by rw [on_cons_succ]; exact hk); rwa [on_cons_succ] at this⟩
    have h1 := cnt_le ht
    have h0 : x = true → y = true := fun hx => by have := h.2 0 (by simp [on, hx]); simpa [on] using this
    unfold cntB at *
    rw [List.countP_cons, List.countP_cons]
    cases x <;> cases y <;> simp_all <;> omega
theorem cnt_lt : ∀ {o o' : List Bool}, leB o o' → (∃ k, on o' k = true ∧ on o k = false) → cntB o < cntB o'
  | [], [], _, ⟨k, hk, _⟩ => by simp [on] at hk
  | [], _ :: _, h, _ => by cases h.1
  | _ :: _, [], h, _ => by cases h.1
  | x :: o, y :: o', h, ⟨k, hk, hk2⟩ => by
    have ht : leB o o' := ⟨by simpa using h.1, fun k hk => by have := h.2 (k + 1) (by rw [on_cons_succ]; exact hk); rwa [on_cons_succ] at this⟩
    have h1 := cnt_le ht
    have h0 : x = true → y = true := fun hx => by have := h.2 0 (by simp [on, hx]); simpa [on] using this
    cases k with
    | zero =>
      have e1 : y = true := by simpa [on] using hk
      have e2 : x = false := by simpa [on] using hk2
      unfold cntB at *
      rw [List.countP_cons, List.countP_cons, e1, e2]
      simp
      omega
    | succ k =>
      rw [on_cons_succ] at hk hk2
      have h2 := cnt_lt ht ⟨k, hk, hk2⟩
      unfold cntB at *
      rw [List.countP_cons, List.countP_cons]
      cases x <;> cases y <;> simp_all <;> omega
theorem rounds_shut (l : List (List Int)) (a : Int) : ∀ m, Shut l a (roundsR l a m) ∨ m ≤ cntB (roundsR l a m)
  | 0 => .inr (Nat.zero_le _)
  | m + 1 => by
    have hle : leB (roundsR l a m) (roundsR l a (m + 1)) := foldI_le l a _ _
    by_cases hs : ∀ k, on (roundsR l a (m + 1)) k = true → on (roundsR l a m) k = true
    · left
      have h1 := shut_of_still (roundsR_len l a m) hs
      intro i hi hc k hk
      exact hle.2 _ (h1 i hi (hc.imp id (hs i)) k hk)
    · right
      obtain ⟨k, hk⟩ := Classical.not_forall.1 hs
      have hk1 : on (roundsR l a (m + 1)) k = true := Classical.byContradiction fun h => hk fun h2 => absurd h2 h
      have hk2 : on (roundsR l a m) k = false := by
        cases hh : on (roundsR l a m) k with
        | false => rfl
        | true => exact absurd (fun _ => hh) hk
      have h2 := cnt_lt hle ⟨k, hk1, hk2⟩
      rcases rounds_shut l a m with h | h
      · exfalso
        -- a shut round adds nothing
        have hst : ∀ j, on (roundsR l a (m + 1)) j = true → on (roundsR l a m) j = true := by
          have key : ∀ (r : List Nat) (o : List Bool), (∀ j, on o j = true → on (roundsR l a m) j = true) → (∀ i ∈ r, i < l.length) → ∀ j, on (r.foldl (markI l a) o) j = true → on (roundsR l a m) j = true := by
            intro r
            induction r with
            | nil => intro o ho _; exact ho
            | cons i r ih =>
              intro o ho hr
              refine ih _ ?_ (fun i hi => hr i (List.mem_cons_of_mem _ hi))
              have hil := hr i (List.mem_cons_self ..)
              have hok : okN l.length (i : Int) = true := okN_iff.2 ⟨by omega, by omega⟩
              unfold markI
              split
              · exact ho
              · rename_i hc
                refine foldK_sound (P := fun k : Nat => on (roundsR l a m) k = true) (fun k hk hk2 => ?_) ho
                refine h i hil ?_ k (mem_steps hok hk hk2)
                by_cases hia : (i : Int) = a
                · exact .inl hia
                · right
                  refine ho i ?_
                  cases hh : on o i with
                  | true => rfl
                  | false => exact absurd ⟨hia, hh⟩ hc
          exact key _ _ (fun j hj => hj) (fun i hi => List.mem_range.1 hi)
        exact hs hst
      · omega
/-- The marks behind enough rounds are those that one comes to. -/
theorem rounds_done {l : List (List Int)} {a : Int} (ha : okN l.length a = true) (k : Nat) : on (roundsR l a (l.length + 1)) k = true ↔ Rch l a k := by
  have hsh : Shut l a (roundsR l a (l.length + 1)) := by
    rcases rounds_shut l a (l.length + 1) with h | h
    · exact h
    · have h2 : cntB (roundsR l a (l.length + 1)) ≤ (roundsR l a (l.length + 1)).length := List.countP_le_length
      rw [roundsR_len] at h2
      omega
  constructor
  · exact roundsR_sound l a _ k
  · intro hr
    have key : ∀ j : Int, Rch l a j → on (roundsR l a (l.length + 1)) j.toNat = true := by
      intro j hj
      induction hj with
      | one hk =>
        obtain ⟨h0, h1⟩ := okN_iff.1 ha
        have e : ((a.toNat : Nat) : Int) = a := Int.toNat_of_nonneg h0
        refine hsh a.toNat (by omega) (.inl e) _ ?_
        rw [e]; exact hk
      | @step i k hi hk ih =>
        obtain ⟨h0, h1⟩ := okN_iff.1 hi.ok
        have e : ((i.toNat : Nat) : Int) = i := Int.toNat_of_nonneg h0
        refine hsh i.toNat (by omega) (.inr ih) _ ?_
        rw [e]; exact hk
    have := key k hr
    rwa [Int.toNat_natCast] at this
end Go.Proofs.Ytlhkkkmjoobpcaa
