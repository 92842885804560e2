/-
  Types numbered anew: both ways give the same; what is numbered anew is so already. Plain laws. No condition but what Good says.
-/
import Derived.Test.YtemkpecagflafaaScheme9
import Derived.Test.YtemkpecagflafaaGood
import Derived.Test.YtemkpecagflafaaSameTy
namespace Go.Proofs.Ytemkpecagflafaa
open Go.RowKit

/-- A property of types by how great they are. -/
theorem Tm.by_size {p : Tm → Prop} (h : ∀ t, (∀ x ∈ t.args, p x) → p t) (t : Tm) : p t := by
  have : ∀ m, ∀ t : Tm, t.size ≤ m → p t := by
    intro m
    induction m with
    | zero => intro t h; have := t.size_pos; omega
    | succ m ih => intro t ht; exact h t fun x hx => ih x (by have := Tm.size_arg hx; omega)
  exact this t.size t (Nat.le_refl _)
theorem sameTs_of (l : List Tm) (h : ∀ x ∈ l, sameT x x = true) : sameTs l l = true := by
  induction l with
  | nil => rw [sameTs]
  | cons t l ih => rw [sameTs, h t (List.mem_cons_self ..), ih fun x hx => h x (List.mem_cons_of_mem _ hx)]; rfl
theorem sameT_self (t : Tm) : sameT t t = true := by
  refine Tm.by_size (p := fun t => sameT t t = true) (fun t h => ?_) t
  rw [sameT_eq, sameTs_of _ h]
  split <;> simp

/-- Good types' variables. -/
def GV (t : Tm) : Prop := ∀ x ∈ t.all, x.kind = 1 → x.args = [] ∧ x.name = ⟨#[]⟩ ∧ -100000 ≤ x.n ∧ x.n ≤ 100000
theorem good_gv {t : Tm} (h : goodB t = true) : GV t ∧ t.size ≤ 60 := by
  unfold goodB at h
  rw [Bool.and_eq_true, decide_eq_true_eq, List.all_eq_true] at h
  refine ⟨fun x hx hk => ?_, h.1⟩
  have h1 := h.2 x hx
  unfold goodX at h1
  rw [if_pos hk] at h1
  simp only [Bool.and_eq_true, decide_eq_true_eq, beq_iff_eq] at h1
  exact ⟨List.eq_nil_of_length_eq_zero h1.1.1.1, h1.1.1.2, h1.1.2, h1.2⟩
theorem GV.na {t : Tm} (h : GV t) : NA t := fun x hx hk => (h x hx hk).1
theorem GV.arg {x t : Tm} (h : GV t) (hx : x ∈ t.args) : GV x := fun y hy => h y (Tm.args_all x hx y hy)

theorem rvTs_eq_of (ts : List Tm) (h : ∀ t ∈ ts, ∀ l, rvT l t = vrs 1 l t.all) : ∀ l, rvTs l ts = vrs 1 l (Tm.alls ts) := by
  induction ts with
  | nil => intro l; rw [rvTs, Tm.alls]; rfl
  | cons t ts ih => intro l; rw [rvTs, Tm.alls, vrs_app, h t (List.mem_cons_self ..), ih fun t ht => h t (List.mem_cons_of_mem _ ht)]
theorem rvT_vrs (t : Tm) : NA t → ∀ l, rvT l t = vrs 1 l t.all := by
  refine Tm.by_size (p := fun t => NA t → ∀ l, rvT l t = vrs 1 l t.all) (fun t h hn l => ?_) t
  rw [rvT_eq, Tm.all_eq]
  by_cases hk : t.kind = 1
  · rw [if_pos hk, hn.self hk, Tm.alls]
    show _ = vrs 1 (if t.kind = 1 then putI l t.n else l) []
    rw [if_pos hk]; rfl
  · rw [if_neg hk, rvTs_eq_of t.args (fun x hx l => h x hx (hn.arg hx) l) l]
    show _ = vrs 1 (if t.kind = 1 then putI l t.n else l) (Tm.alls t.args)
    rw [if_neg hk]

theorem vrs_nodup (k : Int) (ts : List Tm) : ∀ l : List Int, l.Nodup → (vrs k l ts).Nodup := by
  induction ts with
  | nil => intro l h; exact h
  | cons t ts ih =>
    intro l h
    have e : vrs k l (t :: ts) = vrs k (if t.kind = k then putI l t.n else l) ts := rfl
    rw [e]
    refine ih _ ?_
    split
    · unfold putI
      split
      · exact h
      · rename_i h2
        rw [List.nodup_append]
        exact ⟨h, by simp, fun a ha b hb => by simp at hb; subst hb; intro e; subst e; exact h2 ha⟩
    · exact h
theorem vrs_grows (k : Int) (ts : List Tm) : ∀ l : List Int, ∀ n ∈ l, n ∈ vrs k l ts := by
  induction ts with
  | nil => intro l n h; exact h
  | cons t ts ih =>
    intro l n h
    have e : vrs k l (t :: ts) = vrs k (if t.kind = k then putI l t.n else l) ts := rfl
    rw [e]
    refine ih _ n ?_
    split
    · unfold putI
      split
      · exact h
      · exact List.mem_append_left _ h
    · exact h
theorem vrs_mem (k : Int) (ts : List Tm) : ∀ l : List Int, ∀ x ∈ ts, x.kind = k → x.n ∈ vrs k l ts := by
  induction ts with
  | nil => intro l x h; cases h
  | cons t ts ih =>
    intro l x h hk
    have e : vrs k l (t :: ts) = vrs k (if t.kind = k then putI l t.n else l) ts := rfl
    rw [e]
    rcases List.mem_cons.1 h with rfl | h
    · refine vrs_grows k ts _ _ ?_
      rw [if_pos hk]; unfold putI
      split
      · assumption
      · simp
    · exact ih _ x h hk
theorem vrs_from (k : Int) (ts : List Tm) : ∀ l : List Int, ∀ n ∈ vrs k l ts, n ∈ l ∨ ∃ x ∈ ts, x.kind = k ∧ x.n = n := by
  induction ts with
  | nil => intro l n h; exact .inl h
  | cons t ts ih =>
    intro l n h
    have e : vrs k l (t :: ts) = vrs k (if t.kind = k then putI l t.n else l) ts := rfl
    rw [e] at h
    rcases ih _ n h with h1 | ⟨x, hx, h2⟩
    · split at h1
      · rename_i hk
        unfold putI at h1
        split at h1
        · exact .inl h1
        · rcases List.mem_append.1 h1 with h1 | h1
          · exact .inl h1
          · exact .inr ⟨t, List.mem_cons_self .., hk, (List.mem_singleton.1 h1).symm⟩
      · exact .inl h1
    · exact .inr ⟨x, List.mem_cons_of_mem _ hx, h2⟩

theorem map_congr' {g g' : Tm → Tm} {l : List Tm} (h : ∀ x ∈ l, g x = g' x) : l.map g = l.map g' := List.map_congr_left h
theorem numT_congr (f g : Int → Int) (t : Tm) : (∀ x ∈ t.all, x.kind = 1 → f x.n = g x.n) → numT f t = numT g t := by
  refine Tm.by_size (p := fun t => (∀ x ∈ t.all, x.kind = 1 → f x.n = g x.n) → numT f t = numT g t) (fun t h hfg => ?_) t
  by_cases hk : t.kind = 1
  · rw [numT_var f hk, numT_var g hk, hfg t (Tm.mem_all t) hk]
  · rw [numT_not f hk, numT_not g hk, numTs_eq, numTs_eq, map_congr' fun x hx => h x hx fun y hy => hfg y (Tm.args_all x hx y hy)]
theorem numT_id (t : Tm) : GV t → numT (fun n => n) t = t := by
  refine Tm.by_size (p := fun t => GV t → numT (fun n => n) t = t) (fun t h hg => ?_) t
  by_cases hk : t.kind = 1
  · obtain ⟨h1, h2, _⟩ := hg t (Tm.mem_all t) hk
    rw [numT_var _ hk]
    conv => rhs; rw [← t.eta]
    rw [hk, h1, h2]
  · rw [numT_not _ hk, numTs_eq]
    conv => rhs; rw [← t.eta]
    rw [map_congr' (g' := id) fun x hx => h x hx (hg.arg hx), List.map_id]
theorem putT_num (m v : Int) (f : Int → Int) (t : Tm) : putT m v (numT f t) = numT (fun n => if f n = m then v else f n) t := by
  refine Tm.by_size (p := fun t => putT m v (numT f t) = numT (fun n => if f n = m then v else f n) t) (fun t h => ?_) t
  by_cases hk : t.kind = 1
  · rw [numT_var f hk, numT_var _ hk]
    by_cases h2 : f t.n = m
    · rw [putT_hit (t := .mk 1 ⟨#[]⟩ (f t.n) []) rfl h2, if_pos h2]
    · rw [putT_miss (t := .mk 1 ⟨#[]⟩ (f t.n) []) rfl h2, if_neg h2]
  · rw [numT_not f hk, numT_not _ hk, putT_not (t := .mk t.kind t.name t.n (numTs f t.args)) hk]
    show Tm.mk t.kind t.name t.n (putTs m v (numTs f t.args)) = _
    rw [putTs_eq, numTs_eq, numTs_eq, List.map_map, map_congr' fun x hx => by exact h x hx]
theorem numT_num (g f : Int → Int) (t : Tm) : numT g (numT f t) = numT (fun n => g (f n)) t := by
  refine Tm.by_size (p := fun t => numT g (numT f t) = numT (fun n => g (f n)) t) (fun t h => ?_) t
  by_cases hk : t.kind = 1
  · rw [numT_var f hk, numT_var _ hk, numT_var g (t := .mk 1 ⟨#[]⟩ (f t.n) []) rfl]; rfl
  · rw [numT_not f hk, numT_not _ hk, numT_not g (t := .mk t.kind t.name t.n (numTs f t.args)) hk]
    show Tm.mk t.kind t.name t.n (numTs g (numTs f t.args)) = _
    rw [numTs_eq, numTs_eq, numTs_eq, List.map_map, map_congr' fun x hx => by exact h x hx]
theorem numT_size (f : Int → Int) (t : Tm) : NA t → (numT f t).size = t.size := by
  refine Tm.by_size (p := fun t => NA t → (numT f t).size = t.size) (fun t h hn => ?_) t
  by_cases hk : t.kind = 1
  · rw [numT_var f hk, Tm.size_eq, Tm.size_eq t, hn.self hk]; rfl
  · rw [numT_not f hk, Tm.size_eq, Tm.size_eq t]
    show 1 + (Tm.alls (numTs f t.args)).length = _
    rw [numTs_eq, alls_map_len _ _ fun x hx => h x hx (hn.arg hx)]
theorem alls_map_eq (g : Tm → Tm) : ∀ (ts : List Tm), (∀ t ∈ ts, (g t).all = t.all.map g) → Tm.alls (ts.map g) = (Tm.alls ts).map g
  | [], _ => rfl
  | t :: ts, h => by rw [List.map_cons, Tm.alls, Tm.alls, List.map_append, h t (List.mem_cons_self ..), alls_map_eq g ts fun t ht => h t (List.mem_cons_of_mem _ ht)]
theorem numT_all (f : Int → Int) (t : Tm) : NA t → (numT f t).all = t.all.map (numT f) := by
  refine Tm.by_size (p := fun t => NA t → (numT f t).all = t.all.map (numT f)) (fun t h hn => ?_) t
  rw [Tm.all_eq, Tm.all_eq t, List.map_cons]
  congr 1
  by_cases hk : t.kind = 1
  · rw [numT_var f hk, hn.self hk]; rfl
  · rw [numT_not f hk]
    show Tm.alls (numTs f t.args) = _
    rw [numTs_eq, alls_map_eq _ _ fun x hx => h x hx (hn.arg hx)]

theorem nodup_inj {V : List Int} (h : V.Nodup) {i j : Nat} (hi : i < V.length) (hj : j < V.length) (e : V[i] = V[j]) : i = j := by
  rcases Nat.lt_trichotomy i j with h1 | h1 | h1
  · exact absurd e (List.pairwise_iff_getElem.1 h i j hi hj h1)
  · exact h1
  · exact absurd e.symm (List.pairwise_iff_getElem.1 h j i hj hi h1)
theorem idxI_nodup {V : List Int} (h : V.Nodup) {p : Nat} (hp : p < V.length) : idxI V V[p] = p :=
  idxI_at V _ p hp (by simp) fun j hj hjp => by
    rw [beq_eq_false_iff_ne]
    intro e
    have := nodup_inj h hp hj e
    omega
/-- The numbers that a variable goes through. -/
def F1 (V : List Int) : Nat → Int → Int
  | 0, n => n
  | j + 1, n => if F1 V j n = V.getD j 0 then -1000000 - (j : Int) else F1 V j n
def F2 (f : Int → Int) : Nat → Int → Int
  | 0, n => f n
  | j + 1, n => if F2 f j n = -1000000 - (j : Int) then (j : Int) else F2 f j n
theorem sch1_num {V : List Int} {t : Tm} (h : GV t) : ∀ j, sch1 V j t = numT (F1 V j) t
  | 0 => by rw [sch1]; exact (numT_id t h).symm
  | j + 1 => by rw [sch1, sch1_num h j, putT_num]; rfl
theorem sch2_num (f : Int → Int) (t : Tm) : ∀ j, sch2 j (numT f t) = numT (F2 f j) t
  | 0 => by rw [sch2]; rfl
  | j + 1 => by rw [sch2, sch2_num f t j, putT_num]; rfl
theorem F1_at {V : List Int} (hn : V.Nodup) (hb : ∀ n ∈ V, -100000 ≤ n ∧ n ≤ 100000) {p : Nat} (hp : p < V.length) : ∀ j, j ≤ V.length → F1 V j V[p] = if j ≤ p then V[p] else -1000000 - (p : Int)
  | 0, _ => by rw [F1, if_pos (Nat.zero_le _)]
  | j + 1, hj => by
    have hj' : j < V.length := by omega
    have e : V.getD j 0 = V[j] := by rw [List.getD_eq_getElem?_getD, List.getElem?_eq_getElem hj']; rfl
    rw [F1, F1_at hn hb hp j (by omega), e]
    have hbp := hb _ (List.getElem_mem hp)
    have hbj := hb _ (List.getElem_mem hj')
    rcases Nat.lt_trichotomy j p with h | h | h
    · rw [if_pos (Nat.le_of_lt h), if_neg (fun e => by have := nodup_inj hn hp hj' e; omega), if_pos (show j + 1 ≤ p from h)]
    · subst h; rw [if_pos (Nat.le_refl _), if_pos rfl, if_neg (show ¬ j + 1 ≤ j by omega)]
    · rw [if_neg (show ¬ j ≤ p by omega), if_neg (show ¬ (-1000000 - (p : Int) = V[j]) by omega), if_neg (show ¬ j + 1 ≤ p by omega)]
theorem F2_at {f : Int → Int} {n : Int} {p : Nat} (hf : f n = -1000000 - (p : Int)) : ∀ j, F2 f j n = if j ≤ p then -1000000 - (p : Int) else (p : Int)
  | 0 => by rw [F2, hf, if_pos (Nat.zero_le _)]
  | j + 1 => by
    rw [F2, F2_at hf j]
    rcases Nat.lt_trichotomy j p with h | h | h
    · rw [if_pos (Nat.le_of_lt h), if_neg (show ¬ (-1000000 - (p : Int) = -1000000 - (j : Int)) by omega), if_pos (show j + 1 ≤ p from h)]
    · subst h; rw [if_pos (Nat.le_refl _), if_pos rfl, if_neg (show ¬ j + 1 ≤ j by omega)]
    · rw [if_neg (show ¬ j ≤ p by omega), if_neg (show ¬ ((p : Int) = -1000000 - (j : Int)) by omega), if_neg (show ¬ j + 1 ≤ p by omega)]
/-- Both ways of numbering anew. -/
theorem scheme_same {t : Tm} (h : GV t) : sch2 (rvT [] t).length (sch1 (rvT [] t) (rvT [] t).length t) = numT (idxI (vrs 1 [] t.all)) t := by
  rw [rvT_vrs t h.na]
  have hnd : (vrs 1 [] t.all).Nodup := vrs_nodup 1 t.all [] (by simp)
  have hb : ∀ n ∈ vrs 1 [] t.all, -100000 ≤ n ∧ n ≤ 100000 := fun n hn => by
    rcases vrs_from 1 t.all [] n hn with h1 | ⟨x, hx, hk, rfl⟩
    · cases h1
    · exact (h x hx hk).2.2
  rw [sch1_num h, sch2_num]
  refine numT_congr _ _ t fun x hx hk => ?_
  obtain ⟨p, hp, hpx⟩ := List.getElem_of_mem (vrs_mem 1 t.all [] x hx hk)
  generalize vrs 1 [] t.all = V at *
  rw [← hpx, F2_at (p := p) (by rw [F1_at hnd hb hp _ (Nat.le_refl _), if_neg (by omega)]), if_neg (by omega), idxI_nodup hnd hp]

theorem putI_map {f : Int → Int} {l : List Int} {n : Int} (h : ∀ a ∈ l, f a = f n → a = n) : putI (l.map f) (f n) = (putI l n).map f := by
  unfold putI
  by_cases hn : n ∈ l
  · rw [if_pos hn, if_pos (List.mem_map_of_mem hn)]
  · rw [if_neg hn, if_neg (fun hm => by
      obtain ⟨a, ha, e⟩ := List.mem_map.1 hm
      exact hn (h a ha e ▸ ha))]
    simp
theorem numT_kind (f : Int → Int) (t : Tm) : (numT f t).kind = t.kind ∧ (t.kind = 1 → (numT f t).n = f t.n) := by
  by_cases hk : t.kind = 1
  · rw [numT_var f hk]; exact ⟨hk.symm, fun _ => rfl⟩
  · rw [numT_not f hk]; exact ⟨rfl, fun h => absurd h hk⟩
theorem vrs_map {f : Int → Int} {P : Int → Prop} (hf : ∀ a b, P a → P b → f a = f b → a = b) (ts : List Tm) : ∀ l : List Int, (∀ a ∈ l, P a) → (∀ x ∈ ts, x.kind = 1 → P x.n) → vrs 1 (l.map f) (ts.map (numT f)) = (vrs 1 l ts).map f := by
  induction ts with
  | nil => intro l _ _; rfl
  | cons t ts ih =>
    intro l hl ht
    have e : vrs 1 l (t :: ts) = vrs 1 (if t.kind = 1 then putI l t.n else l) ts := rfl
    have e2 : vrs 1 (l.map f) ((t :: ts).map (numT f)) = vrs 1 (if (numT f t).kind = 1 then putI (l.map f) (numT f t).n else l.map f) (ts.map (numT f)) := rfl
    rw [e, e2, (numT_kind f t).1]
    by_cases hk : t.kind = 1
    · have hp := ht t (List.mem_cons_self ..) hk
      rw [if_pos hk, if_pos hk, (numT_kind f t).2 hk, putI_map fun a ha e => hf a t.n (hl a ha) hp e]
      refine ih _ (fun a ha => ?_) fun x hx => ht x (List.mem_cons_of_mem _ hx)
      unfold putI at ha
      split at ha
      · exact hl a ha
      · rcases List.mem_append.1 ha with h | h
        · exact hl a h
        · simp at h; subst h; exact hp
    · rw [if_neg hk, if_neg hk]
      exact ih _ hl fun x hx => ht x (List.mem_cons_of_mem _ hx)
/-- What is numbered anew: its variables are the first numbers. -/
theorem scheme_vars {t : Tm} (h : NA t) : vrs 1 [] (numT (idxI (vrs 1 [] t.all)) t).all = (vrs 1 [] t.all).map (idxI (vrs 1 [] t.all)) := by
  have hnd : (vrs 1 [] t.all).Nodup := vrs_nodup 1 t.all [] (by simp)
  rw [numT_all _ t h]
  refine vrs_map (P := (· ∈ vrs 1 [] t.all)) (fun a b ha hb e => ?_) t.all [] (fun a ha => by cases ha) fun x hx hk => vrs_mem 1 t.all [] x hx hk
  obtain ⟨p, hp, rfl⟩ := List.getElem_of_mem ha
  obtain ⟨q, hq, rfl⟩ := List.getElem_of_mem hb
  rw [idxI_nodup hnd hp, idxI_nodup hnd hq] at e
  have : p = q := by omega
  subst this; rfl
theorem scheme_vars_at {t : Tm} (h : NA t) (i : Nat) (x : Int) (hx : (vrs 1 [] (numT (idxI (vrs 1 [] t.all)) t).all)[i]? = some x) : x = i := by
  have hnd : (vrs 1 [] t.all).Nodup := vrs_nodup 1 t.all [] (by simp)
  rw [scheme_vars h] at hx
  obtain ⟨hi, e⟩ := List.getElem?_eq_some_iff.1 hx
  rw [List.getElem_map, idxI_nodup hnd (by simpa using hi)] at e
  exact e.symm
theorem scheme_again {t : Tm} (h : NA t) : numT (idxI (vrs 1 [] (numT (idxI (vrs 1 [] t.all)) t).all)) (numT (idxI (vrs 1 [] t.all)) t) = numT (idxI (vrs 1 [] t.all)) t := by
  have hnd : (vrs 1 [] t.all).Nodup := vrs_nodup 1 t.all [] (by simp)
  rw [numT_num]
  refine numT_congr _ _ t fun x hx hk => ?_
  obtain ⟨p, hp, hpx⟩ := List.getElem_of_mem (vrs_mem 1 t.all [] x hx hk)
  rw [scheme_vars h]
  generalize vrs 1 [] t.all = V at *
  show idxI (V.map (idxI V)) (idxI V x.n) = idxI V x.n
  rw [← hpx, idxI_nodup hnd hp]
  have hp' : p < (V.map (idxI V)).length := by simpa using hp
  have e : (V.map (idxI V))[p] = (p : Int) := by rw [List.getElem_map, idxI_nodup hnd hp]
  have hnd' : (V.map (idxI V)).Nodup := List.pairwise_iff_getElem.2 fun i j hi hj hij e => by
    rw [List.getElem_map, List.getElem_map, idxI_nodup hnd (by simpa using hi), idxI_nodup hnd (by simpa using hj)] at e
    omega
  have := idxI_nodup hnd' hp'
  rwa [e] at this
end Go.Proofs.Ytemkpecagflafaa
