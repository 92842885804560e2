/-
  A term with something else for its variables, out of a list: plain laws; how such a list lies in memory. No condition.
-/
import Derived.Test.YtmadfkofmehfkaaAt11
namespace Go.Proofs.Ytmadfkofmehfkaa
open Go.RowKit Go.Maps

mutual
/-- With what a list has for variables; the first one counts. -/
def apT (l : List (Int × Tm)) : Tm → Tm
  | .mk k s n ts => if k = 3 then (match look l n with | some x => x | none => .mk k s n (apTs l ts)) else .mk k s n (apTs l ts)
def apTs (l : List (Int × Tm)) : List Tm → List Tm
  | [] => []
  | t :: ts => apT l t :: apTs l ts
end
theorem apTs_eq (l : List (Int × Tm)) (ts : List Tm) : apTs l ts = ts.map (apT l) := by
  induction ts with
  | nil => rw [apTs]; rfl
  | cons t ts ih => rw [apTs, ih]; rfl
theorem apT_hit {l : List (Int × Tm)} {t x : Tm} (hk : t.kind = 3) (hl : look l t.n = some x) : apT l t = x := by
  obtain ⟨k, s, n, ts⟩ := t
  have hl' : look l n = some x := hl
  have hk' : k = 3 := hk
  rw [apT, if_pos hk', hl']
theorem apT_miss {l : List (Int × Tm)} {t : Tm} (h : t.kind = 3 → look l t.n = none) : apT l t = .mk t.kind t.name t.n (apTs l t.args) := by
  obtain ⟨k, s, n, ts⟩ := t
  rw [apT]
  by_cases hk : k = 3
  · have hl' : look l n = none := h hk
    rw [if_pos hk, hl']; rfl
  · rw [if_neg hk]; rfl
theorem apT_sub (l : List (Int × Tm)) (m : Nat) : ∀ t : Tm, t.size ≤ m → Plain t → apT l t = sbT (fun n => (look l n).getD (.mk 3 ⟨#[]⟩ n [])) t := by
  induction m with
  | zero => intro t h; have := t.size_pos; omega
  | succ m ih =>
    intro t hm hP
    obtain ⟨k, s, n, ts⟩ := t
    rw [apT, sbT]
    by_cases hk : k = 3
    · rw [if_pos hk, if_pos hk]
      cases hl : look l n with
      | some x => rfl
      | none =>
        obtain ⟨a, b⟩ := hP.head (.inl hk)
        have a' : ts = [] := a
        have b' : s = ⟨#[]⟩ := b
        rw [a', b', apTs, hk]; rfl
    · rw [if_neg hk, if_neg hk, apTs_eq, sbTs_eq]
      congr 1
      exact List.map_congr_left fun x hx => ih x (by have := Tm.size_arg (t := .mk k s n ts) hx; omega) (hP.arg hx)
theorem look_perm {l M : List (Int × Tm)} (hN : (M.map (·.1)).Nodup) (h : l.Perm M) (n : Int) : look l n = look M n := by
  have hN' : (l.map (·.1)).Nodup := (h.map (·.1)).nodup_iff.2 hN
  cases hl : look M n with
  | some x => exact look_self hN' (n, x) (h.mem_iff.2 (look_mem hl))
  | none =>
    refine look_none fun hn => ?_
    obtain ⟨y, hy⟩ := look_some ((h.map (·.1)).mem_iff.1 hn)
    rw [hl] at hy
    cases hy
/-- What matches, applied, is what it was matched with. -/
theorem apT_match {p t : Tm} {l : List (Int × Tm)} (hp : Plain p) (ht : Plain t) (h : (mt p t []).1 = true) (hN : ((mt p t []).2.map (·.1)).Nodup) (hl : l.Perm (mt p t []).2) : apT l p = t := by
  rw [apT_sub l p.size p (Nat.le_refl _) hp]
  refine (mt_sound p.size p t [] (Nat.le_refl _) hp ht h).2 _ fun n x hx => ?_
  rw [look_perm hN hl, hx]; rfl
/-- Where a list has a number first. -/
theorem look_idx {l : List (Int × Tm)} {n : Int} {x : Tm} (h : look l n = some x) : ∃ i : Nat, l[i]? = some (n, x) ∧ ∀ j y, j < i → l[j]? = some y → y.1 ≠ n := by
  induction l with
  | nil => cases h
  | cons z l ih =>
    obtain ⟨m, e⟩ := z
    rw [look_cons] at h
    by_cases hm : m = n
    · rw [if_pos hm] at h
      exact ⟨0, by rw [hm, ← Option.some.inj h]; rfl, fun j y hj => absurd hj (Nat.not_lt_zero _)⟩
    · rw [if_neg hm] at h
      obtain ⟨i, h1, h2⟩ := ih h
      refine ⟨i + 1, h1, fun j y hj hy => ?_⟩
      cases j with
      | zero =>
        have : (m, e) = y := Option.some.inj hy
        rw [← this]; exact hm
      | succ j => exact h2 j y (by omega) hy
theorem look_no {l : List (Int × Tm)} {n : Int} (h : look l n = none) : ∀ y ∈ l, y.1 ≠ n := by
  intro y hy e
  obtain ⟨z, hz⟩ := look_some (List.mem_map.2 ⟨y, hy, e⟩)
  rw [h] at hz
  cases hz
theorem bindT_at {S : Nat → Prop} {w : World} {l : List (Int × Tm)} {a : Option Addr} {n cap : Nat} (h : Mem S w (.s 5 (bindsT l)) (.slice a n cap)) (i : Nat) (hi : i < n) :
    ∃ b o x a' n' cap', a = some ⟨b, o, none⟩ ∧ S b ∧ Hid (l[i]? = some x) ∧ w.cell? ⟨b, o + i * 5, none⟩ = some (.int .i64 x.1) ∧ w.cell? ⟨b, o + i * 5 + 1, none⟩ = some (.int .i64 x.2.kind) ∧ w.cell? ⟨b, o + i * 5 + 2, none⟩ = some (.string x.2.name) ∧ w.cell? ⟨b, o + i * 5 + 3, none⟩ = some (.int .i64 x.2.n) ∧ w.cell? ⟨b, o + i * 5 + 4, none⟩ = some (.slice a' n' cap') ∧ Hid (Mem S w (.s 4 (Tm.rows x.2.args)) (.slice a' n' cap')) := by
  have hl := h.len.1
  rw [bindsT_len] at hl
  have hi' : i < l.length := by omega
  obtain ⟨b, o, ha, hS, _, cs, h2, hc⟩ := Mem.at h i (by rw [bindsT_len]; exact hi')
  have e : (bindsT l)[i]'(by rw [bindsT_len]; exact hi') = bindT l[i] := by simp [bindsT]
  rw [e] at h2
  unfold bindT at h2
  cases h2 with
  | cons g0 h2 =>
    obtain ⟨a', n', cap', rfl, h3⟩ := row_cells h2
    have e0 := g0.val
    subst e0
    exact ⟨b, o, l[i], a', n', cap', ha, hS, Lib.hid (List.getElem?_eq_getElem hi'), hc 0 (by simp), hc 1 (by simp), hc 2 (by simp), hc 3 (by simp), hc 4 (by simp), Lib.hid h3⟩
end Go.Proofs.Ytmadfkofmehfkaa
