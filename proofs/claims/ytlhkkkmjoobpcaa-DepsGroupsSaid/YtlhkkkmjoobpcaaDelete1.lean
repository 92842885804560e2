/-
  slices.Delete of one slice of numbers out of a row of the call's own. No condition but how they lie.
-/
import Derived.Test.YtlhkkkmjoobpcaaGroups0
import Derived.Deep.OwnRows
import Derived.Lib.LazyBuf
import Derived.Laws.IdiomCopy
import Derived.ArgAppend
import Derived.Deep.RegionHeld3
import Derived.Test.YtlhkkkmjoobpcaaAppCut
import Derived.StillTailTactics
namespace Go.Proofs.Ytlhkkkmjoobpcaa
open Go.RowKit

theorem All2.erase {α β : Type} {R : α → β → Prop} {xs : List α} {ys : List β} (h : All2 R xs ys) : ∀ i : Nat, All2 R (xs.eraseIdx i) (ys.eraseIdx i) := by
  induction h with
  | nil => intro i; exact .nil
  | cons h _ ih =>
    intro i
    cases i with
    | zero => assumption
    | succ i => exact .cons h (ih i)
theorem flatLen {α : Type} {sz : Nat} : ∀ {css : List (List α)}, (∀ c ∈ css, c.length = sz) → css.flatten.length = css.length * sz
  | [], _ => by simp
  | c :: css, h => by
    rw [List.flatten_cons, List.length_append, flatLen (fun x hx => h x (List.mem_cons_of_mem _ hx)), h c (List.mem_cons_self ..), List.length_cons, Nat.succ_mul]; omega
theorem flat_erase {α : Type} {sz : Nat} : ∀ {css : List (List α)}, (∀ c ∈ css, c.length = sz) → ∀ i : Nat, i < css.length → (css.eraseIdx i).flatten = css.flatten.take (i * sz) ++ css.flatten.drop ((i + 1) * sz)
  | [], _, i, hi => absurd hi (Nat.not_lt_zero _)
  | c :: css, h, 0, _ => by
    have h1 := h c (List.mem_cons_self ..)
    rw [List.eraseIdx_cons_zero, Nat.zero_mul, List.take_zero, List.nil_append, List.flatten_cons, Nat.zero_add, Nat.one_mul, ← h1, List.drop_left]
  | c :: css, h, i + 1, hi => by
    have h1 := h c (List.mem_cons_self ..)
    have ih := flat_erase (css := css) (fun x hx => h x (List.mem_cons_of_mem _ hx)) i (by simpa using hi)
    rw [List.eraseIdx_cons_succ, List.flatten_cons, ih, List.flatten_cons, ← List.append_assoc]
    congr 1
    · rw [show (i + 1) * sz = c.length + i * sz by rw [h1, Nat.succ_mul]; omega, List.take_length_add_append]
    · rw [show (i + 1 + 1) * sz = c.length + (i + 1) * sz by rw [h1, Nat.succ_mul]; omega, List.drop_length_add_append]
theorem size_setCs (w : World) (g : Nat) : ∀ (cs : List Value) (p : Nat), (w.setCells g p cs).heap.size = w.heap.size := by
  intro cs
  induction cs generalizing w with
  | nil => intro p; rfl
  | cons c cs ih => intro p; rw [World.setCells, ih]; simp [World.setCell]
theorem heap_setCs (w : World) (g b : Nat) (hb : b ≠ g) : ∀ (cs : List Value) (p : Nat), (w.setCells g p cs).heap[b]? = w.heap[b]? := by
  intro cs
  induction cs generalizing w with
  | nil => intro p; rfl
  | cons c cs ih => intro p; rw [World.setCells, ih]; exact heap_setCell_other w ⟨g, p, none⟩ b c hb
theorem grown_setCs (w : World) (g : Nat) (cs : List Value) : ∀ p, w.grownBy (w.setCells g p cs) (some g) := by
  induction cs generalizing w with
  | nil => intro p; exact grownBy_refl _ _
  | cons c cs ih => intro p; rw [World.setCells]; exact grownBy_trans (grownBy_setCell w g p c) (ih _ _)
def zeroA : List Value := [.slice none 0 0]
set_option maxHeartbeats 2000000 in
theorem OwnD.del {B base : Nat} {e : TypeId} {w : World} {g n cap i : Nat} {rs : List (List At)} (h : OwnD B base e 1 w (.slice (some ⟨g, 0, none⟩) n cap) rs) (hi : i < n) :
    ∃ news : List Value, news.length = (n - (i + 1)) * 1 ∧ (∀ j u, news[j]? = some u → w.cell? ⟨g, (i + 1) * 1 + j, none⟩ = some u) ∧ (∀ u ∈ news, u.oneCell' = true) ∧ (∀ j, j < n * 1 → (w.cell? ⟨g, j, none⟩).isSome = true ∧ w.frozen? ⟨g, j, none⟩ = false) ∧
      OwnD B base e 1 ((w.setCells g (i * 1) news).setCells g ((n - 1) * 1) zeroA) (.slice (some ⟨g, 0, none⟩) (n - 1) cap) (rs.eraseIdx i) := by
  obtain ⟨css, ho, hm⟩ := h
  have hlen := hm.len
  have hcs : ∀ cs ∈ css, cs.length = 1 := fun cs hcs => by
    obtain ⟨k, hk, rfl⟩ := List.getElem_of_mem hcs
    exact (hm.at k (by omega) hk).1
  have hone : ∀ u ∈ css.flatten, u.oneCell' = true := by
    intro u hu
    obtain ⟨cs, hcs', hu'⟩ := List.mem_flatten.1 hu
    obtain ⟨k, hk, rfl⟩ := List.getElem_of_mem hcs'
    obtain ⟨j, hj, rfl⟩ := List.getElem_of_mem hu'
    have h2 := (hm.at k (by omega) hk).2
    exact (h2.at j (by have := h2.len; omega) hj).one
  rcases ho.2 with ⟨h1, _⟩ | ⟨g', cap', cur, hv, hb, hgg, hncap, hcap, hsz, htake⟩
  · cases h1
  · have hrl : rs.length = n := by cases hv; rfl
    obtain rfl : g = g' := by cases hv; rfl
    obtain rfl : cap = cap' := by cases hv; rfl
    clear hv
    have hF : css.flatten.length = n * 1 := by rw [flatLen hcs]; omega
    have hat : ∀ j, j < n * 1 → css.flatten[j]? = cur[j]? := fun j hj => by
      rw [← htake, List.getElem?_take, if_pos (by rw [hrl]; exact hj), Array.getElem?_toList]
    have hn5 : n * 1 ≤ cap * 1 := Nat.mul_le_mul_right _ (by omega)
    have hcell : ∀ j, j < n * 1 → ∃ v, css.flatten[j]? = some v ∧ w.cell? ⟨g, j, none⟩ = some v := fun j hj => by
      have hc : j < cur.size := by omega
      refine ⟨cur[j], ?_, ?_⟩
      · rw [hat j hj, Array.getElem?_eq_getElem hc]
      · rw [cell_of_row w g j cur e (0, 0) hgg, Array.getElem?_eq_getElem hc]
    have hrow : w.rowIs g e (cap * 1) (fun j => (cur[j]?).getD default) := ⟨cur, hgg, hsz, fun j hj => by
      have hc : j < cur.size := by omega
      simp only [Array.getElem?_eq_getElem hc, Option.getD_some]⟩
    have hnl : (css.flatten.drop ((i + 1) * 1)).length = (n - (i + 1)) * 1 := by rw [List.length_drop, hF, Nat.sub_mul]
    have hr2 := rowIs_setCells zeroA ((n - 1) * 1) _ _ (rowIs_setCells (css.flatten.drop ((i + 1) * 1)) (i * 1) w _ hrow)
    refine ⟨css.flatten.drop ((i + 1) * 1), hnl, fun j u hu => ?_, fun u hu => hone u (List.mem_of_mem_drop hu), fun j hj => ?_, ?_⟩
    · rw [List.getElem?_drop] at hu
      have hj0 := (List.getElem?_eq_some_iff.1 hu).1
      have hj : (i + 1) * 1 + j < n * 1 := Nat.lt_of_lt_of_eq hj0 hF
      obtain ⟨v, h1, h2⟩ := hcell _ hj
      rw [h1] at hu
      rw [h2, ← hu]
    · obtain ⟨v, h1, h2⟩ := hcell j hj
      exact ⟨by rw [h2]; rfl, frozen_of_row w g j cur e hgg⟩
    · obtain ⟨cur2, hg2, hsz2, hc2⟩ := hr2
      have hel : (rs.eraseIdx i).length = n - 1 := by rw [List.length_eraseIdx_of_lt (by omega), hrl]
      have hF2 : (css.eraseIdx i).flatten = css.flatten.take (i * 1) ++ css.flatten.drop ((i + 1) * 1) := flat_erase hcs i (by omega)
      have hF2l : (css.eraseIdx i).flatten.length = (n - 1) * 1 := by
        rw [flatLen (fun c hc => hcs c (List.mem_of_mem_eraseIdx hc)), List.length_eraseIdx_of_lt (by omega), ← hlen, hrl]
      refine ⟨css.eraseIdx i, ⟨by rw [hF2l, hel], .inr ⟨g, cap, cur2, by rw [hel], hb, hg2, by rw [hel]; omega, hcap, hsz2, ?_⟩⟩, (All2.erase hm i).imp fun r cs ⟨hc, hmm⟩ => ⟨hc, hmm.imp fun x y hx => hx.mono (fun b ⟨⟨h3, h4⟩, h5⟩ => ⟨⟨h3, by rw [size_setCs, size_setCs]; exact h4⟩, h5⟩) fun b ⟨⟨_, h4⟩, h5⟩ => ?_⟩⟩
      · rw [hel]
        refine List.ext_getElem? fun j => ?_
        rw [List.getElem?_take]
        by_cases hj : j < (n - 1) * 1
        · have hn1 : (n - 1) * 1 + 1 = n * 1 := by omega
          have hi1 : i * 1 + (n - (i + 1)) * 1 = (n - 1) * 1 := by omega
          rw [if_pos hj, Array.getElem?_toList, hc2 j (by omega), hF2]
          have hz : ¬ ((n - 1) * 1 ≤ j ∧ j < (n - 1) * 1 + zeroA.length) := fun h => by have := h.1; omega
          simp only [if_neg hz]
          by_cases hji : j < i * 1
          · rw [if_neg (by omega), List.getElem?_append_left (by rw [List.length_take, hF]; omega), List.getElem?_take, if_pos hji, hat j (by omega)]
            have hc : j < cur.size := by omega
            rw [Array.getElem?_eq_getElem hc]; rfl
          · have hlt : (css.flatten.take (i * 1)).length = i * 1 := by rw [List.length_take, hF]; omega
            have hd : j - i * 1 < (css.flatten.drop ((i + 1) * 1)).length := by rw [hnl]; omega
            rw [if_pos ⟨by omega, by rw [hnl]; omega⟩, List.getElem?_append_right (by rw [hlt]; omega), hlt, List.getElem?_eq_getElem hd]
            rfl
        · rw [if_neg hj]
          rw [List.getElem?_eq_none (by rw [hF2l]; omega)]
      · have hne : b ≠ g := fun e => h5 (by rw [e]; rfl)
        rw [heap_setCs _ _ _ hne, heap_setCs _ _ _ hne]
theorem zeroA_one : ∀ v ∈ zeroA, v.oneCell' = true := fun v hv => by
  simp only [zeroA, List.mem_cons, List.not_mem_nil, or_false] at hv
  subst hv; rfl
theorem run_clear_sl (ty : TypeId) (w : World) (q p c : Nat) (h : ∀ j, j < 1 → (w.cell? ⟨q, p + j, none⟩).isSome = true ∧ w.frozen? ⟨q, p + j, none⟩ = false) :
    (Builtin.clear_ #[22] ty #[.slice (some ⟨q, p, none⟩) 1 c]).run Try.prog w = .ok (.tuple #[]) (w.setCells q p zeroA) := by
  have hz : (zeroValue 27).run Try.prog w = .ok (.slice none 0 0) w := Try.zeroValue27 w
  have hs := run_storeCells_cells (P := Try.prog) q p zeroA 0 w (fun j hj => (h j hj).1) (fun j hj => (h j hj).2) zeroA_one
  have he : (Builtin.zeroCells #[.slice none 0 0] 1).toList = zeroA := by simp [Builtin.zeroCells, List.range_succ, zeroA]
  simp only [Nat.add_zero] at hs
  simp [Builtin.clear_, run_underlying Try.underlying22, hz, Value.cells, he, hs]
theorem app_del {w : World} {g n m cap i c ty : Nat} {a : Addr} {news : List Value} (hin : i + (n - (i + 1)) = m) (hic : m ≤ cap) (hl : news.length = n - (i + 1)) (hn : ∀ j u, news[j]? = some u → w.cell? (a.add j) = some u) (h1 : ∀ u ∈ news, u.oneCell' = true) (hw : ∀ j, j < n → (w.cell? ⟨g, j, none⟩).isSome = true ∧ w.frozen? ⟨g, j, none⟩ = false) (hmn : m ≤ n) :
    ∃ v' w', (Builtin.append_ #[22, 22] ty #[.slice (some ⟨g, 0, none⟩) i cap, .slice (some a) (n - (i + 1)) c]).run Try.prog w = .ok v' w' ∧ (v' = .slice (some ⟨g, 0, none⟩) m cap ∧ w' = w.setCells g i news) := by
  have hq := info_sl
  cases hI : Try.prog.info? 27 with
  | none => rw [hI] at hq; cases hq
  | some x =>
    rw [hI] at hq
    have hx : x.size = 1 := by simp only [Option.map_some, Option.some.injEq, Prod.mk.injEq] at hq; exact hq.2.1
    have hr := run_append_room_cells (P := Try.prog) w 22 ty 27 x Try.underlying22 hI g 0 i cap a (n - (i + 1)) c news (by rw [hx, Nat.mul_one]; exact hl) hn h1 (by omega) (fun j hj => by rw [hx, Nat.zero_add, Nat.mul_one]; exact (hw _ (by omega)).1) (fun j hj => by rw [hx, Nat.zero_add, Nat.mul_one]; exact (hw _ (by omega)).2)
    rw [hin, hx, Nat.zero_add, Nat.mul_one] at hr
    exact ⟨_, _, hr, rfl, rfl⟩
set_option maxRecDepth 100000 in
set_option maxHeartbeats 20000000 in
theorem deleteS_any {B base : Nat} {w : World} {g n cap i : Nat} {rs : List (List At)} (h : OwnD B base 27 1 w (.slice (some ⟨g, 0, none⟩) n cap) rs) (hi : i < n) :
    Calls Try.prog 20 #[.slice (some ⟨g, 0, none⟩) n cap, .int .i64 i, .int .i64 ((i : Int) + 1)] w fun e w' => e = .returned (.slice (some ⟨g, 0, none⟩) (n - 1) cap) ∧ OwnD B base 27 1 w' (.slice (some ⟨g, 0, none⟩) (n - 1) cap) (rs.eraseIdx i) ∧ w.grownBy w' (some g) := by
  have hl := h.mem.len
  have hcap := hl.2.1
  have hmx := hl.2.2
  obtain ⟨news, h1, h2, h3, h4, h5⟩ := (h.keep (below_drew w)).del hi
  simp only [Nat.mul_one] at h1 h2 h4 h5
  obtain ⟨m, hm⟩ : ∃ m, m = n - 1 := ⟨_, rfl⟩
  rw [← hm] at h5 ⊢
  have hw2 := run_clear_sl 0 (w.drew.setCells g i news) g m (cap - m) (fun j hj => by
    refine ⟨?_, by rw [World.frozen?_setCells]; exact (h4 _ (by omega)).2⟩
    by_cases hj2 : m + j < i + news.length
    · by_cases hj3 : i ≤ m + j
      · obtain ⟨q, hq⟩ : ∃ q, m + j = i + q := ⟨m + j - i, by omega⟩
        rw [hq, World.cell?_setCells_in g news i _ (fun k hk => (h4 _ (by rw [h1] at hk; omega)).1) q (by omega)]; rfl
      · omega
    · rw [World.cell?_setCells_out g news i _ _ (fun _ _ => .inr (by show i + news.length ≤ m + j; omega))]
      exact (h4 _ (by omega)).1)
  have H5 := Lib.hid h5
  have HG : Hid (w.grownBy ((w.drew.setCells g i news).setCells g m zeroA) (some g)) := Lib.hid (grownBy_trans (grownBy_trans (grownBy_drew w _) (grown_setCs _ _ _ _)) (grown_setCs _ _ _ _))
  have HA1 : Hid (∀ c, ∃ v' w', (Builtin.append_ #[22, 22] 22 #[.slice (some ⟨g, 0, none⟩) i cap, .slice (some ⟨g, i + 1, none⟩) (n - (i + 1)) c]).run Try.prog w.drew = .ok v' w' ∧ (v' = .slice (some ⟨g, 0, none⟩) m cap ∧ w' = w.drew.setCells g i news)) := Lib.hid fun c => app_del (by omega) (by omega) h1 (fun j u hu => by rw [Addr.add_lit]; exact h2 j u hu) h3 h4 (by omega)
  have HA2 : Hid (cap = i + 1 → ∀ c, ∃ v' w', (Builtin.append_ #[22, 22] 22 #[.slice (some ⟨g, 0, none⟩) i cap, .slice (some ⟨g, 0, none⟩) (n - (i + 1)) c]).run Try.prog w.drew = .ok v' w' ∧ (v' = .slice (some ⟨g, 0, none⟩) m cap ∧ w' = w.drew.setCells g i news)) := Lib.hid fun hc c => app_del (by omega) (by omega) h1 (fun j u hu => by
    have : news = [] := List.eq_nil_of_length_eq_zero (by rw [h1]; omega)
    rw [this] at hu
    simp at hu) h3 h4 (by omega)
  clear h1 h2 h3 h4 h5 hl h
  have hiz : (i : Int) < (n : Int) := by omega
  have hne : ((i : Int) == (i : Int) + 1) = false := by rw [beq_eq_false_iff_ne]; omega
  have hin : (i : Int) ≤ (n : Int) := by omega
  have hic : (i : Int) ≤ (cap : Int) := by omega
  have hi1n : (i : Int) + 1 ≤ (n : Int) := by omega
  have hi0 : (0 : Int) ≤ (i : Int) + 1 := by omega
  have hmn : (m : Int) ≤ (n : Int) := by omega
  have hmc : (m : Int) ≤ (cap : Int) := by omega
  have hnc : (n : Int) ≤ (cap : Int) := by omega
  have hcm : ¬ cap = m := by omega
  have hnm : n - m = 1 := by omega
  clear hm
  by_cases hc1 : cap = i + 1
  · have HA := Lib.hid (HA2.out hc1)
    have hct : (cap = i + 1) = True := eq_true hc1
    clear HA1 HA2 hc1
    go_enter Try.func20, Try.ntmps20
    go_wp2
    go_still_tail 6, (by kernel_rfl)
    change wpList _ _ _ _ _ w.drew
    go_wp2_with (first
      | (at_builtin
         refine listx_app rfl (.tmp 22) (.tmp 25) rfl rfl rfl (HA.out _) ?_
         rintro v' w' ⟨rfl, rfl⟩))
    go_ret
    exact ⟨rfl, H5.out, HG.out⟩
  · have HA := Lib.hid HA1.out
    clear HA1 HA2
    go_enter Try.func20, Try.ntmps20
    go_wp2
    go_still_tail 6, (by kernel_rfl)
    change wpList _ _ _ _ _ w.drew
    go_wp2_with (first
      | (at_builtin
         refine listx_app rfl (.tmp 22) (.tmp 25) rfl rfl rfl (HA.out _) ?_
         rintro v' w' ⟨rfl, rfl⟩))
    go_ret
    exact ⟨rfl, H5.out, HG.out⟩
end Go.Proofs.Ytlhkkkmjoobpcaa
