/-
  The two appends of the reference's Sort: a term ahead of a row's end, and both behind the row's start. No condition but how they lie, and how many they are.
-/
import Derived.Test.YtppejoccljfblaaAppCut
import Derived.Test.YtppejoccljfblaaCloneT
namespace Go.Proofs.Ytppejoccljfblaa
open Go.RowKit

theorem ownD_form3 {w : World} {B base : Nat} {e : TypeId} {sz n c : Nat} {a : Option Addr} {rs : List (List At)} (h : OwnD B base e sz w (.slice a n c) rs) : (a = none ∧ n = 0 ∧ c = 0 ∧ rs = []) ∨ ∃ g, a = some ⟨g, 0, none⟩ ∧ n = rs.length ∧ n ≤ c ∧ c ≤ 9223372036854775807 := by
  obtain ⟨css, h1, h2⟩ := h
  rcases h1.2 with ⟨e1, hn⟩ | ⟨g, cap, cur, e1, hb, hgg, hncap, hcap, hsz, htake⟩
  · injection e1 with e1 e2 e3
    exact .inl ⟨e1, e2, e3, List.eq_nil_of_length_eq_zero hn⟩
  · injection e1 with e1 e2 e3
    subst e1 e2 e3
    exact .inr ⟨g, rfl, rfl, hncap, by simpa [maxLen] using hcap⟩
theorem ownD_cases {w : World} {B base : Nat} {e : TypeId} {sz : Nat} {y : Value} {rs : List (List At)} (h : OwnD B base e sz w y rs) : (y = .slice none 0 0 ∧ rs = []) ∨ ∃ g cap, y = .slice (some ⟨g, 0, none⟩) rs.length cap ∧ rs.length ≤ cap ∧ cap ≤ 9223372036854775807 := by
  obtain ⟨css, h1, h2⟩ := h
  rcases h1.2 with ⟨rfl, hn⟩ | ⟨g, cap, cur, rfl, hb, hgg, hncap, hcap, hsz, htake⟩
  · exact .inl ⟨rfl, List.eq_nil_of_length_eq_zero hn⟩
  · exact .inr ⟨g, cap, rfl, hncap, by simpa [maxLen] using hcap⟩
theorem MemW.all {B : Nat} {w : World} {x : At} {y : Value} (h : MemW w x y) : Mem (Nw B B w.heap.size) w x y := h.mono (fun b hb => ⟨by omega, hb⟩) fun _ _ => rfl
theorem ins_app1 {W0 wx : World} {x : Tm} {ax : Option Addr} {nx capx : Nat} {rs : List (List At)} {a : Option Addr} {m c : Nat} (hD : Dr (W0.alloc (.cells #[.int .i64 x.kind, .string x.name, .int .i64 x.n, .slice ax nx capx] 96)) wx) {G : Nat} (hG : G = W0.heap.size)
    (hM : MemW W0 (.s 4 rs) (.slice a m c)) (hX : MemW W0 (.s 4 (Tm.rows x.args)) (.slice ax nx capx)) (hm : rs.length ≤ 1000) :
    ∃ v' w', (Builtin.append_ #[89, 89] 89 #[.slice (some ⟨G, 0, none⟩) 1 1, .slice a m c]).run Try.prog wx = .ok v' w' ∧ (∃ g1 c1, v' = .slice (some ⟨g1, 0, none⟩) (rs.length + 1) c1 ∧ MemW w' (.s 4 (x.row :: rs)) v' ∧ Below W0.heap.size W0 w') := by
  subst hG
  have hB0 : Below W0.heap.size W0 wx := hD.below (below_new W0 _)
  have hO : OwnD W0.heap.size W0.heap.size 96 4 wx (.slice (some ⟨W0.heap.size, 0, none⟩) 1 1) (Tm.rows [x]) := (tm_one x (MemW.all hX) (Nat.le_refl _)).grown (by rw [hD.1]; exact Nat.le_refl _) fun k _ => by rw [hD.1]
  have hsz : wx.heap.size = W0.heap.size + 1 := by rw [hD.1, World.size_alloc]
  obtain ⟨v', w', hr, h2, h3, _⟩ := run_append_D2 (P := Try.prog) 89 Try.underlying89 info_term5 rfl (by decide) hO (hM.mono (fun b hb => ⟨⟨by omega, by omega⟩, fun e => by injection e with e; simp only at e; omega⟩) fun b hb => hB0.block b hb) (by rw [Tm.rows_len]; simp only [List.length_cons, List.length_nil]; omega) (by rw [Tm.rows_len]; simp only [List.length_cons, List.length_nil]; omega) (by omega)
  refine ⟨v', w', hr, ?_⟩
  rcases ownD_cases h2 with ⟨rfl, e⟩ | ⟨g, cap, e, h4, h5⟩
  · rw [Tm.rows] at e; cases e
  · refine ⟨g, cap, by rw [e, List.length_append, Tm.rows_len]; simp [Nat.add_comm], by have := h2.memW; rwa [show Tm.rows [x] ++ rs = x.row :: rs by rw [Tm.rows, Tm.rows]; rfl] at this, grown_below hB0 h3 (Nat.le_refl _) fun k hk => by injection hk with hk; simp only at hk; omega⟩
theorem ins_app2 {W1 wx : World} {l1 l2 : List (List At)} {va : Option Addr} {i g1 m c1 base : Nat} (hD : Dr W1 wx) (hY : MemW W1 (.s 4 l1) (.slice va i i)) (hM : MemW W1 (.s 4 l2) (.slice (some ⟨g1, 0, none⟩) m c1)) (hm : 0 < m) (hn : i + m ≤ 1001) (hb : base ≤ W1.heap.size) :
    ∃ v' w', (Builtin.append_ #[89, 89] 89 #[.slice va i i, .slice (some ⟨g1, 0, none⟩) m c1]).run Try.prog wx = .ok v' w' ∧ (OwnD base base 96 4 w' v' (l1 ++ l2) ∧ Below W1.heap.size W1 w') := by
  have hB0 : Below W1.heap.size W1 wx := hD.below (Below.refl _ _)
  obtain ⟨v', w', hr, h2, h3, _⟩ := run_append_cut (P := Try.prog) 89 Try.underlying89 info_term5 rfl (by decide) (B := base) (base := base) (MemW.all (hY.keep hB0)) (MemW.all (hM.keep hB0)) hm (by omega) (by omega) (Nat.le_trans hb hB0.size)
  exact ⟨v', w', hr, h2, hB0.trans (h3.mono hB0.size)⟩
end Go.Proofs.Ytppejoccljfblaa
