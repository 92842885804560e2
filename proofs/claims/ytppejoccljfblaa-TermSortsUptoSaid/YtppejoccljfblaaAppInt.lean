/-
  'out = append(out, x)' in a loop's body over an iterator, out a list of numbers of the function's own. Plain lemmas. No condition.
-/
import Derived.Test.YtppejoccljfblaaHolds
import Derived.Test.YtppejoccljfblaaIntRows
import Derived.Test.YtppejoccljfblaaAppLast
namespace Go.Proofs.Ytppejoccljfblaa
open Go.RowKit

theorem app_int {P : Program} {t e : TypeId} {W : World} {g base : Nat} {T : TypeId} {v : Value} {V : List Int} (ty e' : TypeId) (x : Int) (ht : P.underlying t = some (.slice e)) (hinfo : (P.info? e).map (fun i => (i.zero, i.size, i.bytes)) = some (some (.int .i64 0), 1, 8))
    (hv : Boxed W g T v) (hO : OwnD 0 base e 1 W v (intRows V)) (hg : g < base) (hb : base ≤ W.heap.size) (hl : V.length + 1 ≤ 1048577) :
    ∃ v' w1, (Builtin.append_ #[t, t] ty #[v, .slice (some ⟨W.heap.size, 0, none⟩) 1 1]).run P (W.alloc (.cells #[.int .i64 x] e')) = .ok v' w1 ∧
      Boxed w1 g T v ∧ (∃ a c, v' = .slice a (V.length + 1) c) ∧ (∀ D, KeepsFrom D W (w1.setCell ⟨g, 0, none⟩ v')) ∧ KpT [g] [g] W (w1.setCell ⟨g, 0, none⟩ v') ∧
      Boxed (w1.setCell ⟨g, 0, none⟩ v') g T v' ∧ OwnD 0 base e 1 (w1.setCell ⟨g, 0, none⟩ v') v' (intRows (V ++ [x])) ∧ (∀ B w0, B ≤ g → B ≤ w0.heap.size → Below B w0 W → Below B w0 (w1.setCell ⟨g, 0, none⟩ v')) := by
  obtain ⟨v', w1, hr, h2, h3, h4⟩ := run_append_D2 (P := P) (t := t) (e := e) (z := .int .i64 0) (sz := 1) (bytes := 8) (B := 0) (base := base) (w := W.alloc (.cells #[.int .i64 x] e')) ty ht hinfo rfl (by decide) (hO.alloc _) (own_int x W.heap.size rfl hO hb) (by rw [intRows_len, intRows_len]; simp; omega) (by rw [intRows_len, intRows_len]; simp; omega) (by rw [World.size_alloc]; omega)
  rw [← intRows_app] at h2
  have hne : v.ownBlock ≠ some g := fun e => by have := (hO.lt g e).1; omega
  have hblk : ∀ k, k < W.heap.size → v.ownBlock ≠ some k → w1.heap[k]? = W.heap[k]? := fun k hk hyk => (h3.block k (by rw [World.size_alloc]; omega) (fun e => hyk e.symm)).trans ((below_new W _).block k hk)
  have hglt := hv.lt
  have hb1 : Boxed w1 g T v := (hblk g hglt hne).trans hv
  have hsz : W.heap.size ≤ w1.heap.size := by have := h3.size; rw [World.size_alloc] at this; omega
  have hszC : W.heap.size ≤ (w1.setCell ⟨g, 0, none⟩ v').heap.size := by simpa [World.setCell] using hsz
  have hsame : ∀ k, k < W.heap.size → k ≠ g → v.ownBlock ≠ some k → (w1.setCell ⟨g, 0, none⟩ v').heap[k]? = W.heap[k]? := fun k hk h1 hk2 => (heap_setCell_other _ _ _ _ h1).trans (hblk k hk hk2)
  obtain ⟨a, c, hform, _, _⟩ := h2.form
  rw [intRows_len, List.length_append, List.length_cons, List.length_nil] at hform
  refine ⟨v', w1, hr, hb1, ⟨a, c, hform⟩, fun D => keeps_of hv hO hszC hsame, kpt_of hv (hb1.set _) hszC hsame (fun k hk => ⟨?_, ?_⟩) hO.slice, hb1.set _, h2.cellFar g _ hg (Nat.zero_le _), fun B w0 hB hB0 hbw => ?_⟩
  · rcases h4 with h4 | h4
    · exact .inl (h4 ▸ hk)
    · have := h4 k hk; rw [World.size_alloc] at this; exact .inr (by omega)
  · simp only [World.setCell, Array.size_modify]; exact (h2.lt k hk).2
  · exact (grown_below (hbw.alloc (Nat.le_trans hB0 hbw.size) _) h3 hB0 (fun k hk => by have := (hO.lt k hk).1; omega)).setCell (p := ⟨g, 0, none⟩) hB _
end Go.Proofs.Ytppejoccljfblaa
