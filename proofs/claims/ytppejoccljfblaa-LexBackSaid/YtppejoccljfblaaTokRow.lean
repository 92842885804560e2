/-
  A row of tokens that a call builds by append. No condition but sizes.
-/
import Derived.Test.YtppejoccljfblaaToken
import Derived.Laws.OwnMore
namespace Go.Proofs.Ytppejoccljfblaa
open Go.RowKit

/-- A token's cells, as they lie. -/
def tokR (t : Tok) : List Value := [.int .i64 t.k, .string t.s, .int .i64 t.n, .int .i64 t.l, .int .i64 t.c]
def tokVs (ts : List Tok) : List Value := ts.flatMap tokR
theorem tokVs_len (ts : List Tok) : (tokVs ts).length = ts.length * 5 := by
  induction ts with
  | nil => rfl
  | cons t ts ih => simp only [tokVs, List.flatMap_cons, List.length_append, List.length_cons] at *; rw [ih]; simp [tokR]; omega
theorem tokVs_app (a b : List Tok) : tokVs (a ++ b) = tokVs a ++ tokVs b := by simp [tokVs]
theorem tokVs_one (t : Tok) : tokVs [t] = tokR t := by simp [tokVs]
theorem tokR_one (t : Tok) : ∀ u ∈ tokR t, u.oneCell' = true := by
  intro u hu; simp only [tokR, List.mem_cons, List.not_mem_nil, or_false] at hu
  rcases hu with rfl | rfl | rfl | rfl | rfl <;> rfl
def OwnT (base : Nat) (w : World) (y : Value) (ts : List Tok) : Prop := w.ownsRow base 46 5 y ts.length (tokVs ts)
theorem OwnT.nil (base : Nat) (w : World) : OwnT base w (.slice none 0 0) [] := World.ownsRow_nil w base 46 5
theorem OwnT.lt {base : Nat} {w : World} {y : Value} {ts : List Tok} (h : OwnT base w y ts) : ∀ k, y.ownBlock = some k → base ≤ k ∧ k < w.heap.size := World.ownsRow.lt h
theorem OwnT.grown {base : Nat} {w w' : World} {y : Value} {ts : List Tok} {r : Option Nat} (h : OwnT base w y ts) (hg : w.grownBy w' r) (hr : ∀ k, r = some k → y.ownBlock ≠ some k) : OwnT base w' y ts := by
  refine ⟨h.1, ?_⟩
  rcases h.2 with hn | ⟨g, cap, cur, rfl, hb, hgg, rest⟩
  · exact .inl hn
  · exact .inr ⟨g, cap, cur, rfl, hb, (hg.block g (Array.getElem?_eq_some_iff.1 hgg).1 (fun e => hr g e.symm rfl)).trans hgg, rest⟩
theorem OwnT.keep {base : Nat} {w w' : World} {y : Value} {ts : List Tok} (h : OwnT base w y ts) (hb : Below w.heap.size w w') : OwnT base w' y ts :=
  h.grown (r := none) ⟨hb.os, hb.tape, hb.output, hb.size, fun k hk _ => hb.block k hk⟩ (fun _ e => by cases e)
theorem OwnT.far {base : Nat} {w w' : World} {y : Value} {ts : List Tok} {q : Nat} (h : OwnT base w y ts) (hf : Far (fun k => k = q) w w') (hq : q < base) : OwnT base w' y ts :=
  h.grown (r := some q) ⟨hf.os, hf.tape, hf.output, hf.size, fun k hk hne => hf.block k hk (fun e => hne (by rw [e]))⟩ (fun k e hk => by injection e with e; subst e; have := (h.lt _ hk).1; omega)
theorem OwnT.dn {base : Nat} {w : World} {y : Value} {ts : List Tok} (h : OwnT base w y ts) (n : Nat) : OwnT base (w.drewN n) y ts := h
theorem OwnT.form {base : Nat} {w : World} {y : Value} {ts : List Tok} (h : OwnT base w y ts) : ∃ a cap, y = .slice a ts.length cap ∧ ts.length ≤ cap ∧ cap ≤ 9223372036854775807 ∧ Rd w.heap.size w a ts.length cap 5 (tokVs ts) := by
  rcases h.2 with ⟨rfl, hn⟩ | ⟨g, cap, cur, rfl, hb, hgg, hncap, hcap, hsz, htake⟩
  · exact ⟨none, 0, by rw [hn], by omega, by omega, tokVs_len ts, by omega, by omega, .inl hn⟩
  · have hc9 : cap ≤ 9223372036854775807 := by simpa [maxLen] using hcap
    refine ⟨_, cap, rfl, hncap, hc9, tokVs_len ts, hncap, hc9, .inr ⟨g, 0, rfl, (Array.getElem?_eq_some_iff.1 hgg).1, fun j hj => ?_⟩⟩
    have hj' : j < ts.length * 5 := by rw [tokVs_len] at hj; exact hj
    rw [World.ownsRow.cellAt h (0 + j) (by omega), Nat.zero_add, List.getElem?_eq_getElem hj]

theorem info_tok : (Try.prog.info? 46).map (fun i => (i.zero, i.size, i.bytes)) = some (some (.agg #[.int .i64 0, .string ⟨#[]⟩, .int .i64 0, .int .i64 0, .int .i64 0]), 5, 48) := by kernel_rfl
theorem app_tok {base : Nat} {W : World} {y : Value} {ts : List Tok} {t : Tok} {g : Nat} (ty : TypeId) (h : OwnT base W y ts) (hg : ∀ j u, (tokR t)[j]? = some u → W.cell? ⟨g, j, none⟩ = some u) (hts : ts.length ≤ 100000) (hbase : base ≤ W.heap.size) :
    ∃ v' w', (Builtin.append_ #[33, 33] ty #[y, .slice (some ⟨g, 0, none⟩) 1 1]).run Try.prog W = .ok v' w' ∧ OwnT base w' v' (ts ++ [t]) ∧ W.grownBy w' y.ownBlock ∧ (v'.ownBlock = y.ownBlock ∨ ∀ k, v'.ownBlock = some k → W.heap.size ≤ k) := by
  obtain ⟨i, hi, hz0, hz1, hz2⟩ := info_parts info_tok
  have ht := Try.underlying33
  have hnews : ∀ j u, (tokR t)[j]? = some u → W.cell? ((⟨g, 0, none⟩ : Addr).add j) = some u := fun j u hu => by
    have e : (⟨g, 0, none⟩ : Addr).add j = ⟨g, 0 + j, none⟩ := by unfold Addr.add; split <;> simp_all
    rw [e, Nat.zero_add]; exact hg j u hu
  have hml : ts.length + 1 ≤ maxLen := by unfold maxLen; omega
  have hby' : (ts.length + 1) * 48 ≤ 140737488355328 := by omega
  obtain ⟨v', w', hr, ho, hgr, _⟩ := run_append_own (P := Try.prog) W base 33 ty 46 i _ 5 48 ht hi hz0 hz1 hz2 rfl (by decide) y ts.length (tokVs ts) h ⟨g, 0, none⟩ 1 1 (tokR t) rfl hnews (tokR_one t) hml hby' hbase
  have hy : v'.ownBlock = y.ownBlock ∨ ∀ k, v'.ownBlock = some k → W.heap.size ≤ k := by
    have h1 := h
    rcases h1.2 with ⟨rfl, hn⟩ | ⟨g', cap, cur, rfl, hb, hgg, hncap, hcap, hsz, htake⟩
    · have h1' : W.ownsRow W.heap.size 46 5 (.slice none 0 0) ts.length (tokVs ts) := ⟨h1.1, .inl ⟨rfl, hn⟩⟩
      obtain ⟨v2, w2, hr2, ho2, _, _⟩ := run_append_own (P := Try.prog) W W.heap.size 33 ty 46 i _ 5 48 ht hi hz0 hz1 hz2 rfl (by decide) _ ts.length (tokVs ts) h1' ⟨g, 0, none⟩ 1 1 (tokR t) rfl hnews (tokR_one t) hml hby' (Nat.le_refl _)
      have := hr.symm.trans hr2
      injection this with e1 e2
      subst e1
      exact .inr fun k hk => (ho2.lt k hk).1
    · by_cases hroom : ts.length + 1 ≤ cap
      · obtain ⟨w2, hr2, _⟩ := run_append_fits (P := Try.prog) W base 33 ty 46 i 5 ht hi hz1 g' ts.length cap (tokVs ts) h1 ⟨g, 0, none⟩ 1 1 (tokR t) rfl hnews (tokR_one t) hroom
        have := hr.symm.trans hr2
        injection this with e1 e2
        subst e1
        exact .inl rfl
      · have hr2 := run_append_grow (P := Try.prog) W 33 ty 46 i _ ht hi hz0 ⟨g', 0, none⟩ ts.length cap (tokVs ts) (by rw [hz1]; exact h1.1) (World.ownsRow.cells h1 (g := g') rfl) ⟨g, 0, none⟩ 1 1 (tokR t) (by rw [hz1]; rfl) hnews (by omega) (by unfold maxLen at hml; omega) (growslice_fits (by omega) (by rw [hz2]; exact hby'))
        have := hr.symm.trans hr2
        injection this with e1 e2
        subst e1
        refine .inr fun k hk => ?_
        simp only [Value.ownBlock, Option.some.injEq] at hk
        omega
  refine ⟨v', w', hr, ?_, hgr, hy⟩
  unfold OwnT
  rw [tokVs_app, tokVs_one, List.length_append]
  exact ho
end Go.Proofs.Ytppejoccljfblaa
