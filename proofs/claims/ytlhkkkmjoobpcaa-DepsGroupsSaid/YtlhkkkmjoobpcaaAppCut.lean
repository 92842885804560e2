/-
  'append' onto a slice that is full ('x[:i:i]'): a new row. No condition but sizes.
-/
import Derived.Test.YtlhkkkmjoobpcaaTree
namespace Go.Proofs.Ytlhkkkmjoobpcaa
open Go.RowKit

theorem all2_len {S : Nat → Prop} {w : World} {sz : Nat} {rs : List (List At)} {css : List (List Value)} (h : All2 (fun r cs => cs.length = sz ∧ All2 (Mem S w) r cs) rs css) : css.flatten.length = rs.length * sz := by
  have hall : ∀ cs ∈ css, cs.length = sz := fun cs hcs => by
    obtain ⟨i, hi, rfl⟩ := List.getElem_of_mem hcs
    exact (h.at i (by have := h.len; omega) hi).1
  rw [flat_len sz css hall, h.len]
theorem run_append_cut {P : Program} {w : World} {t e : TypeId} {z : Value} {sz bytes : Nat} (ty : TypeId) {B base : Nat} (ht : P.underlying t = some (.slice e)) (hinfo : (P.info? e).map (fun i => (i.zero, i.size, i.bytes)) = some (some z, sz, bytes)) (hz : z.cells.size = sz) (hsz : 0 < sz)
    {rs new : List (List At)} {a1 : Option Addr} {n : Nat} {ad : Addr} {m c : Nat} (hY : Mem (Nw B base w.heap.size) w (.s sz rs) (.slice a1 n n)) (hM : Mem (Nw B base w.heap.size) w (.s sz new) (.slice (some ad) m c)) (hm : 0 < m) (hn : n + m ≤ 1000000) (hby : (n + m) * bytes ≤ 140737488355328) (hbase : base ≤ w.heap.size) :
    ∃ v' w', (Builtin.append_ #[t, t] ty #[.slice a1 n n, .slice (some ad) m c]).run P w = .ok v' w' ∧ (OwnD B base e sz w' v' (rs ++ new) ∧ Below w.heap.size w w' ∧ ∀ k, v'.ownBlock = some k → w.heap.size ≤ k) := by
  have hl1 := hY.len
  have hl2 := hM.len
  cases a1 with
  | none =>
    have h0 : rs = [] := by cases hY; rfl
    subst h0
    obtain rfl : n = 0 := hl1.1.symm
    obtain ⟨v', w', h1, h2, h3, h4⟩ := run_append_D2 (P := P) (y := .slice none 0 0) ty ht hinfo hz hsz (OwnD.nil B base e sz w) (hM.mono (fun b hb => ⟨hb, fun h => by cases h⟩) fun _ _ => rfl) (by rw [hl2.1]; simpa using hby) (by rw [hl2.1]; simp; omega) hbase
    refine ⟨v', w', h1, h2, ⟨h3.os, h3.tape, h3.output, h3.size, fun k hk => h3.block k hk (fun h => by cases h)⟩, fun k hk => ?_⟩
    rcases h4 with h4 | h4
    · rw [h4] at hk; cases hk
    · exact h4 k hk
  | some b =>
    obtain ⟨i, hi, hz0, hz1, hz2⟩ := info_parts hinfo
    obtain ⟨ycs, hy2, hycell⟩ := hY.flat
    obtain ⟨ncs, hn2, hncell⟩ := hM.flat
    have ey := all2_len hy2
    have en := all2_len hn2
    rw [hl1.1] at ey
    rw [hl2.1] at en
    have h63 : n + m ≤ maxLen := by unfold maxLen; omega
    have hr := run_append_grow (P := P) w t ty e i z ht hi hz0 b n n ycs.flatten (by rw [hz1]; exact ey) (fun j v h => hycell b rfl j v h) ad m c ncs.flatten (by rw [hz1]; exact en) (fun j v h => hncell ad rfl j v h) (by omega) (by omega) (growslice_fits (by omega) (by rw [hz2]; exact hby))
    have hge := grownCap_ge w (n + m) n e
    have hcm : grownCap w (n + m) n e ≤ maxLen := grownCap_le_maxLen w (n + m) n e h63
    have hlen : (ycs ++ ncs).flatten.length = (n + m) * sz := by rw [List.flatten_append, List.length_append, ey, en, Nat.add_mul]
    refine ⟨_, _, hr, ⟨ycs ++ ncs, ⟨by rw [List.length_append, hl1.1, hl2.1]; exact hlen, .inr ⟨w.heap.size, _, _, by rw [List.length_append, hl1.1, hl2.1], hbase, heap_alloc_new w.drew _, by rw [List.length_append, hl1.1, hl2.1]; exact hge, hcm, ?_, ?_⟩⟩, ?_⟩, ?_, fun k hk => by cases hk; exact Nat.le_refl _⟩
    · simp only [Array.size_append, List.size_toArray, size_zeroCells, hz, ey, en, ← Nat.add_mul]
      congr 1
      omega
    · rw [List.length_append, hl1.1, hl2.1, ← hlen]
      simp only [Array.toList_append, List.append_assoc, List.flatten_append]
      rw [← List.append_assoc]
      exact List.take_left
    · refine (hy2.app hn2).imp fun r cs ⟨hc, hmm⟩ => ⟨hc, hmm.imp fun x y hx => hx.mono (fun q hq => ⟨⟨hq.1, Nat.lt_of_lt_of_le hq.2 (by simp)⟩, fun h => by cases h; exact Nat.lt_irrefl _ hq.2⟩) fun q hq => heap_alloc_old w.drew _ hq.2⟩
    · exact ⟨rfl, rfl, rfl, by simp, fun k hk => heap_alloc_old w.drew _ hk⟩
section
variable {P : Program} {w : World}
/-- An append, by what is known of its run. -/
theorem wpx_app {o : Oper} {a : Act} {K : Act → World → Prop} {Q : Exit → Act → World → Prop} {v1 v2 : Value} {ts : Array TypeId} {R : Value → World → Prop} (s x : Operand)
    (ho : o.op = .call { callee := .builtin .append, args := #[s, x], argTypes := ts }) (hv : a.eval s = v1) (hx : a.eval x = v2) (hr : ∃ v w', (Builtin.append_ ts o.type #[v1, v2]).run P w = .ok v w' ∧ R v w') (h : ∀ v w', R v w' → K (a.put o.dst v) w') : o.wp P a w K Q := by
  obtain ⟨v, w', h1, h2⟩ := hr
  unfold Oper.wp execOp
  simp only [ho, resolve, invoke, builtin, Sem.run_bind, Sem.run_pure, Result.andThen_ok, List.map_toArray, List.map_cons, List.map_nil, hv, hx, h1]
  exact h v w' h2
theorem stepx_app {ops : Array Oper} {o : Oper} {a : Act} {K : Act → World → Prop} {Q : Exit → Act → World → Prop} {E : Prop} {v1 v2 : Value} {ts : Array TypeId} {R : Value → World → Prop} (hgd : o.guard = none) (s x : Operand)
    (ho : o.op = .call { callee := .builtin .append, args := #[s, x], argTypes := ts }) (hv : a.eval s = v1) (hx : a.eval x = v2) (hr : ∃ v w', (Builtin.append_ ts o.type #[v1, v2]).run P w = .ok v w' ∧ R v w') (h : ∀ v w', R v w' → K (a.put o.dst v) w') :
    if Region.wanted o (yielded ops a.tmps) = true then Oper.wp P o a w K Q else E := by
  have hw : Region.wanted o (yielded ops a.tmps) = true := by simp [Region.wanted, hgd]
  rw [if_pos hw]
  exact wpx_app s x ho hv hx hr h
theorem listx_app {ops : Array Oper} {rest : List Oper} {o : Oper} {a : Act} {Q : Exit → Act → World → Prop} {v1 v2 : Value} {ts : Array TypeId} {R : Value → World → Prop} (hgd : o.guard = none) (s x : Operand)
    (ho : o.op = .call { callee := .builtin .append, args := #[s, x], argTypes := ts }) (hv : a.eval s = v1) (hx : a.eval x = v2) (hr : ∃ v w', (Builtin.append_ ts o.type #[v1, v2]).run P w = .ok v w' ∧ R v w') (h : ∀ v w', R v w' → wpList P ops Q rest (a.put o.dst v) w') : wpList P ops Q (o :: rest) a w :=
  wpList_plain hgd fun _ hK => wpx_app s x ho hv hx hr fun v w' hR => hK _ _ (h v w' hR)
end
end Go.Proofs.Ytlhkkkmjoobpcaa
