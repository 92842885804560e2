/-
  'append' onto a row of the call's own, whatever its elements; of bytes, and of a text onto bytes. No condition but sizes.
-/
import Derived.Test.YtppejoccljfblaaAppTwo
import Derived.Deep.AppendLies
namespace Go.Proofs.Ytppejoccljfblaa
open Go.RowKit

theorem app_gen {P : Program} {w : World} {t e : TypeId} {z : Value} {sz bytes : Nat} (ty : TypeId) {base : Nat} (ht : P.underlying t = some (.slice e)) (hinfo : (P.info? e).map (fun i => (i.zero, i.size, i.bytes)) = some (some z, sz, bytes)) (hz : z.cells.size = sz) (hsz : 0 < sz)
    {y : Value} {n : Nat} {xs news : List Value} (h : w.ownsRow base e sz y n xs) (ad : Addr) (m c : Nat) (hl : news.length = m * sz) (hcell : ∀ j u, news[j]? = some u → w.cell? (ad.add j) = some u) (hone : ∀ u ∈ news, u.oneCell' = true)
    (hm : 0 < m) (hn : n + m ≤ 1000000000) (hby : (n + m) * bytes ≤ 140737488355328) (hbase : base ≤ w.heap.size) :
    ∃ v' w', (Builtin.append_ #[t, t] ty #[y, .slice (some ad) m c]).run P w = .ok v' w' ∧ w'.ownsRow base e sz v' (n + m) (xs ++ news) ∧ w.grownBy w' y.ownBlock ∧ (v'.ownBlock = y.ownBlock ∨ ∀ k, v'.ownBlock = some k → w.heap.size ≤ k) := by
  obtain ⟨i, hi, hz0, hz1, hz2⟩ := info_parts hinfo
  have hml : n + m ≤ maxLen := by unfold maxLen; omega
  obtain ⟨v', w', hr, ho, hgr, _⟩ := run_append_own (P := P) w base t ty e i z sz bytes ht hi hz0 hz1 hz2 hz hsz y n xs h ad m c news hl hcell hone hml hby hbase
  refine ⟨v', w', hr, ho, hgr, ?_⟩
  rcases h.2 with ⟨rfl, hn0⟩ | ⟨g', cap, cur, rfl, hb, hgg, hncap, hcap, hcs, htake⟩
  · have h1' : w.ownsRow w.heap.size e sz (.slice none 0 0) n xs := ⟨h.1, .inl ⟨rfl, hn0⟩⟩
    obtain ⟨v2, w2, hr2, ho2, _, _⟩ := run_append_own (P := P) w w.heap.size t ty e i z sz bytes ht hi hz0 hz1 hz2 hz hsz _ n xs h1' ad m c news hl hcell hone hml hby (Nat.le_refl _)
    have := hr.symm.trans hr2
    injection this with e1 e2
    subst e1
    exact .inr fun k hk => (ho2.lt k hk).1
  · by_cases hroom : n + m ≤ cap
    · obtain ⟨w2, hr2, _⟩ := run_append_fits (P := P) w base t ty e i sz ht hi hz1 g' n cap xs h ad m c news hl hcell hone hroom
      have := hr.symm.trans hr2
      injection this with e1 e2
      subst e1
      exact .inl rfl
    · have hr2 := run_append_grow (P := P) w t ty e i z ht hi hz0 ⟨g', 0, none⟩ n cap xs (by rw [hz1]; exact h.1) (World.ownsRow.cells h (g := g') rfl) ad m c news (by rw [hz1]; exact hl) hcell (by omega) (by unfold maxLen at hml; omega) (growslice_fits (by omega) (by rw [hz2]; exact hby))
      have := hr.symm.trans hr2
      injection this with e1 e2
      subst e1
      refine .inr fun k hk => ?_
      simp only [Value.ownBlock, Option.some.injEq] at hk
      omega

section
variable {P : Program} {w : World}
/-- An append, by what is known of its run. -/
theorem wpx_app {o : Oper} {a : Act} {K : Act → World → Prop} {Q : Exit → Act → World → Prop} {v1 v2 : Value} {ts : Array TypeId} {R : Value → World → Prop} (s x : Operand)
    (ho : o.op = .call { callee := .builtin .append, args := #[s, x], argTypes := ts }) (hv : a.eval s = v1) (hx : a.eval x = v2) (hr : ∃ v w', (Builtin.append_ ts o.type #[v1, v2]).run P w = .ok v w' ∧ R v w') (h : ∀ v w', R v w' → K (a.put o.dst v) w') : o.wp P a w K Q := by
  obtain ⟨v, w', h1, h2⟩ := hr
  unfold Oper.wp execOp
  simp only [ho, resolve, invoke, builtin, Sem.run_bind, Sem.run_pure, Result.andThen_ok, List.map_toArray, List.map_cons, List.map_nil, hv, hx, h1]
  exact h v w' h2
theorem stepx_app {ops : Array Oper} {o : Oper} {a : Act} {K : Act → World → Prop} {Q : Exit → Act → World → Prop} {E : Prop} {v1 v2 : Value} {ts : Array TypeId} {R : Value → World → Prop} (hgd : o.guard = none) (s x : Operand)
    (ho : o.op = .call { callee := .builtin .append, args := #[s, x], argTypes := ts }) (hv : a.eval s = v1) (hx : a.eval x = v2) (hr : ∃ v w', (Builtin.append_ ts o.type #[v1, v2]).run P w = .ok v w' ∧ R v w') (h : ∀ v w', R v w' → K (a.put o.dst v) w') :
    if Region.wanted o (yielded ops a.tmps) = true then Oper.wp P o a w K Q else E := by
  have hw : Region.wanted o (yielded ops a.tmps) = true := by simp [Region.wanted, hgd]
  rw [if_pos hw]
  exact wpx_app s x ho hv hx hr h
theorem listx_app {ops : Array Oper} {rest : List Oper} {o : Oper} {a : Act} {Q : Exit → Act → World → Prop} {v1 v2 : Value} {ts : Array TypeId} {R : Value → World → Prop} (hgd : o.guard = none) (s x : Operand)
    (ho : o.op = .call { callee := .builtin .append, args := #[s, x], argTypes := ts }) (hv : a.eval s = v1) (hx : a.eval x = v2) (hr : ∃ v w', (Builtin.append_ ts o.type #[v1, v2]).run P w = .ok v w' ∧ R v w') (h : ∀ v w', R v w' → wpList P ops Q rest (a.put o.dst v) w') : wpList P ops Q (o :: rest) a w :=
  wpList_plain hgd fun _ hK => wpx_app s x ho hv hx hr fun v w' hR => hK _ _ (h v w' hR)
end

/-- A row of bytes that the call has built. -/
def OwnB (base : Nat) (w : World) (y : Value) (l : List UInt8) : Prop := w.ownsRow base 5 1 y l.length (u8s l)
theorem OwnB.nil (base : Nat) (w : World) : OwnB base w (.slice none 0 0) [] := World.ownsRow_nil w base 5 1
theorem OwnB.lt {base : Nat} {w : World} {y : Value} {l : List UInt8} (h : OwnB base w y l) : ∀ k, y.ownBlock = some k → base ≤ k ∧ k < w.heap.size := World.ownsRow.lt h
theorem OwnB.form {base : Nat} {w : World} {y : Value} {l : List UInt8} (h : OwnB base w y l) : ∃ a cap, y = .slice a l.length cap ∧ Rd w.heap.size w a l.length cap 1 (u8s l) := by
  rcases h.2 with ⟨rfl, hn⟩ | ⟨g, cap, cur, rfl, hb, hgg, hncap, hcap, hsz, htake⟩
  · exact ⟨none, 0, by rw [hn], by rw [u8s_length]; omega, by omega, by omega, .inl hn⟩
  · have hc9 : cap ≤ 9223372036854775807 := by simpa [maxLen] using hcap
    refine ⟨_, cap, rfl, by rw [u8s_length]; omega, hncap, hc9, .inr ⟨g, 0, rfl, (Array.getElem?_eq_some_iff.1 hgg).1, fun j hj => ?_⟩⟩
    have hj' : j < l.length * 1 := by rw [u8s_length] at hj; omega
    rw [World.ownsRow.cellAt h (0 + j) (by omega), Nat.zero_add, List.getElem?_eq_getElem hj]
theorem OwnB.grown {base : Nat} {w w' : World} {y : Value} {l : List UInt8} {r : Option Nat} (h : OwnB base w y l) (hg : w.grownBy w' r) (hr : ∀ k, r = some k → y.ownBlock ≠ some k) : OwnB base w' y l := by
  refine ⟨h.1, ?_⟩
  rcases h.2 with hn | ⟨g, cap, cur, rfl, hb, hgg, rest⟩
  · exact .inl hn
  · exact .inr ⟨g, cap, cur, rfl, hb, (hg.block g (Array.getElem?_eq_some_iff.1 hgg).1 (fun e => hr g e.symm rfl)).trans hgg, rest⟩
theorem OwnB.keep {base : Nat} {w w' : World} {y : Value} {l : List UInt8} (h : OwnB base w y l) (hb : Below w.heap.size w w') : OwnB base w' y l :=
  h.grown (r := none) ⟨hb.os, hb.tape, hb.output, hb.size, fun k hk _ => hb.block k hk⟩ (fun _ e => by cases e)
/-- What an append leaves alone: all but its row; and its row is the old one or a new one. -/
structure Stay (base : Nat) (y : Value) (w : World) (y' : Value) (w' : World) : Prop where
  bel : Below base w w'
  oth : ∀ q, q < w.heap.size → y.ownBlock ≠ some q → w'.heap[q]? = w.heap[q]? ∧ y'.ownBlock ≠ some q
theorem Stay.refl (base : Nat) (y : Value) (w : World) : Stay base y w y w := ⟨Below.refl _ _, fun _ _ h => ⟨rfl, h⟩⟩
theorem Stay.trans {base : Nat} {y y' y'' : Value} {w w' w'' : World} (h : Stay base y w y' w') (k : Stay base y' w' y'' w'') : Stay base y w y'' w'' :=
  ⟨h.bel.trans k.bel, fun q hq hy => by
    obtain ⟨h1, h2⟩ := h.oth q hq hy
    obtain ⟨h3, h4⟩ := k.oth q (Nat.lt_of_lt_of_le hq h.bel.size) h2
    exact ⟨h3.trans h1, h4⟩⟩
theorem info_u8b : (Try.prog.info? 5).map (fun i => (i.zero, i.size, i.bytes)) = some (some (.int .u8 0), 1, 1) := by kernel_rfl
theorem app_byte {base : Nat} {w : World} {y : Value} {l : List UInt8} (b : UInt8) (v : Int) (hv : v = (b.toNat : Int)) (h : OwnB base w y l) (hl : l.length ≤ 100000) {G : Nat} (hG : w.heap.size = G) (hbase : base ≤ w.heap.size) :
    ∃ v' w', (Builtin.append_ #[22, 22] 22 #[y, .slice (some ⟨G, 0, none⟩) 1 1]).run Try.prog (w.alloc (.cells #[.int .u8 v] 5)) = .ok v' w' ∧ (OwnB base w' v' (l ++ [b]) ∧ Stay base y w v' w') := by
  subst hG; subst hv
  have hx := h.keep (below_new w (.cells #[.int .u8 (b.toNat : Int)] 5))
  obtain ⟨v', w', hr, ho, hg, hy⟩ := app_gen (P := Try.prog) 22 Try.underlying22 info_u8b rfl (by decide) (y := y) (n := l.length) (xs := u8s l) (news := [.int .u8 (b.toNat : Int)]) hx ⟨w.heap.size, 0, none⟩ 1 1 rfl (fun j u hu => by
    have e : (⟨w.heap.size, 0, none⟩ : Addr).add j = ⟨w.heap.size, 0 + j, none⟩ := by unfold Addr.add; split <;> simp_all
    rw [e, Nat.zero_add]
    exact (Bo.new w 5 #[.int .u8 (b.toNat : Int)]).cell (by simpa using hu)) (by simp [Value.oneCell']) (by decide) (by omega) (by omega) (by rw [World.size_alloc]; omega)
  have hob := h.lt
  refine ⟨v', w', hr, ?_, ⟨grown_below ((below_new w _).mono hbase) hg hbase (fun k hk => (hob k hk).1), fun q hq hne => ⟨?_, fun e => ?_⟩⟩⟩
  · unfold OwnB
    rw [List.length_append, show u8s (l ++ [b]) = u8s l ++ [.int .u8 (b.toNat : Int)] by simp [u8s]]
    exact ho
  · rw [hg.block q (by rw [World.size_alloc]; omega) (fun e => hne e.symm)]
    exact (below_new w _).block q hq
  · rcases hy with hy | hy
    · exact hne (hy ▸ e)
    · have := hy q e; rw [World.size_alloc] at this; omega
end Go.Proofs.Ytppejoccljfblaa
