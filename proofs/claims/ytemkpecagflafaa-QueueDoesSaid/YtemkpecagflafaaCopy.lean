/-
  'append' onto a slice that is full: a new row, and nothing that lay has turned. No condition but sizes.
-/
import Derived.Test.YtemkpecagflafaaQIter
import Derived.Deep.RegionLawGrows
import Derived.Deep.AppendSrc
namespace Go.Proofs.Ytemkpecagflafaa
open Go.RowKit

theorem Rd.at {B : Nat} {w : World} {a : Option Addr} {n cap : Nat} {xs : List Value} (h : Rd B w a n cap 1 xs) : ∀ b, a = some b → ∀ j u, xs[j]? = some u → w.cell? (b.add j) = some u := by
  obtain ⟨h1, h2, h3, h4⟩ := h
  intro b hb j u hu
  have hj := (List.getElem?_eq_some_iff.1 hu).1
  rcases h4 with h4 | ⟨b0, o, rfl, hB, hc⟩
  · omega
  · cases hb
    have e : (⟨b0, o, none⟩ : Addr).add j = ⟨b0, o + j, none⟩ := by unfold Addr.add; split <;> simp_all
    rw [e, hc j hj]; exact (List.getElem?_eq_some_iff.1 hu).2 ▸ rfl

theorem owns_full {w w' : World} {e n : Nat} {v : Value} {xs : List Value} (h : w'.ownsRow w.heap.size e 1 v n xs) (hg : w.grownBy w' none) (hn : 0 < n) (hn' : n ≤ maxLen) :
    ∃ g cap', v = .slice (some ⟨g, 0, none⟩) n cap' ∧ w.heap.size ≤ g ∧ Below w.heap.size w w' ∧ Rd w'.heap.size w' (some ⟨g, 0, none⟩) n cap' 1 xs := by
  obtain ⟨g, cap', rfl, h1, _⟩ := h.form hn
  obtain ⟨a, c, e', hR, _⟩ := owns_rd h (by unfold maxLen at hn'; exact hn')
  cases e'
  exact ⟨g, cap', rfl, h1, ⟨hg.os, hg.tape, hg.output, hg.size, fun k hk => hg.block k hk (by simp)⟩, hR⟩

section
variable {P : Program} {w : World} {t e : TypeId} {i : TypeInfo} {z : Value} {bytes : Nat}

theorem run_append_copy (ty : TypeId) (ht : P.underlying t = some (.slice e)) (hi : P.info? e = some i) (hz : i.zero = some z) (hs : i.size = 1) (hby : i.bytes = bytes) (hzc : z.cells.size = 1)
    {B B' n cap m c : Nat} {ao ax : Option Addr} {olds news : List Value} (hR : Rd B w ao n cap 1 olds) (hfull : cap = n) (hX : Rd B' w ax m c 1 news) (h1 : ∀ u ∈ news, u.oneCell' = true) (hm : 0 < m) (hb : n + m ≤ 1000000) (hb2 : bytes ≤ 1000) :
    ∃ g cap' w', (Builtin.append_ #[t, t] ty #[.slice ao n cap, .slice ax m c]).run P w = .ok (.slice (some ⟨g, 0, none⟩) (n + m) cap') w' ∧ w.heap.size ≤ g ∧ Below w.heap.size w w' ∧ Rd w'.heap.size w' (some ⟨g, 0, none⟩) (n + m) cap' 1 (olds ++ news) := by
  subst hfull
  have hbytes : (cap + m) * bytes ≤ 140737488355328 := Nat.le_trans (Nat.mul_le_mul hb hb2) (by decide)
  have hX' := hX
  obtain ⟨x1, x2, x3, x4⟩ := hX'
  obtain ⟨bx, ox, rfl, hxB, hxc⟩ : ∃ bx ox, ax = some ⟨bx, ox, none⟩ ∧ bx < B' ∧ ∀ (j : Nat) (h : j < news.length), w.cell? ⟨bx, ox + j, none⟩ = some news[j] := by
    rcases x4 with x4 | h
    · omega
    · exact h
  have hlen := hR.1
  cases ao with
  | some b =>
    obtain ⟨v', w', hr, r1, r2⟩ := run_append_arg_grows (P := P) w t ty e i z 1 bytes ht hi hz hs hby hzc (by decide) b cap cap olds hlen (hR.at b rfl) ⟨bx, ox, none⟩ m c news x1 (hX.at _ rfl) (by omega) (by unfold maxLen; omega) hbytes
    obtain ⟨g, cap', rfl, h2, h3, h4⟩ := owns_full r1 r2 (by omega) (by unfold maxLen; omega)
    exact ⟨g, cap', w', hr, h2, h3, h4⟩
  | none =>
    have h0 : cap = 0 := by
      rcases hR.2.2.2 with h | ⟨b, o, h, _⟩
      · exact h
      · cases h
    subst h0
    obtain rfl : olds = [] := List.eq_nil_of_length_eq_zero (by simpa using hlen)
    obtain ⟨v', w', hr, r1, r2, _⟩ := run_append_own (P := P) w w.heap.size t ty e i z 1 bytes ht hi hz hs hby hzc (by decide) (.slice none 0 0) 0 [] (World.ownsRow_nil w _ e 1) ⟨bx, ox, none⟩ m c news x1 (hX.at _ rfl) h1 (by unfold maxLen; omega) hbytes (Nat.le_refl _)
    obtain ⟨g, cap', rfl, h2, h3, h4⟩ := owns_full r1 r2 (by omega) (by unfold maxLen; omega)
    exact ⟨g, cap', w', hr, h2, h3, h4⟩

/-- Nothing is appended: the same slice. -/
theorem run_append_none (ty : TypeId) (ht : P.underlying t = some (.slice e)) (hi : P.info? e = some i) {n cap c : Nat} {ao ax : Option Addr} (hn : n ≤ cap) :
    (Builtin.append_ #[t, t] ty #[.slice ao n cap, .slice ax 0 c]).run P w = .ok (.slice ao n cap) w := by
  have hs : Src P i.size t (.slice ax 0 c) 0 [] w := by
    cases ax with
    | none => exact Src.ofNil w ht c
    | some a => exact Src.ofSlice w ht a 0 c [] (by simp) (by simp) (by simp)
  cases ao <;> simp [Builtin.append_, run_underlying ht, sizeOf, typeInfo, hi, hs.len, hn, hs.cells, storeCells]

/-- The operation, by an equation on its run. -/
theorem wp_append_eq {o : Oper} {a : Act} {K : Act → World → Prop} {Q : Exit → Act → World → Prop} {w' : World} {v1 v2 v : Value} {ts : Array TypeId} (s x : Operand)
    (ho : o.op = .call { callee := .builtin .append, args := #[s, x], argTypes := ts }) (hv : a.eval s = v1) (hx : a.eval x = v2) (hr : (Builtin.append_ ts o.type #[v1, v2]).run P w = .ok v w') (h : K (a.put o.dst v) w') : o.wp P a w K Q := by
  unfold Oper.wp execOp
  simp only [ho, resolve, invoke, builtin, Sem.run_bind, Sem.run_pure, Result.andThen_ok, List.map_toArray, List.map_cons, List.map_nil, hv, hx, hr]
  exact h
theorem wpList_append_eq {ops : Array Oper} {rest : List Oper} {o : Oper} {a : Act} {Q : Exit → Act → World → Prop} {w' : World} {v1 v2 v : Value} {ts : Array TypeId} (hgd : o.guard = none) (s x : Operand)
    (ho : o.op = .call { callee := .builtin .append, args := #[s, x], argTypes := ts }) (hv : a.eval s = v1) (hx : a.eval x = v2) (hr : (Builtin.append_ ts o.type #[v1, v2]).run P w = .ok v w') (h : wpList P ops Q rest (a.put o.dst v) w') : wpList P ops Q (o :: rest) a w :=
  wpList_plain hgd fun _ hK => wp_append_eq s x ho hv hx hr (hK _ _ h)
theorem step_append_eq {ops : Array Oper} {o : Oper} {a : Act} {K : Act → World → Prop} {Q : Exit → Act → World → Prop} {E : Prop} {w' : World} {v1 v2 v : Value} {ts : Array TypeId} (hgd : o.guard = none) (s x : Operand)
    (ho : o.op = .call { callee := .builtin .append, args := #[s, x], argTypes := ts }) (hv : a.eval s = v1) (hx : a.eval x = v2) (hr : (Builtin.append_ ts o.type #[v1, v2]).run P w = .ok v w') (h : K (a.put o.dst v) w') :
    if Region.wanted o (yielded ops a.tmps) = true then Oper.wp P o a w K Q else E := by
  have hw : Region.wanted o (yielded ops a.tmps) = true := by simp [Region.wanted, hgd]
  rw [if_pos hw]
  exact wp_append_eq s x ho hv hx hr h

theorem step_append_ex {ops : Array Oper} {o : Oper} {a : Act} {K : Act → World → Prop} {Q : Exit → Act → World → Prop} {E : Prop} {v1 v2 : Value} {ts : Array TypeId} {R : Value → World → Prop} (hgd : o.guard = none) (s x : Operand)
    (ho : o.op = .call { callee := .builtin .append, args := #[s, x], argTypes := ts }) (hv : a.eval s = v1) (hx : a.eval x = v2) (hr : ∃ v w', (Builtin.append_ ts o.type #[v1, v2]).run P w = .ok v w' ∧ R v w') (h : ∀ v w', R v w' → K (a.put o.dst v) w') :
    if Region.wanted o (yielded ops a.tmps) = true then Oper.wp P o a w K Q else E := by
  obtain ⟨v, w', h1, h2⟩ := hr
  exact step_append_eq hgd s x ho hv hx h1 (h v w' h2)

theorem wp_append_copy {o : Oper} {a : Act} {K : Act → World → Prop} {Q : Exit → Act → World → Prop} (s x : Operand)
    (ho : o.op = .call { callee := .builtin .append, args := #[s, x], argTypes := #[t, t] })
    (ht : P.underlying t = some (.slice e)) (hi : P.info? e = some i) (hz : i.zero = some z) (hs : i.size = 1) (hby : i.bytes = bytes) (hzc : z.cells.size = 1)
    {B B' n cap m c : Nat} {ao ax : Option Addr} {olds news : List Value} (hv : a.eval s = .slice ao n cap) (hR : Rd B w ao n cap 1 olds) (hfull : cap = n) (hx : a.eval x = .slice ax m c) (hX : Rd B' w ax m c 1 news) (h1 : ∀ u ∈ news, u.oneCell' = true) (hm : 0 < m) (hb : n + m ≤ 1000000) (hb2 : bytes ≤ 1000)
    (h : ∀ g cap' w', w.heap.size ≤ g → Below w.heap.size w w' → Rd w'.heap.size w' (some ⟨g, 0, none⟩) (n + m) cap' 1 (olds ++ news) → K (a.put o.dst (.slice (some ⟨g, 0, none⟩) (n + m) cap')) w') : o.wp P a w K Q := by
  obtain ⟨g, cap', w', hr, h2, h3, h4⟩ := run_append_copy (P := P) (w := w) o.type ht hi hz hs hby hzc hR hfull hX h1 hm hb hb2
  unfold Oper.wp execOp
  simp only [ho, resolve, invoke, builtin, Sem.run_bind, Sem.run_pure, Result.andThen_ok, List.map_toArray, List.map_cons, List.map_nil, hv, hx, hr]
  exact h g cap' w' h2 h3 h4
theorem wpList_append_copy {ops : Array Oper} {rest : List Oper} {o : Oper} {a : Act} {Q : Exit → Act → World → Prop} (hgd : o.guard = none) (s x : Operand)
    (ho : o.op = .call { callee := .builtin .append, args := #[s, x], argTypes := #[t, t] })
    (ht : P.underlying t = some (.slice e)) (hi : P.info? e = some i) (hz : i.zero = some z) (hs : i.size = 1) (hby : i.bytes = bytes) (hzc : z.cells.size = 1)
    {B B' n cap m c : Nat} {ao ax : Option Addr} {olds news : List Value} (hv : a.eval s = .slice ao n cap) (hR : Rd B w ao n cap 1 olds) (hfull : cap = n) (hx : a.eval x = .slice ax m c) (hX : Rd B' w ax m c 1 news) (h1 : ∀ u ∈ news, u.oneCell' = true) (hm : 0 < m) (hb : n + m ≤ 1000000) (hb2 : bytes ≤ 1000)
    (h : ∀ g cap' w', w.heap.size ≤ g → Below w.heap.size w w' → Rd w'.heap.size w' (some ⟨g, 0, none⟩) (n + m) cap' 1 (olds ++ news) → wpList P ops Q rest (a.put o.dst (.slice (some ⟨g, 0, none⟩) (n + m) cap')) w') : wpList P ops Q (o :: rest) a w :=
  wpList_plain hgd fun _ hK => wp_append_copy s x ho ht hi hz hs hby hzc hv hR hfull hx hX h1 hm hb hb2 fun g cap' w' h2 h3 h4 => hK _ _ (h g cap' w' h2 h3 h4)
theorem step_append_copy {ops : Array Oper} {o : Oper} {a : Act} {K : Act → World → Prop} {Q : Exit → Act → World → Prop} {E : Prop} (hgd : o.guard = none) (s x : Operand)
    (ho : o.op = .call { callee := .builtin .append, args := #[s, x], argTypes := #[t, t] })
    (ht : P.underlying t = some (.slice e)) (hi : P.info? e = some i) (hz : i.zero = some z) (hs : i.size = 1) (hby : i.bytes = bytes) (hzc : z.cells.size = 1)
    {B B' n cap m c : Nat} {ao ax : Option Addr} {olds news : List Value} (hv : a.eval s = .slice ao n cap) (hR : Rd B w ao n cap 1 olds) (hfull : cap = n) (hx : a.eval x = .slice ax m c) (hX : Rd B' w ax m c 1 news) (h1 : ∀ u ∈ news, u.oneCell' = true) (hm : 0 < m) (hb : n + m ≤ 1000000) (hb2 : bytes ≤ 1000)
    (h : ∀ g cap' w', w.heap.size ≤ g → Below w.heap.size w w' → Rd w'.heap.size w' (some ⟨g, 0, none⟩) (n + m) cap' 1 (olds ++ news) → K (a.put o.dst (.slice (some ⟨g, 0, none⟩) (n + m) cap')) w') :
    if Region.wanted o (yielded ops a.tmps) = true then Oper.wp P o a w K Q else E := by
  have hw : Region.wanted o (yielded ops a.tmps) = true := by simp [Region.wanted, hgd]
  rw [if_pos hw]
  exact wp_append_copy s x ho ht hi hz hs hby hzc hv hR hfull hx hX h1 hm hb hb2 h
end
end Go.Proofs.Ytemkpecagflafaa
