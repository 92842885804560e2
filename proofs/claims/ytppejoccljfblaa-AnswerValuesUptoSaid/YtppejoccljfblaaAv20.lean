/-
  'append' of a struct to a slice of the call's own, where the struct is laid behind the append (a zero first, then the struct's cells). Plain lemmas. No condition.
-/
import Derived.Test.YtppejoccljfblaaAv1
import Derived.Deep.MidRow
import Derived.TacticsInMore
import Derived.OwnWalkIn
namespace Go.Proofs.Ytppejoccljfblaa
open Go.RowKit

theorem All2.snoc {α β : Type} {R : α → β → Prop} {l : List α} {a : α} {m : List β} (h : All2 R (l ++ [a]) m) : ∃ m0 b, m = m0 ++ [b] ∧ All2 R l m0 ∧ R a b := by
  induction l generalizing m with
  | nil =>
    cases h with
    | cons h t => cases t; exact ⟨[], _, rfl, .nil, h⟩
  | cons x l ih =>
    cases h with
    | cons h t =>
      obtain ⟨m0, b, rfl, h1, h2⟩ := ih t
      exact ⟨_ :: m0, b, rfl, .cons h h1, h2⟩
theorem setCells_size (b : Nat) : ∀ (vs : List Value) (o : Nat) (w : World), (w.setCells b o vs).heap.size = w.heap.size
  | [], _, _ => rfl
  | v :: r, o, w => by rw [World.setCells, setCells_size b r]; simp [World.setCell]
theorem setCells_other (b : Nat) : ∀ (vs : List Value) (o : Nat) (w : World) (k : Nat), k ≠ b → (w.setCells b o vs).heap[k]? = w.heap[k]?
  | [], _, _, _, _ => rfl
  | v :: r, o, w, k, h => by rw [World.setCells, setCells_other b r (o + 1) _ k h, heap_setCell_other w ⟨b, o, none⟩ k v h]
theorem setCells_same (b : Nat) (e : TypeId) : ∀ (vs : List Value) (o : Nat) (w : World) (cur : Array Value), w.heap[b]? = some (.cells cur e (0, 0)) → o + vs.length ≤ cur.size →
    ∃ cur', (w.setCells b o vs).heap[b]? = some (.cells cur' e (0, 0)) ∧ cur'.size = cur.size ∧ cur'.toList.take (o + vs.length) = cur.toList.take o ++ vs
  | [], o, w, cur, h, _ => ⟨cur, h, rfl, by simp⟩
  | v :: r, o, w, cur, h, hl => by
    have hl' : o + 1 + r.length ≤ (cur.setIfInBounds o v).size := by simp at hl ⊢; omega
    obtain ⟨cur', h1, h2, h3⟩ := setCells_same b e r (o + 1) (w.setCell ⟨b, o, none⟩ v) _ (heap_setCell_same w b o cur e v h) hl'
    refine ⟨cur', h1, by rw [h2]; simp, ?_⟩
    have ho : o < cur.toList.length := by simp at hl ⊢; omega
    rw [List.length_cons, show o + (r.length + 1) = o + 1 + r.length by omega, h3, Array.toList_setIfInBounds, List.take_add_one, List.take_set_of_le (Nat.le_refl _), List.getElem?_set_self ho]
    simp
theorem setCells_setCell (b o : Nat) (v : Value) (w : World) : w.setCells b o [v] = w.setCell ⟨b, o, none⟩ v := rfl

/-- The zero's row. -/
def zrow (zc : Array Value) : List At := zc.toList.map At.v
theorem mem_zero {B base : Nat} {e' : TypeId} {w : World} {y : Value} {sz : Nat} (zc : Array Value) (hz : zc.size = sz) (h1 : zc.all (·.oneCell') = true) (hlt : ∀ k, y.ownBlock = some k → k < w.heap.size) (hs : base ≤ w.heap.size) :
    Mem (fun b => Nw B base (w.alloc (.cells zc e')).heap.size b ∧ y.ownBlock ≠ some b) (w.alloc (.cells zc e')) (.s sz [zrow zc]) (.slice (some ⟨w.heap.size, 0, none⟩) 1 1) := by
  have hb := Bo.new w e' zc
  refine .s w.heap.size 0 1 1 sz _ (fun _ j => (zc[j]?).getD undef) rfl (Nat.le_refl _) (by decide) ⟨⟨.inr hs, by rw [World.size_alloc]; omega⟩, fun e => by have := hlt _ e; omega⟩ (fun i hi => ?_) (fun i j hi hj => ?_) (fun i j hi hj => ?_)
  · obtain rfl : i = 0 := by simpa using hi
    simp [zrow, hz]
  · obtain rfl : i = 0 := by omega
    simp only [Nat.zero_mul, Nat.zero_add]
    refine hb.cell ?_
    rw [Array.getElem?_eq_getElem (by omega)]; rfl
  · obtain rfl : i = 0 := by simpa using hi
    have hj' : j < zc.size := by simpa [zrow] using hj
    have e : ([zrow zc][0])[j] = At.v (zc[j]) := by simp [zrow]
    rw [e, Array.getElem?_eq_getElem hj']
    exact .v _ (Array.all_eq_true.1 h1 j hj')

theorem setCell_comm (w : World) (g o G : Nat) (u v : Value) (h : g ≠ G) : (w.setCell ⟨G, 0, none⟩ v).setCell ⟨g, o, none⟩ u = (w.setCell ⟨g, o, none⟩ u).setCell ⟨G, 0, none⟩ v := by
  unfold World.setCell
  congr 1
  refine Array.ext_getElem? fun k => ?_
  simp only [Array.getElem?_modify]
  by_cases h1 : g = k
  · subst h1
    rw [if_pos rfl, if_neg (fun e => h e.symm), if_neg (fun e => h e.symm), if_pos rfl]
  · rw [if_neg h1]
    by_cases h2 : G = k
    · subst h2; rw [if_pos rfl, if_pos rfl, if_neg h1]
    · rw [if_neg h2, if_neg h2, if_neg h1]
theorem setCells_comm (g G : Nat) (v : Value) (h : g ≠ G) : ∀ (vs : List Value) (o : Nat) (w : World), (w.setCell ⟨G, 0, none⟩ v).setCells g o vs = (w.setCells g o vs).setCell ⟨G, 0, none⟩ v
  | [], _, _ => rfl
  | u :: r, o, w => by rw [World.setCells, World.setCells, setCell_comm w g o G u v h, setCells_comm g G v h r]
theorem there_far {w : World} {g o n G : Nat} (v : Value) (h : w.there g o n) (hg : g ≠ G) : (w.setCell ⟨G, 0, none⟩ v).there g o n := fun j hj => by
  obtain ⟨h1, h2⟩ := h j hj
  rw [cell_set_far w G 0 (o + j) g v hg, World.frozen?_setCell]
  exact ⟨h1, h2⟩

section
variable {P : Program} {w : World} {t e : TypeId} {z : Value} {sz bytes : Nat}
/-- A zero is appended, and the struct's cells are stored there. -/
theorem append_last (ty e' : TypeId) {B base : Nat} (ht : P.underlying t = some (.slice e)) (hinfo : (P.info? e).map (fun i => (i.zero, i.size, i.bytes)) = some (some z, sz, bytes)) (hz : z.cells.size = sz) (hsz : 0 < sz)
    (zc : Array Value) (hzc : zc.size = sz) (hz1 : zc.all (·.oneCell') = true)
    {y : Value} {rs : List (List At)} {x : List At} {cs : Array Value} (h : OwnD B base e sz w y rs) (hx : All2 (Mem (fun b => Nw B base w.heap.size b ∧ y.ownBlock ≠ some b) w) x cs.toList) (hcs : cs.size = sz)
    (hby : (rs.length + 1) * bytes ≤ 140737488355328) (hbl : rs.length + 1 ≤ 4611686018427387904) (hbase : base ≤ w.heap.size) :
    ∃ g cap w1, (Builtin.append_ #[t, t] ty #[y, .slice (some ⟨w.heap.size, 0, none⟩) 1 1]).run P (w.alloc (.cells zc e')) = .ok (.slice (some ⟨g, 0, none⟩) (rs.length + 1) cap) w1 ∧
      rs.length + 1 ≤ cap ∧ cap ≤ 9223372036854775807 ∧ g < w1.heap.size ∧ w1.there g (rs.length * sz) sz ∧
      OwnD B base e sz (w1.setCells g (rs.length * sz) cs.toList) (.slice (some ⟨g, 0, none⟩) (rs.length + 1) cap) (rs ++ [x]) ∧
      w.grownBy (w1.setCells g (rs.length * sz) cs.toList) y.ownBlock ∧ (y.ownBlock = some g ∨ w.heap.size ≤ g) ∧ w.heap.size ≤ w1.heap.size ∧ (∀ k, k < w.heap.size → y.ownBlock ≠ some k → w1.heap[k]? = w.heap[k]?) := by
  have hcl : cs.toList.length = sz := by rw [Array.length_toList, hcs]
  have hM := mem_zero (B := B) (base := base) (e' := e') (y := y) zc hzc hz1 (fun k hk => (h.lt k hk).2) hbase
  obtain ⟨v', w1, hr, hO, hg, hy⟩ := run_append_D2 (P := P) (t := t) (e := e) ty ht hinfo hz hsz (h.alloc (.cells zc e')) hM hby hbl (by rw [World.size_alloc]; omega)
  obtain ⟨css, h1, h2⟩ := hO
  obtain ⟨css0, z0, rfl, h3, h4⟩ := h2.snoc
  have hsw : w.heap.size + 1 ≤ w1.heap.size := by have := hg.size; rw [World.size_alloc] at this; exact this
  have hblk : ∀ k, k < w.heap.size → y.ownBlock ≠ some k → w1.heap[k]? = w.heap[k]? := fun k hk hyk => (hg.block k (by rw [World.size_alloc]; omega) (fun e => hyk e.symm)).trans ((below_new w _).block k hk)
  rcases h1.2 with ⟨rfl, hn⟩ | ⟨g, cap, cur, rfl, hb, hgg, hncap, hcap, hsz', htake⟩
  · simp at hn
  · have hlen0 : css0.flatten.length = rs.length * sz := by
      rw [flat_len sz css0 (fun cs hcs => by
        obtain ⟨i, hi, rfl⟩ := List.getElem_of_mem hcs
        exact (h3.at i (by have := h3.len; omega) hi).1), h3.len]
    have hll : (rs ++ [zrow zc]).length = rs.length + 1 := by simp
    rw [hll] at hncap htake hr h1 hy
    have hroom : rs.length * sz + cs.toList.length ≤ cur.size := by
      rw [hsz', hcl]
      have := Nat.mul_le_mul_right sz hncap
      rw [Nat.succ_mul] at this; exact this
    have hgy : y.ownBlock = some g ∨ w.heap.size ≤ g := by
      rcases hy with hy | hy
      · exact .inl hy.symm
      · have := hy g rfl
        rw [World.size_alloc] at this; omega
    have htake0 : cur.toList.take (rs.length * sz) = css0.flatten := by
      have e1 : cur.toList.take (rs.length * sz) = (cur.toList.take ((rs.length + 1) * sz)).take (rs.length * sz) := by
        rw [List.take_take, Nat.min_eq_left (by rw [Nat.succ_mul]; omega)]
      rw [e1, htake, List.flatten_append, List.take_left' hlen0]
    have hglt : g < w1.heap.size := (Array.getElem?_eq_some_iff.1 hgg).1
    obtain ⟨cur', k1, k2, k3⟩ := setCells_same g e cs.toList (rs.length * sz) w1 cur hgg hroom
    refine ⟨g, cap, w1, hr, hncap, by simpa [maxLen] using hcap, hglt, fun j hj => ?_, ?_, ?_, hgy, by omega, hblk⟩
    · have hj2 : rs.length * sz + j < cur.size := by omega
      exact ⟨by rw [cell_of_row w1 g _ cur e (0, 0) hgg, Array.getElem?_eq_getElem hj2]; rfl, frozen_of_row w1 g _ cur e hgg⟩
    · have hown : ∀ b, (Value.slice (some ⟨g, 0, none⟩) (rs.length + 1) cap).ownBlock ≠ some b → b ≠ g := fun b hb e => hb (by rw [e]; rfl)
      refine ⟨css0 ++ [cs.toList], ⟨?_, .inr ⟨g, cap, cur', ?_, hb, k1, ?_, hcap, ?_, ?_⟩⟩, All2.app (h3.imp fun r c ⟨hc, hm⟩ => ⟨hc, hm.imp fun a b hab => hab.mono (fun k hk => ⟨⟨hk.1.1, by rw [setCells_size]; exact hk.1.2⟩, hk.2⟩) fun k hk => setCells_other g _ _ _ k (hown k hk.2)⟩) (.cons ⟨hcl, hx.imp fun a b hab => hab.mono (fun k hk => ⟨⟨hk.1.1, by rw [setCells_size]; have := hk.1.2; omega⟩, fun e => ?_⟩) fun k hk => ?_⟩ .nil)⟩
      · simp only [List.flatten_append, List.length_append, hlen0, List.flatten_cons, List.flatten_nil, List.append_nil, hcl, List.length_cons, List.length_nil]
        rw [Nat.zero_add, Nat.succ_mul]
      · simp
      · simpa using hncap
      · rw [k2, hsz']
      · have e1 : (rs ++ [x]).length * sz = rs.length * sz + cs.toList.length := by
          rw [List.length_append, List.length_cons, List.length_nil, Nat.zero_add, Nat.succ_mul, hcl]
        rw [e1, k3, htake0, List.flatten_append]; simp
      · have hkg : g = k := by simpa [Value.ownBlock] using e
        subst hkg
        rcases hgy with h5 | h5
        · exact hk.2 h5
        · have := hk.1.2; omega
      · have hkg : k ≠ g := fun e => by
          subst e
          rcases hgy with h5 | h5
          · exact hk.2 h5
          · have := hk.1.2; omega
        rw [setCells_other g _ _ _ k hkg]
        exact hblk k hk.1.2 hk.2
    · have hos : ∀ (vs : List Value) (o : Nat) (w : World), (w.setCells g o vs).os = w.os ∧ (w.setCells g o vs).tape = w.tape ∧ (w.setCells g o vs).output = w.output := by
        intro vs
        induction vs with
        | nil => intro o w; exact ⟨rfl, rfl, rfl⟩
        | cons v vs ih => intro o w; exact ih (o + 1) (w.setCell ⟨g, o, none⟩ v)
      obtain ⟨o1, o2, o3⟩ := hos cs.toList (rs.length * sz) w1
      refine ⟨o1.trans hg.os, o2.trans hg.tape, o3.trans hg.output, by rw [setCells_size]; omega, fun k hk hne => ?_⟩
      have hkg : k ≠ g := fun e => by
        subst e
        rcases hgy with h5 | h5
        · exact hne h5.symm
        · omega
      rw [setCells_other g _ _ _ k hkg]
      exact hblk k hk (fun e => hne e.symm)
/-- An operation whose run is known. -/
theorem wpIn_ran {F : Fence} {n : Nat} {o : Oper} {a : Act} {K : Act → World → Prop} {Q : Exit → Act → World → Prop} (s x : Operand)
    (ho : o.op = .call { callee := .builtin .append, args := #[s, x], argTypes := #[t, t] }) {y u v' : Value} {w' : World} (hs : a.eval s = y) (hx : a.eval x = u) (hr : (Builtin.append_ #[t, t] o.type #[y, u]).run P w = .ok v' w')
    (hK : K (a.put o.dst v') w') : o.wpIn F n P a w K Q := by
  unfold Oper.wpIn
  refine ⟨?_, ?_⟩
  · simp [Oper.about, ho, resolve, Target.leads, Sem.run_pure]
  · rw [Oper.semAt_plain F _ _ (by rw [ho]; intro c hc'; cases hc')]
    simp [execOp, ho, resolve, invoke, builtin, hs, hx, hr, Result.andThen]
    exact hK
theorem wpIn_index {F : Fence} {n : Nat} {o : Oper} {a : Act} {K : Act → World → Prop} {Q : Exit → Act → World → Prop} (s x : Operand)
    (ho : o.op = .indexAddr t s x) (ht : P.underlying t = some (.slice e)) (hi : (P.info? e).map (·.size) = some sz) {g cap m : Nat} {k : Nat} (hs : a.eval s = .slice (some ⟨g, 0, none⟩) m cap) (hx : a.eval x = .int .i64 k) (hk : k < m)
    (hK : K (a.put o.dst (.pointer (some ⟨g, k * sz, none⟩))) w) : o.wpIn F n P a w K Q := by
  unfold Oper.wpIn
  refine ⟨?_, ?_⟩
  · simp [Oper.about, ho]
  · rw [Oper.semAt_plain F _ _ (by rw [ho]; intro c hc'; cases hc')]
    have hel : P.elem t = e := by simp [Program.elem, ht]
    have hsz : (sizeOf e).run P w = .ok sz w := by
      cases hq : P.info? e with
      | none => simp [hq] at hi
      | some i => simp [hq] at hi; simp [sizeOf, typeInfo, hq, hi]
    have hadd : (⟨g, 0, none⟩ : Addr).add (k * sz) = ⟨g, k * sz, none⟩ := by unfold Addr.add; split <;> simp_all
    have hr : (execOp a.eval o).run P w = .ok (.value (.pointer (some ⟨g, k * sz, none⟩))) w := by
      have h0 := run_indexAt_slice (P := P) (w := w) t ⟨g, 0, none⟩ m cap .i64 k (by rw [hel]; exact ht)
      unfold execOp
      simp only [ho, hs, hx, Sem.run_bind, h0]
      rw [if_pos ⟨by omega, by omega⟩]
      simp [hel, hsz, hadd, Result.andThen]
    rw [hr]
    exact hK
theorem wpIn_storeMid {F : Fence} {n : Nat} {o : Oper} {a : Act} {K : Act → World → Prop} {Q : Exit → Act → World → Prop} (ty : TypeId) (x y : Operand) (ho : o.op = .store ty x y)
    {b q : Nat} {cells : Array Value} (hx : a.eval x = .pointer (some ⟨b, q, none⟩)) (hy : a.eval y = .agg cells)
    (ht : w.there b q cells.size) (hi : (P.info? ty).map (·.size) = some cells.size) (h1 : cells.all (·.oneCell') = true)
    (hK : K (a.put o.dst undef) (w.setCells b q cells.toList)) : o.wpIn F n P a w K Q := by
  unfold Oper.wpIn
  refine ⟨?_, ?_⟩
  · simp [Oper.about, ho]
  · rw [Oper.semAt_plain F _ _ (by rw [ho]; intro c hc'; cases hc')]
    unfold execOp
    simp only [ho, hx, hy, Instr.storeAt, Instr.sureAddr, Sem.run_bind, Sem.run_pure, Result.andThen_ok, run_storeVar_mid w b q ty cells ht hi h1]
    exact hK
/-- An operation whose run is known, in a list of operations. -/
theorem wpListIn_ran {F : Fence} {n : Nat} {ops : Array Oper} {rest : List Oper} {o : Oper} {a : Act} {Q : Exit → Act → World → Prop} (hg : o.guard = none) (s x : Operand)
    (ho : o.op = .call { callee := .builtin .append, args := #[s, x], argTypes := #[t, t] }) {y u v' : Value} {w' : World} (hs : a.eval s = y) (hx : a.eval x = u) (hr : (Builtin.append_ #[t, t] o.type #[y, u]).run P w = .ok v' w')
    (hK : wpListIn F n P ops Q rest (a.put o.dst v') w') : wpListIn F n P ops Q (o :: rest) a w := by
  refine wpListIn_plain hg fun K hK' => ?_
  unfold Oper.wpIn
  refine ⟨?_, ?_⟩
  · simp [Oper.about, ho, resolve, Target.leads, Sem.run_pure]
  · rw [Oper.semAt_plain F _ _ (by rw [ho]; intro c hc'; cases hc')]
    simp [execOp, ho, resolve, invoke, builtin, hs, hx, hr, Result.andThen]
    exact hK' _ _ hK
theorem wpListIn_index {F : Fence} {n : Nat} {ops : Array Oper} {rest : List Oper} {o : Oper} {a : Act} {Q : Exit → Act → World → Prop} (hg : o.guard = none) (s x : Operand)
    (ho : o.op = .indexAddr t s x) (ht : P.underlying t = some (.slice e)) (hi : (P.info? e).map (·.size) = some sz) {g cap m : Nat} {k : Nat} (hs : a.eval s = .slice (some ⟨g, 0, none⟩) m cap) (hx : a.eval x = .int .i64 k) (hk : k < m)
    (hK : wpListIn F n P ops Q rest (a.put o.dst (.pointer (some ⟨g, k * sz, none⟩))) w) : wpListIn F n P ops Q (o :: rest) a w := by
  refine wpListIn_plain hg fun K hK' => ?_
  unfold Oper.wpIn
  refine ⟨?_, ?_⟩
  · simp [Oper.about, ho]
  · rw [Oper.semAt_plain F _ _ (by rw [ho]; intro c hc'; cases hc')]
    have hel : P.elem t = e := by simp [Program.elem, ht]
    have hsz : (sizeOf e).run P w = .ok sz w := by
      cases hq : P.info? e with
      | none => simp [hq] at hi
      | some i => simp [hq] at hi; simp [sizeOf, typeInfo, hq, hi]
    have hadd : (⟨g, 0, none⟩ : Addr).add (k * sz) = ⟨g, k * sz, none⟩ := by unfold Addr.add; split <;> simp_all
    have hr : (execOp a.eval o).run P w = .ok (.value (.pointer (some ⟨g, k * sz, none⟩))) w := by
      have h0 := run_indexAt_slice (P := P) (w := w) t ⟨g, 0, none⟩ m cap .i64 k (by rw [hel]; exact ht)
      unfold execOp
      simp only [ho, hs, hx, Sem.run_bind, h0]
      rw [if_pos ⟨by omega, by omega⟩]
      simp [hel, hsz, hadd, Result.andThen]
    rw [hr]
    exact hK' _ _ hK
theorem wpListIn_storeMid {F : Fence} {n : Nat} {ops : Array Oper} {rest : List Oper} {o : Oper} {a : Act} {Q : Exit → Act → World → Prop} (hg : o.guard = none) (ty : TypeId) (x y : Operand) (ho : o.op = .store ty x y)
    {b q : Nat} {cells : Array Value} (hx : a.eval x = .pointer (some ⟨b, q, none⟩)) (hy : a.eval y = .agg cells)
    (ht : w.there b q cells.size) (hi : (P.info? ty).map (·.size) = some cells.size) (h1 : cells.all (·.oneCell') = true)
    (hK : wpListIn F n P ops Q rest (a.put o.dst undef) (w.setCells b q cells.toList)) : wpListIn F n P ops Q (o :: rest) a w := by
  refine wpListIn_plain hg fun K hK' => ?_
  unfold Oper.wpIn
  refine ⟨?_, ?_⟩
  · simp [Oper.about, ho]
  · rw [Oper.semAt_plain F _ _ (by rw [ho]; intro c hc'; cases hc')]
    unfold execOp
    simp only [ho, hx, hy, Instr.storeAt, Instr.sureAddr, Sem.run_bind, Sem.run_pure, Result.andThen_ok, run_storeVar_mid w b q ty cells ht hi h1]
    exact hK' _ _ hK
end
end Go.Proofs.Ytppejoccljfblaa
