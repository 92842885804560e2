/-
  Stores of a whole block of eleven cells: the short words. Plain lemmas. No condition.
-/
import Derived.Test.YtcoiagfeoonpbaaMt10
import Derived.Test.YtcoiagfeoonpbaaMt11
import Derived.Test.YtcoiagfeoonpbaaMt9
namespace Go.Proofs.Ytcoiagfeoonpbaa
open Go.RowKit
set_option maxRecDepth 100000
section
variable {w w' a : World} {q g j B : Nat} {t : TypeId}
theorem Bo.set11 {a0 a1 a2 a3 a4 a5 a6 a7 a8 a9 a10 : Value} {v0 v1 v2 v3 v4 v5 v6 v7 v8 v9 v10 : Value} (h : Bo w q t #[a0, a1, a2, a3, a4, a5, a6, a7, a8, a9, a10]) (e : (((((((((((w.setCell ⟨q, 0, none⟩ v0).setCell ⟨q, 1, none⟩ v1).setCell ⟨q, 2, none⟩ v2).setCell ⟨q, 3, none⟩ v3).setCell ⟨q, 4, none⟩ v4).setCell ⟨q, 5, none⟩ v5).setCell ⟨q, 6, none⟩ v6).setCell ⟨q, 7, none⟩ v7).setCell ⟨q, 8, none⟩ v8).setCell ⟨q, 9, none⟩ v9).setCell ⟨q, 10, none⟩ v10) = w') : Bo w' q t #[v0, v1, v2, v3, v4, v5, v6, v7, v8, v9, v10] := by
  have h0 : Bo (w.setCell ⟨q, 0, none⟩ v0) q t #[v0, a1, a2, a3, a4, a5, a6, a7, a8, a9, a10] := h.set 0 v0
  have h1 : Bo ((w.setCell ⟨q, 0, none⟩ v0).setCell ⟨q, 1, none⟩ v1) q t #[v0, v1, a2, a3, a4, a5, a6, a7, a8, a9, a10] := h0.set 1 v1
  have h2 : Bo (((w.setCell ⟨q, 0, none⟩ v0).setCell ⟨q, 1, none⟩ v1).setCell ⟨q, 2, none⟩ v2) q t #[v0, v1, v2, a3, a4, a5, a6, a7, a8, a9, a10] := h1.set 2 v2
  have h3 : Bo ((((w.setCell ⟨q, 0, none⟩ v0).setCell ⟨q, 1, none⟩ v1).setCell ⟨q, 2, none⟩ v2).setCell ⟨q, 3, none⟩ v3) q t #[v0, v1, v2, v3, a4, a5, a6, a7, a8, a9, a10] := h2.set 3 v3
  have h4 : Bo (((((w.setCell ⟨q, 0, none⟩ v0).setCell ⟨q, 1, none⟩ v1).setCell ⟨q, 2, none⟩ v2).setCell ⟨q, 3, none⟩ v3).setCell ⟨q, 4, none⟩ v4) q t #[v0, v1, v2, v3, v4, a5, a6, a7, a8, a9, a10] := h3.set 4 v4
  have h5 : Bo ((((((w.setCell ⟨q, 0, none⟩ v0).setCell ⟨q, 1, none⟩ v1).setCell ⟨q, 2, none⟩ v2).setCell ⟨q, 3, none⟩ v3).setCell ⟨q, 4, none⟩ v4).setCell ⟨q, 5, none⟩ v5) q t #[v0, v1, v2, v3, v4, v5, a6, a7, a8, a9, a10] := h4.set 5 v5
  have h6 : Bo (((((((w.setCell ⟨q, 0, none⟩ v0).setCell ⟨q, 1, none⟩ v1).setCell ⟨q, 2, none⟩ v2).setCell ⟨q, 3, none⟩ v3).setCell ⟨q, 4, none⟩ v4).setCell ⟨q, 5, none⟩ v5).setCell ⟨q, 6, none⟩ v6) q t #[v0, v1, v2, v3, v4, v5, v6, a7, a8, a9, a10] := h5.set 6 v6
  have h7 : Bo ((((((((w.setCell ⟨q, 0, none⟩ v0).setCell ⟨q, 1, none⟩ v1).setCell ⟨q, 2, none⟩ v2).setCell ⟨q, 3, none⟩ v3).setCell ⟨q, 4, none⟩ v4).setCell ⟨q, 5, none⟩ v5).setCell ⟨q, 6, none⟩ v6).setCell ⟨q, 7, none⟩ v7) q t #[v0, v1, v2, v3, v4, v5, v6, v7, a8, a9, a10] := h6.set 7 v7
  have h8 : Bo (((((((((w.setCell ⟨q, 0, none⟩ v0).setCell ⟨q, 1, none⟩ v1).setCell ⟨q, 2, none⟩ v2).setCell ⟨q, 3, none⟩ v3).setCell ⟨q, 4, none⟩ v4).setCell ⟨q, 5, none⟩ v5).setCell ⟨q, 6, none⟩ v6).setCell ⟨q, 7, none⟩ v7).setCell ⟨q, 8, none⟩ v8) q t #[v0, v1, v2, v3, v4, v5, v6, v7, v8, a9, a10] := h7.set 8 v8
  have h9 : Bo ((((((((((w.setCell ⟨q, 0, none⟩ v0).setCell ⟨q, 1, none⟩ v1).setCell ⟨q, 2, none⟩ v2).setCell ⟨q, 3, none⟩ v3).setCell ⟨q, 4, none⟩ v4).setCell ⟨q, 5, none⟩ v5).setCell ⟨q, 6, none⟩ v6).setCell ⟨q, 7, none⟩ v7).setCell ⟨q, 8, none⟩ v8).setCell ⟨q, 9, none⟩ v9) q t #[v0, v1, v2, v3, v4, v5, v6, v7, v8, v9, a10] := h8.set 9 v9
  have h10 : Bo (((((((((((w.setCell ⟨q, 0, none⟩ v0).setCell ⟨q, 1, none⟩ v1).setCell ⟨q, 2, none⟩ v2).setCell ⟨q, 3, none⟩ v3).setCell ⟨q, 4, none⟩ v4).setCell ⟨q, 5, none⟩ v5).setCell ⟨q, 6, none⟩ v6).setCell ⟨q, 7, none⟩ v7).setCell ⟨q, 8, none⟩ v8).setCell ⟨q, 9, none⟩ v9).setCell ⟨q, 10, none⟩ v10) q t #[v0, v1, v2, v3, v4, v5, v6, v7, v8, v9, v10] := h9.set 10 v10
  rw [← e]
  exact h10
set_option maxHeartbeats 4000000 in
theorem Bo.far11 {cs : Array Value} {v0 v1 v2 v3 v4 v5 v6 v7 v8 v9 v10 : Value} (h : Bo w q t cs) (e : (((((((((((w.setCell ⟨g, 0, none⟩ v0).setCell ⟨g, 1, none⟩ v1).setCell ⟨g, 2, none⟩ v2).setCell ⟨g, 3, none⟩ v3).setCell ⟨g, 4, none⟩ v4).setCell ⟨g, 5, none⟩ v5).setCell ⟨g, 6, none⟩ v6).setCell ⟨g, 7, none⟩ v7).setCell ⟨g, 8, none⟩ v8).setCell ⟨g, 9, none⟩ v9).setCell ⟨g, 10, none⟩ v10) = w') (hg : q ≠ g) : Bo w' q t cs := e ▸ (((((((((((h.far 0 v0 hg).far 1 v1 hg).far 2 v2 hg).far 3 v3 hg).far 4 v4 hg).far 5 v5 hg).far 6 v6 hg).far 7 v7 hg).far 8 v8 hg).far 9 v9 hg).far 10 v10 hg)
set_option maxHeartbeats 4000000 in
theorem FarB.setN11  {v0 v1 v2 v3 v4 v5 v6 v7 v8 v9 v10 : Value} (h : FarB q B a w) (e : (((((((((((w.setCell ⟨g, 0, none⟩ v0).setCell ⟨g, 1, none⟩ v1).setCell ⟨g, 2, none⟩ v2).setCell ⟨g, 3, none⟩ v3).setCell ⟨g, 4, none⟩ v4).setCell ⟨g, 5, none⟩ v5).setCell ⟨g, 6, none⟩ v6).setCell ⟨g, 7, none⟩ v7).setCell ⟨g, 8, none⟩ v8).setCell ⟨g, 9, none⟩ v9).setCell ⟨g, 10, none⟩ v10) = w') (hg : B ≤ g) : FarB q B a w' := e ▸ (((((((((((h.setN hg 0 v0).setN hg 1 v1).setN hg 2 v2).setN hg 3 v3).setN hg 4 v4).setN hg 5 v5).setN hg 6 v6).setN hg 7 v7).setN hg 8 v8).setN hg 9 v9).setN hg 10 v10)
set_option maxHeartbeats 4000000 in
theorem sizeS11 {v0 v1 v2 v3 v4 v5 v6 v7 v8 v9 v10 : Value} (e : (((((((((((w.setCell ⟨g, 0, none⟩ v0).setCell ⟨g, 1, none⟩ v1).setCell ⟨g, 2, none⟩ v2).setCell ⟨g, 3, none⟩ v3).setCell ⟨g, 4, none⟩ v4).setCell ⟨g, 5, none⟩ v5).setCell ⟨g, 6, none⟩ v6).setCell ⟨g, 7, none⟩ v7).setCell ⟨g, 8, none⟩ v8).setCell ⟨g, 9, none⟩ v9).setCell ⟨g, 10, none⟩ v10) = w') : w'.heap.size = w.heap.size := by rw [← e]; simp only [World.setCell, Array.size_modify]
set_option maxHeartbeats 4000000 in
theorem bF11 {cs : Array Value} {v0 v1 v2 v3 v4 v5 v6 v7 v8 v9 v10 : Value} (h : Hid (Bo w q t cs)) (e : (((((((((((w.setCell ⟨g, 0, none⟩ v0).setCell ⟨g, 1, none⟩ v1).setCell ⟨g, 2, none⟩ v2).setCell ⟨g, 3, none⟩ v3).setCell ⟨g, 4, none⟩ v4).setCell ⟨g, 5, none⟩ v5).setCell ⟨g, 6, none⟩ v6).setCell ⟨g, 7, none⟩ v7).setCell ⟨g, 8, none⟩ v8).setCell ⟨g, 9, none⟩ v9).setCell ⟨g, 10, none⟩ v10) = w') (hg : q ≠ g := by omega) : Hid (Bo w' q t cs) := Lib.hid (h.out.far11 e hg)
set_option maxHeartbeats 4000000 in
theorem fN11  {v0 v1 v2 v3 v4 v5 v6 v7 v8 v9 v10 : Value} (h : Hid (FarB q B a w)) (e : (((((((((((w.setCell ⟨g, 0, none⟩ v0).setCell ⟨g, 1, none⟩ v1).setCell ⟨g, 2, none⟩ v2).setCell ⟨g, 3, none⟩ v3).setCell ⟨g, 4, none⟩ v4).setCell ⟨g, 5, none⟩ v5).setCell ⟨g, 6, none⟩ v6).setCell ⟨g, 7, none⟩ v7).setCell ⟨g, 8, none⟩ v8).setCell ⟨g, 9, none⟩ v9).setCell ⟨g, 10, none⟩ v10) = w') (hg : B ≤ g := by omega) : Hid (FarB q B a w') := Lib.hid (h.out.setN11 e hg)
set_option maxHeartbeats 4000000 in
theorem bS11 {a0 a1 a2 a3 a4 a5 a6 a7 a8 a9 a10 : Value} {v0 v1 v2 v3 v4 v5 v6 v7 v8 v9 v10 : Value} (h : Hid (Bo w q t #[a0, a1, a2, a3, a4, a5, a6, a7, a8, a9, a10])) (e : (((((((((((w.setCell ⟨q, 0, none⟩ v0).setCell ⟨q, 1, none⟩ v1).setCell ⟨q, 2, none⟩ v2).setCell ⟨q, 3, none⟩ v3).setCell ⟨q, 4, none⟩ v4).setCell ⟨q, 5, none⟩ v5).setCell ⟨q, 6, none⟩ v6).setCell ⟨q, 7, none⟩ v7).setCell ⟨q, 8, none⟩ v8).setCell ⟨q, 9, none⟩ v9).setCell ⟨q, 10, none⟩ v10) = w') : Hid (Bo w' q t #[v0, v1, v2, v3, v4, v5, v6, v7, v8, v9, v10]) := Lib.hid (h.out.set11 e)
end
section
variable {w w' : World} {g : Nat} {A : Nat → Prop}
set_option maxHeartbeats 4000000 in
theorem rpO11 {ts : List Tk} {aL : Option Addr} {n cap q : Nat} {s : MS} {d : Int} {v0 v1 v2 v3 v4 v5 v6 v7 v8 v9 v10 : Value} (h : Hid (RS ts aL n cap q s d w)) (e : (((((((((((w.setCell ⟨g, 0, none⟩ v0).setCell ⟨g, 1, none⟩ v1).setCell ⟨g, 2, none⟩ v2).setCell ⟨g, 3, none⟩ v3).setCell ⟨g, 4, none⟩ v4).setCell ⟨g, 5, none⟩ v5).setCell ⟨g, 6, none⟩ v6).setCell ⟨g, 7, none⟩ v7).setCell ⟨g, 8, none⟩ v8).setCell ⟨g, 9, none⟩ v9).setCell ⟨g, 10, none⟩ v10) = w') (hg : q < g := by omega) : Hid (RS ts aL n cap q s d w') := Lib.hid (e ▸ (((((((((((h.out.off hg 0 v0).off hg 1 v1).off hg 2 v2).off hg 3 v3).off hg 4 v4).off hg 5 v5).off hg 6 v6).off hg 7 v7).off hg 8 v8).off hg 9 v9).off hg 10 v10))
set_option maxHeartbeats 4000000 in
theorem yS11 {x : At} {y : Value} {v0 v1 v2 v3 v4 v5 v6 v7 v8 v9 v10 : Value} (h : Hid (Mem (NwS A w.heap.size) w x y)) (e : (((((((((((w.setCell ⟨g, 0, none⟩ v0).setCell ⟨g, 1, none⟩ v1).setCell ⟨g, 2, none⟩ v2).setCell ⟨g, 3, none⟩ v3).setCell ⟨g, 4, none⟩ v4).setCell ⟨g, 5, none⟩ v5).setCell ⟨g, 6, none⟩ v6).setCell ⟨g, 7, none⟩ v7).setCell ⟨g, 8, none⟩ v8).setCell ⟨g, 9, none⟩ v9).setCell ⟨g, 10, none⟩ v10) = w') (hg : ¬ A g := by first | (unfold Av; omega) | (unfold Bt; omega)) : Hid (Mem (NwS A w'.heap.size) w' x y) := Lib.hid (e ▸ (memS_set (memS_set (memS_set (memS_set (memS_set (memS_set (memS_set (memS_set (memS_set (memS_set (memS_set h.out hg 0 v0) hg 1 v1) hg 2 v2) hg 3 v3) hg 4 v4) hg 5 v5) hg 6 v6) hg 7 v7) hg 8 v8) hg 9 v9) hg 10 v10))
end
end Go.Proofs.Ytcoiagfeoonpbaa

/-
  Two rows of the call's own, side by side: each stays out of the other. Plain lemmas. No condition.
-/
namespace Go.Proofs.Ytcoiagfeoonpbaa
open Go.RowKit
section
variable {P : Program} {w : World} {t e : TypeId} {z : Value} {sz bytes : Nat} {o : Oper} {act : Act} {K : Act → World → Prop} {Q : Exit → Act → World → Prop}
theorem wp_append_S (s x : Operand) {A : Nat → Prop} {base : Nat} (ho : o.op = .call { callee := .builtin .append, args := #[s, x], argTypes := #[t, t] }) (ht : P.underlying t = some (.slice e)) (hinfo : (P.info? e).map (fun i => (i.zero, i.size, i.bytes)) = some (some z, sz, bytes)) (hz : z.cells.size = sz) (hsz : 0 < sz)
    {y : Value} {rs new : List (List At)} {a : Option Addr} {m c : Nat} (hs : act.eval s = y) (hx : act.eval x = .slice a m c) (h : OwnS A base e sz w y rs) (hnew : new ≠ []) (hM : Mem (fun b => NwS A w.heap.size b ∧ y.ownBlock ≠ some b) w (.s sz new) (.slice a m c)) (hby : (rs.length + new.length) * bytes ≤ 140737488355328) (hbl : rs.length + new.length ≤ 4611686018427387904) (hbase : base ≤ w.heap.size)
    (hK : ∀ v' w', OwnS A base e sz w' v' (rs ++ new) → w.grownBy w' y.ownBlock → (v'.ownBlock = y.ownBlock ∨ ∀ k, v'.ownBlock = some k → w.heap.size ≤ k) → K (act.put o.dst v') w') : Oper.wp P o act w K Q := by
  obtain ⟨v', w', hr, h2, h3, h4⟩ := run_append_S o.type ht hinfo hz hsz h hnew hM hby hbl hbase
  unfold Oper.wp execOp
  simp only [ho, resolve, invoke, builtin, Sem.run_bind, Sem.run_pure, Result.andThen_ok, List.map_toArray, List.map_cons, List.map_nil, hs, hx, hr]
  exact hK _ _ h2 h3 h4
end
structure OwnX (x : Option Nat) (base : Nat) (e : TypeId) (sz : Nat) (w : World) (y : Value) (rs : List (List At)) : Prop where
  ow : OwnS (fun b => base ≤ b ∧ x ≠ some b) base e sz w y rs
  ne : ∀ k, y.ownBlock = some k → x ≠ some k
section
variable {x : Option Nat} {base sz : Nat} {e t : TypeId} {w w' W : World} {y : Value} {rs : List (List At)}
theorem OwnX.nil (x : Option Nat) (base : Nat) (e : TypeId) (sz : Nat) (w : World) : OwnX x base e sz w (.slice none 0 0) [] := ⟨⟨[], World.ownsRow_nil w base e sz, .nil⟩, fun k h => by cases h⟩
theorem OwnX.lt (h : OwnX x base e sz w y rs) : ∀ k, y.ownBlock = some k → base ≤ k ∧ k < w.heap.size := h.ow.lt
theorem OwnX.far {Z : Nat → Prop} (h : OwnX x base e sz w y rs) (hf : Far Z w w') (hz : ∀ b, base ≤ b → ¬ Z b) : OwnX x base e sz w' y rs :=
  ⟨h.ow.farZ hf (fun b hb _ => hz b hb.1) fun b hb _ => hz b hb, h.ne⟩
theorem OwnX.alloc (h : OwnX x base e sz w y rs) (o : Obj) : OwnX x base e sz (w.alloc o) y rs := h.far (Z := fun _ => False) (Far.of (below_new w o)) fun _ _ h => h
theorem OwnX.drew (h : OwnX x base e sz w y rs) : OwnX x base e sz w.drew y rs := h.far (Z := fun _ => False) (Far.of (below_drew w)) fun _ _ h => h
theorem OwnX.farq {q : Nat} (h : OwnX x base e sz w y rs) (hf : FarQ q w w') (hq : q < base) : OwnX x base e sz w' y rs := h.far hf fun b hb e => by have : b = q := e; omega
theorem OwnX.set {g : Nat} (h : OwnX x base e sz w y rs) (hg : g < base) (j : Nat) (v : Value) : OwnX x base e sz (w.setCell ⟨g, j, none⟩ v) y rs :=
  h.far ((Far.refl (fun b => b = g) w).setCell (p := ⟨g, j, none⟩) rfl v) fun b h1 e => by have : b = g := e; omega
theorem OwnX.conv {x' : Option Nat} (h : OwnX x base e sz w y rs) (hx : x' = x ∨ ∀ k, x' = some k → w.heap.size ≤ k) : OwnX x' base e sz w y rs := by
  rcases hx with rfl | hx
  · exact h
  · obtain ⟨css, h1, h2⟩ := h.ow
    refine ⟨⟨css, h1, h2.imp fun r cs ⟨hc, hm⟩ => ⟨hc, hm.imp fun x y' hx' => hx'.mono (fun b hb => ⟨⟨⟨hb.1.1.1, fun e => by have := hx b e; have := hb.1.2; omega⟩, hb.1.2⟩, hb.2⟩) fun _ _ => rfl⟩⟩, fun k hk e => ?_⟩
    have := hx k e
    have := (h.lt k hk).2
    omega
theorem OwnX.other (h : OwnX x base e sz w y rs) (hg : w.grownBy w' x) : OwnX x base e sz w' y rs := by
  refine ⟨?_, h.ne⟩
  obtain ⟨css, h1, h2⟩ := h.ow
  refine ⟨css, ⟨h1.1, ?_⟩, h2.imp fun r cs ⟨hc, hm⟩ => ⟨hc, hm.imp fun x y' hx => hx.mono (fun b hb => ⟨⟨hb.1.1, Nat.lt_of_lt_of_le hb.1.2 hg.size⟩, hb.2⟩) fun b hb => hg.block b hb.1.2 fun e => hb.1.1.2 e.symm⟩⟩
  rcases h1.2 with hn | ⟨g, cap, cur, rfl, hb, hgg, rest⟩
  · exact .inl hn
  · have hg0 := (Array.getElem?_eq_some_iff.1 hgg).1
    exact .inr ⟨g, cap, cur, rfl, hb, (hg.block g hg0 (fun e => h.ne g rfl e.symm)).trans hgg, rest⟩
theorem OwnX.mem (h : OwnX x base e sz w y rs) : Mem (Nw 0 base w.heap.size) w (.s sz rs) y := memS_nw h.ow.mem fun _ hb => hb.elim (fun h => h.1) id
theorem OwnX.other2 {x' : Option Nat} (h : OwnX x base e sz w y rs) (hg : w.grownBy w' x) (hx : x' = x ∨ ∀ k, x' = some k → w.heap.size ≤ k) : OwnX x' base e sz w' y rs := by
  rcases hx with rfl | hx
  · exact h.other hg
  · obtain ⟨css, h1, h2⟩ := h.ow
    refine ⟨⟨css, ⟨h1.1, ?_⟩, h2.imp fun r cs ⟨hc, hm⟩ => ⟨hc, hm.imp fun x y' hx' => hx'.mono (fun b hb => ⟨⟨⟨hb.1.1.1, fun e => by have := hx b e; have := hb.1.2; omega⟩, Nat.lt_of_lt_of_le hb.1.2 hg.size⟩, hb.2⟩) fun b hb => hg.block b hb.1.2 fun e => hb.1.1.2 e.symm⟩⟩, fun k hk e => ?_⟩
    · rcases h1.2 with hn | ⟨g, cap, cur, rfl, hb, hgg, rest⟩
      · exact .inl hn
      · have hg0 := (Array.getElem?_eq_some_iff.1 hgg).1
        exact .inr ⟨g, cap, cur, rfl, hb, (hg.block g hg0 (fun e => h.ne g rfl e.symm)).trans hgg, rest⟩
    · have := hx k e
      have := (h.lt k hk).2
      omega
theorem OwnX.app {v : Value} {rs' : List (List At)} (h : OwnX x base e sz w y rs) (ho : OwnS (fun b => base ≤ b ∧ x ≠ some b) base e sz w' v rs') (hx : ∀ k, x = some k → k < w.heap.size) (hv : v.ownBlock = y.ownBlock ∨ ∀ k, v.ownBlock = some k → w.heap.size ≤ k) : OwnX x base e sz w' v rs' :=
  ⟨ho, fun k hk e => by
    rcases hv with hv | hv
    · exact h.ne k (hv ▸ hk) e
    · have := hv k hk
      have := hx k e
      omega⟩
theorem row_appX {r : List At} {cs : Array Value} (h : OwnX x base t sz W y rs) (hx : ∀ k, x = some k → k < W.heap.size) (hb : base ≤ W.heap.size) (hs : W.heap.size ≤ w.heap.size) (hr : All2 (Mem (Nw 0 W.heap.size w.heap.size) w) r cs.toList) (hsz : cs.toList.length = sz) :
    Mem (fun b => NwS (fun b => base ≤ b ∧ x ≠ some b) (w.alloc (.cells cs t)).heap.size b ∧ y.ownBlock ≠ some b) (w.alloc (.cells cs t)) (.s sz [r]) (.slice (some ⟨w.heap.size, 0, none⟩) 1 1) :=
  (row_new hr hsz hs).mem.mono (fun b hb' => by
    have h1 : W.heap.size ≤ b := by rcases hb'.1 with h | h <;> omega
    refine ⟨⟨⟨by omega, fun e => ?_⟩, hb'.2⟩, fun e => ?_⟩
    · have := hx b e; omega
    · have := (h.lt b e).2; omega) fun _ _ => rfl
end
section
variable {x : Option Nat} {base sz : Nat} {e : TypeId} {w w' : World} {y : Value} {rs : List (List At)}
theorem qxO {q : Nat} (h : Hid (OwnX x base e sz w y rs)) (hf : FarQ q w w') (hq : q < base := by omega) : Hid (OwnX x base e sz w' y rs) := Lib.hid (h.out.farq hf hq)
theorem oxS1 {g j : Nat} {v0 : Value} (h : Hid (OwnX x base e sz w y rs)) (ee : (w.setCell ⟨g, j, none⟩ v0) = w') (hg : g < base := by omega) : Hid (OwnX x base e sz w' y rs) := Lib.hid (ee ▸ (h.out.set hg j v0))
end
end Go.Proofs.Ytcoiagfeoonpbaa

/-
 The document's reader, its small steps: now, fail, is, take, down, name. No condition but how the tokens lie.
-/
namespace Go.Proofs.Ytcoiagfeoonpbaa
open Go.RowKit
section
variable {ts : List Tk} {aL : Option Addr} {n cap : Nat}
def rdV (aL : Option Addr) (n cap : Nat) (i d : Int) (b : Bool) (l c : Int) : Value := .agg #[.slice aL n cap, .int .i64 i, .int .i64 d, .bool b, .int .i64 l, .int .i64 c]
theorem refTok {w w' : World} (hf : FarB w.heap.size w.heap.size w w') (h : MemW w (.s 5 (tkRows ts)) (.slice aL n cap)) : MemW w' (.s 5 (tkRows ts)) (.slice aL n cap) :=
 Mem.mono h (fun _ hb => Nat.lt_of_lt_of_le hb hf.size) fun b hb => hf.block b hb (fun e => by have : b < w.heap.size := hb; rcases e with e | e <;> omega)
theorem refBelow {w w' : World} (hf : FarB w.heap.size w.heap.size w w') : Below w.heap.size w w' := Far.toB (Far.mono hf fun b e => by rcases e with e | e <;> omega) (Nat.le_refl _)
attribute [local go_sem] tk_pos
theorem tk_text (k n l c : Int) (s : ByteArray) (w : World) : Sem.run Try.prog (Instr.field 71 (.agg #[.int .i64 k, .string s, .int .i64 n, .int .i64 l, .int .i64 c]) 1) w = .ok (.string s) w := by kernel_rfl
theorem tk_kind0 (k n l c : Int) (s : ByteArray) (w : World) : Sem.run Try.prog (Instr.field 71 (.agg #[.int .i64 k, .string s, .int .i64 n, .int .i64 l, .int .i64 c]) 0) w = .ok (.int .i64 k) w := by kernel_rfl
attribute [local go_sem] tk_text tk_kind0
set_option maxRecDepth 100000 in
set_option maxHeartbeats 20000000 in
theorem nowR_any {i : Nat} {d : Int} {b : Bool} {l c : Int} (w : World) (h : MemW w (.s 5 (tkRows ts)) (.slice aL n cap))  :
  Calls Try.prog 67 #[rdV aL n cap (i : Int) d b l c] w fun e w' => e = .returned (tkV (nowT ts i)) ∧ Below w.heap.size w w' := by
 have H := Lib.hid h
 clear h
 have hl := H.out.len
 rw [tkRows_len] at hl
 have HL := Lib.hid hl.1
 have hn := hl.2.1
 simp only [rdV]
 clear hl
 by_cases hlt : i < n
 ·
  have hltz : (i : Int) < (n : Int) := by omega
  obtain ⟨b2, o, t, rfl, hb, Ht, x0, x1, x2, x3, x4⟩ := tk_at H.out i hlt
  have HNT : Hid (nowT ts i = t) := Lib.hid (now_at Ht.out)
  rw [HNT.out]
  clear Ht HNT
  go_enter Try.func67, Try.ntmps67
  go_wp2
  refine bodyPost_ret (v := tkV t) (by clear H HL; simp [results, Try.results67, go_sem, tkV] <;> rfl) rfl ?_
  exact ⟨rfl, (below_new w _).alloc (by simp) _⟩
 ·
  have hge : ¬ ((i : Int) < (n : Int)) := by omega
  by_cases hn0 : n = 0
  ·
   subst hn0
   have hts : ts = [] := List.eq_nil_of_length_eq_zero HL.out
   subst hts
   have HNT : Hid (nowT [] i = noTk 0 0) := Lib.hid now_none
   rw [HNT.out]
   clear HNT
   go_enter Try.func67, Try.ntmps67
   go_wp2
   refine bodyPost_ret (v := tkV (noTk 0 0)) (by clear H HL; simp [results, Try.results67, go_sem, tkV, noTk] <;> rfl) rfl ?_
   exact ⟨rfl, (below_new w _).alloc (by simp) _⟩
  ·
   obtain ⟨m, rfl⟩ : ∃ m, n = m + 1 := ⟨n - 1, by omega⟩
   obtain ⟨b2, o, t, rfl, hb, Ht, x0, x1, x2, x3, x4⟩ := tk_at H.out m (by omega)
   have HNT : Hid (nowT ts i = noTk t.l t.c) := Lib.hid (now_past (by have := HL.out; omega) (by rw [List.getLast?_eq_getElem?, HL.out]; exact Ht.out))
   rw [HNT.out]
   clear Ht HNT x0 x1 x2
   have hm0 : (m : Int) + 1 - 1 = (m : Int) := by omega
   have hm3 : (m : Int) ≤ 9223372036854775807 := by have := H.out.len; omega
   have hm1 : ¬ (((m : Nat) : Int) + 1 ≤ 0) := by omega
   have hm2 : m < m + 1 := by omega
   go_enter Try.func67, Try.ntmps67
   go_wp2
   refine bodyPost_ret (v := tkV (noTk t.l t.c)) (by clear H HL; simp [results, Try.results67, go_sem, tkV, noTk] <;> rfl) rfl ?_
   exact ⟨rfl, (below_new w _).alloc (by simp) _⟩
set_option maxRecDepth 100000 in
set_option maxHeartbeats 20000000 in
theorem failR_bad {i : Nat} {d l c : Int} (w : World) (h : MemW w (.s 5 (tkRows ts)) (.slice aL n cap))  :
  Calls Try.prog 70 #[rdV aL n cap (i : Int) d true l c] w fun e w' => e = .returned (rdV aL n cap (i : Int) d true l c) ∧ Below w.heap.size w w' := by
 have H := Lib.hid h
 clear h
 simp only [rdV]
 go_enter Try.func70, Try.ntmps70
 go_wp2
 refine bodyPost_ret (v := rdV aL n cap (i : Int) d true l c) (by clear H; simp [results, Try.results70, go_sem, rdV]) rfl ?_
 exact ⟨rfl, (below_new w _).alloc (by simp) _⟩
set_option maxRecDepth 100000 in
set_option maxHeartbeats 20000000 in
theorem failR_ok {i : Nat} {d l c : Int} (w : World) (h : MemW w (.s 5 (tkRows ts)) (.slice aL n cap))  :
  Calls Try.prog 70 #[rdV aL n cap (i : Int) d false l c] w fun e w' => e = .returned (rdV aL n cap (i : Int) d true (nowT ts i).l (nowT ts i).c) ∧ Below w.heap.size w w' := by
 have H := Lib.hid h
 clear h
 have HF : Hid (FarB w.heap.size w.heap.size w w) := Lib.hid (FarB.refl _ _ _)
 simp only [rdV]
 go_enter Try.func70, Try.ntmps70
 go_wp2_with (fail)
 generalize ee : World.alloc w _ = w1_1
 have hq1 := sizeA ee
 replace HF := fA HF ee
 have HBr := nB ee (w.heap.size)
 clear ee
 generalize ee : World.alloc w1_1 _ = w1
 have hq2 := sizeA ee
 replace HF := fA HF ee
 replace HBr := bA HBr ee
 have HBs := nB ee (w.heap.size + 1)
 clear ee
 have hsa1 : w1.heap.size = w.heap.size + 2 := by omega
 clear hq1 hq2
 have rc := kc6 HBr; have sc := kc6 HBs
 have hI := i01_0 w w1
 have hZ := i012 w
 clear rc sc
 refine (nowR_any _ (refTok HF.out H.out)).mono ?_
 rintro _ w2 ⟨rfl, hb⟩
 replace HBr := kB HBr hb
 replace HBs := kB HBs hb
 replace HF := kF HF hb
 have hs2 := hb.size
 clear hb
 simp only [tkV]
 clear hI hZ
 have rc := kc6 HBr; have sc := kc6 HBs
 have hI := i01_0 w w2
 go_wp2_with (fail)
 clear rc sc
 generalize ee : World.setCell w2 _ _ = w3_1
 have hq1 := sizeS1 ee
 replace HF := fN1 HF ee
 replace HBr : Hid (Bo w3_1 w.heap.size 44 #[.slice aL n cap, .int .i64 (i : Int), .int .i64 d, .bool false, .int .i64 (nowT ts i).l, .int .i64 c]) := Lib.hid (by rw [← ee]; exact HBr.out.set 4 (.int .i64 (nowT ts i).l))
 replace HBs := bF1 HBs ee
 clear ee
 generalize ee : World.setCell w3_1 _ _ = w3_2
 have hq2 := sizeS1 ee
 replace HF := fN1 HF ee
 replace HBr : Hid (Bo w3_2 w.heap.size 44 #[.slice aL n cap, .int .i64 (i : Int), .int .i64 d, .bool false, .int .i64 (nowT ts i).l, .int .i64 (nowT ts i).c]) := Lib.hid (by rw [← ee]; exact HBr.out.set 5 (.int .i64 (nowT ts i).c))
 replace HBs := bF1 HBs ee
 clear ee
 generalize ee : World.setCell w3_2 _ _ = w3_3
 have hq3 := sizeS1 ee
 replace HF := fN1 HF ee
 replace HBr : Hid (Bo w3_3 w.heap.size 44 #[.slice aL n cap, .int .i64 (i : Int), .int .i64 d, .bool true, .int .i64 (nowT ts i).l, .int .i64 (nowT ts i).c]) := Lib.hid (by rw [← ee]; exact HBr.out.set 3 (.bool true))
 replace HBs := bF1 HBs ee
 clear ee
 generalize ee : World.setCell _ ⟨(w.heap.size + 1), 5, none⟩ _ = w3
 have hq4 := sizeS6 ee
 replace HF := fN6 HF ee
 replace HBr := bF6 HBr ee
 replace HBs := bS6 HBs ee
 clear ee
 have hsz3 : w3.heap.size = w2.heap.size := by omega
 clear hq1 hq2 hq3 hq4
 clear hI
 have z := kc6 HBs
 refine bodyPost_ret (v := rdV aL n cap (i : Int) d true (nowT ts i).l (nowT ts i).c) (by clear HF H HBr HBs; simp [results, Try.results70, go_sem, rdV, z]) rfl ?_
 exact ⟨rfl, refBelow HF.out⟩
set_option maxRecDepth 100000 in
set_option maxHeartbeats 20000000 in
theorem isR_bad {i : Nat} {d l c : Int} {k : Int} {s : ByteArray} (w : World) (h : MemW w (.s 5 (tkRows ts)) (.slice aL n cap))  :
  Calls Try.prog 69 #[rdV aL n cap (i : Int) d true l c, .int .i64 k, .string s] w fun e w' => e = .returned (.bool false) ∧ Below w.heap.size w w' := by
 have H := Lib.hid h
 clear h
 simp only [rdV]
 go_enter Try.func69, Try.ntmps69
 go_wp2_with (fail)
 refine bodyPost_ret (results_tmp rfl _ _ _) rfl ?_
 exact ⟨rfl, below_new w _⟩
set_option maxRecDepth 100000 in
set_option maxHeartbeats 20000000 in
theorem isR_ok {i : Nat} {d l c : Int} {k : Int} {s : ByteArray} (w : World) (h : MemW w (.s 5 (tkRows ts)) (.slice aL n cap))  :
  Calls Try.prog 69 #[rdV aL n cap (i : Int) d false l c, .int .i64 k, .string s] w fun e w' => e = .returned (.bool (isT ts i k s)) ∧ Below w.heap.size w w' := by
 have H := Lib.hid h
 clear h
 have HF : Hid (FarB w.heap.size w.heap.size w w) := Lib.hid (FarB.refl _ _ _)
 simp only [rdV]
 go_enter Try.func69, Try.ntmps69
 go_wp2_with (fail)
 generalize ee : World.alloc w _ = w1
 have hsa1 := sizeA ee
 replace HF := fA HF ee
 have HBr := nB ee (w.heap.size)
 clear ee
 have rc := kc6 HBr
 have hI := i0_0 w w1
 have hZ := i01 w
 clear rc
 refine (nowR_any _ (refTok HF.out H.out)).mono ?_
 rintro _ w2 ⟨rfl, hb⟩
 replace HBr := kB HBr hb
 replace HF := kF HF hb
 have hs2 := hb.size
 clear hb
 simp only [tkV]
 by_cases hk : (nowT ts i).k = k
 rotate_left
 ·
  have e1 : ((nowT ts i).k == k) = false := by simp [hk]
  clear hI hZ
  have rc := kc6 HBr
  have hI := i0_0 w w2
  go_wp2_with (fail)
  refine bodyPost_ret (results_tmp rfl _ _ _) rfl ?_
  exact ⟨congrArg (fun b => Ending.returned (.bool b)) (by unfold isT; rw [decide_eq_false hk, Bool.false_and]), refBelow HF.out⟩
 have e1 : ((nowT ts i).k == k) = true := by simp [hk]
 clear hI hZ
 have rc := kc6 HBr
 have hI := i0_0 w w2
 go_wp2_with (fail)
 clear rc
 refine (nowR_any _ (refTok HF.out H.out)).mono ?_
 rintro _ w3 ⟨rfl, hb⟩
 replace HBr := kB HBr hb
 replace HF := kF HF hb
 have hs3 := hb.size
 clear hb
 simp only [tkV]
 clear hI
 have rc := kc6 HBr
 have hI := i0_0 w w3
 go_wp2_with (fail)
 refine bodyPost_ret (results_tmp rfl _ _ _) rfl ?_
 exact ⟨congrArg (fun b => Ending.returned (.bool b)) (by unfold isT; rw [decide_eq_true hk, Bool.true_and, ← ba_eq, ← toList_beq]), refBelow HF.out⟩
set_option maxRecDepth 100000 in
set_option maxHeartbeats 20000000 in
theorem takeR_bad {i : Nat} {d l c : Int} {k : Int} {s : ByteArray} (w : World) (h : MemW w (.s 5 (tkRows ts)) (.slice aL n cap))  :
  Calls Try.prog 72 #[rdV aL n cap (i : Int) d true l c, .int .i64 k, .string s] w fun e w' => e = .returned (rdV aL n cap (i : Int) d true l c) ∧ Below w.heap.size w w' := by
 have H := Lib.hid h
 clear h
 have HF : Hid (FarB w.heap.size w.heap.size w w) := Lib.hid (FarB.refl _ _ _)
 simp only [rdV]
 go_enter Try.func72, Try.ntmps72
 go_wp2_with (fail)
 generalize ee : World.alloc w _ = w1_1
 have hq1 := sizeA ee
 replace HF := fA HF ee
 have HBr := nB ee (w.heap.size)
 clear ee
 generalize ee : World.alloc w1_1 _ = w1
 have hq2 := sizeA ee
 replace HF := fA HF ee
 replace HBr := bA HBr ee
 have HBs := nB ee (w.heap.size + 1)
 clear ee
 have hsa1 : w1.heap.size = w.heap.size + 2 := by omega
 clear hq1 hq2
 have rc := kc6 HBr; have sc := kc6 HBs
 have hI := i01_0 w w1
 have hZ := i012 w
 clear rc sc
 refine (isR_bad _ (refTok HF.out H.out)).mono ?_
 rintro _ w2 ⟨rfl, hb⟩
 replace HBr := kB HBr hb
 replace HBs := kB HBs hb
 replace HF := kF HF hb
 have hs2 := hb.size
 clear hb
 clear hI hZ
 have rc := kc6 HBr; have sc := kc6 HBs
 have hI := i01_0 w w2
 go_wp2_with (fail)
 clear rc sc
 refine (failR_bad _ (refTok HF.out H.out)).mono ?_
 rintro _ w3 ⟨rfl, hb⟩
 replace HBr := kB HBr hb
 replace HBs := kB HBs hb
 replace HF := kF HF hb
 have hs3 := hb.size
 clear hb
 simp only [rdV]
 clear hI
 have rc := kc6 HBr; have sc := kc6 HBs
 have hI := i01_0 w w3
 go_wp2_with (fail)
 clear rc sc
 generalize ee : World.setCell _ ⟨(w.heap.size + 1), 5, none⟩ _ = w4
 have hsz4 := sizeS6 ee
 replace HF := fN6 HF ee
 replace HBr := bF6 HBr ee
 replace HBs := bS6 HBs ee
 clear ee
 clear hI
 have z := kc6 HBs
 refine bodyPost_ret (v := rdV aL n cap (i : Int) d true l c) (by clear HF H HBr HBs; simp [results, Try.results72, go_sem, rdV, z]) rfl ?_
 exact ⟨rfl, refBelow HF.out⟩
set_option maxRecDepth 100000 in
set_option maxHeartbeats 20000000 in
theorem takeR_no {i : Nat} {d l c : Int} {k : Int} {s : ByteArray} (w : World) (h : MemW w (.s 5 (tkRows ts)) (.slice aL n cap)) (hk : isT ts i k s = false) :
  Calls Try.prog 72 #[rdV aL n cap (i : Int) d false l c, .int .i64 k, .string s] w fun e w' => e = .returned (rdV aL n cap (i : Int) d true (nowT ts i).l (nowT ts i).c) ∧ Below w.heap.size w w' := by
 have H := Lib.hid h
 clear h
 have HF : Hid (FarB w.heap.size w.heap.size w w) := Lib.hid (FarB.refl _ _ _)
 simp only [rdV]
 go_enter Try.func72, Try.ntmps72
 go_wp2_with (fail)
 generalize ee : World.alloc w _ = w1_1
 have hq1 := sizeA ee
 replace HF := fA HF ee
 have HBr := nB ee (w.heap.size)
 clear ee
 generalize ee : World.alloc w1_1 _ = w1
 have hq2 := sizeA ee
 replace HF := fA HF ee
 replace HBr := bA HBr ee
 have HBs := nB ee (w.heap.size + 1)
 clear ee
 have hsa1 : w1.heap.size = w.heap.size + 2 := by omega
 clear hq1 hq2
 have rc := kc6 HBr; have sc := kc6 HBs
 have hI := i01_0 w w1
 have hZ := i012 w
 clear rc sc
 refine (isR_ok _ (refTok HF.out H.out)).mono ?_
 rintro _ w2 ⟨rfl, hb⟩
 replace HBr := kB HBr hb
 replace HBs := kB HBs hb
 replace HF := kF HF hb
 have hs2 := hb.size
 clear hb
 rw [hk]
 clear hI hZ
 have rc := kc6 HBr; have sc := kc6 HBs
 have hI := i01_0 w w2
 go_wp2_with (fail)
 clear rc sc
 refine (failR_ok _ (refTok HF.out H.out)).mono ?_
 rintro _ w3 ⟨rfl, hb⟩
 replace HBr := kB HBr hb
 replace HBs := kB HBs hb
 replace HF := kF HF hb
 have hs3 := hb.size
 clear hb
 simp only [rdV]
 clear hI
 have rc := kc6 HBr; have sc := kc6 HBs
 have hI := i01_0 w w3
 go_wp2_with (fail)
 clear rc sc
 generalize ee : World.setCell _ ⟨(w.heap.size + 1), 5, none⟩ _ = w4
 have hsz4 := sizeS6 ee
 replace HF := fN6 HF ee
 replace HBr := bF6 HBr ee
 replace HBs := bS6 HBs ee
 clear ee
 clear hI
 have z := kc6 HBs
 refine bodyPost_ret (v := rdV aL n cap (i : Int) d true (nowT ts i).l (nowT ts i).c) (by clear HF H HBr HBs; simp [results, Try.results72, go_sem, rdV, z]) rfl ?_
 exact ⟨rfl, refBelow HF.out⟩
set_option maxRecDepth 100000 in
set_option maxHeartbeats 20000000 in
theorem takeR_ok {i : Nat} {d l c : Int} {k : Int} {s : ByteArray} (w : World) (h : MemW w (.s 5 (tkRows ts)) (.slice aL n cap)) (hk : isT ts i k s = true) (hk1 : k ≠ -1) :
  Calls Try.prog 72 #[rdV aL n cap (i : Int) d false l c, .int .i64 k, .string s] w fun e w' => e = .returned (rdV aL n cap ((i + 1 : Nat) : Int) d false l c) ∧ Below w.heap.size w w' := by
 have H := Lib.hid h
 clear h
 have HF : Hid (FarB w.heap.size w.heap.size w w) := Lib.hid (FarB.refl _ _ _)
 simp only [rdV]
 go_enter Try.func72, Try.ntmps72
 have hil : i < ts.length := isT_lt hk (by assumption)
 have hoi : (i : Int) + 1 ≤ 9223372036854775807 := by have h1 := H.out.len; rw [tkRows_len] at h1; omega
 clear hil
 go_wp2_with (fail)
 generalize ee : World.alloc w _ = w1_1
 have hq1 := sizeA ee
 replace HF := fA HF ee
 have HBr := nB ee (w.heap.size)
 clear ee
 generalize ee : World.alloc w1_1 _ = w1
 have hq2 := sizeA ee
 replace HF := fA HF ee
 replace HBr := bA HBr ee
 have HBs := nB ee (w.heap.size + 1)
 clear ee
 have hsa1 : w1.heap.size = w.heap.size + 2 := by omega
 clear hq1 hq2
 have rc := kc6 HBr; have sc := kc6 HBs
 have hI := i01_0 w w1
 have hZ := i012 w
 clear rc sc
 refine (isR_ok _ (refTok HF.out H.out)).mono ?_
 rintro _ w2 ⟨rfl, hb⟩
 replace HBr := kB HBr hb
 replace HBs := kB HBs hb
 replace HF := kF HF hb
 have hs2 := hb.size
 clear hb
 rw [hk]
 clear hI hZ
 have rc := kc6 HBr; have sc := kc6 HBs
 have hI := i01_0 w w2
 go_wp2_with (fail)
 clear rc sc
 generalize ee : World.setCell w2 _ _ = w3_1
 have hq1 := sizeS1 ee
 replace HF := fN1 HF ee
 replace HBr : Hid (Bo w3_1 w.heap.size 44 #[.slice aL n cap, .int .i64 ((i : Int) + 1), .int .i64 d, .bool false, .int .i64 l, .int .i64 c]) := Lib.hid (by rw [← ee]; exact HBr.out.set 1 (.int .i64 ((i : Int) + 1)))
 replace HBs := bF1 HBs ee
 clear ee
 generalize ee : World.setCell _ ⟨(w.heap.size + 1), 5, none⟩ _ = w3
 have hq2 := sizeS6 ee
 replace HF := fN6 HF ee
 replace HBr := bF6 HBr ee
 replace HBs := bS6 HBs ee
 clear ee
 have hsz3 : w3.heap.size = w2.heap.size := by omega
 clear hq1 hq2
 clear hI
 have z := kc6 HBs
 refine bodyPost_ret (v := rdV aL n cap ((i + 1 : Nat) : Int) d false l c) (by clear HF H HBr HBs; simp [results, Try.results72, go_sem, rdV, z]) rfl ?_
 exact ⟨rfl, refBelow HF.out⟩
set_option maxRecDepth 100000 in
set_option maxHeartbeats 20000000 in
theorem downR_ok {i deep : Nat} {l c : Int} (w : World) (h : MemW w (.s 5 (tkRows ts)) (.slice aL n cap)) (hd : deep < 40) (hi : i < ts.length) :
  Calls Try.prog 71 #[rdV aL n cap (i : Int) (deep : Int) false l c] w fun e w' => e = .returned (rdV aL n cap ((i + 1 : Nat) : Int) ((deep + 1 : Nat) : Int) false l c) ∧ Below w.heap.size w w' := by
 have H := Lib.hid h
 clear h
 have HF : Hid (FarB w.heap.size w.heap.size w w) := Lib.hid (FarB.refl _ _ _)
 simp only [rdV]
 go_enter Try.func71, Try.ntmps71
 have hoi : (i : Int) + 1 ≤ 9223372036854775807 := by have h1 := H.out.len; rw [tkRows_len] at h1; omega
 have h40 : ¬ ((40 : Int) ≤ (deep : Int)) := by omega
 have hod : (deep : Int) + 1 ≤ 9223372036854775807 := by omega
 go_wp2_with (fail)
 refine bodyPost_ret (v := rdV aL n cap ((i + 1 : Nat) : Int) ((deep + 1 : Nat) : Int) false l c) (by clear H; simp [results, Try.results71, go_sem, rdV]) rfl ?_
 exact ⟨rfl, (below_new w _).alloc (by simp) _⟩
set_option maxRecDepth 100000 in
set_option maxHeartbeats 20000000 in
theorem downR_bad {i : Nat} {l c : Int} (w : World) (h : MemW w (.s 5 (tkRows ts)) (.slice aL n cap))  :
  Calls Try.prog 71 #[rdV aL n cap (i : Int) 40 false l c] w fun e w' => e = .returned (rdV aL n cap (i : Int) 40 true (nowT ts i).l (nowT ts i).c) ∧ Below w.heap.size w w' := by
 have H := Lib.hid h
 clear h
 have HF : Hid (FarB w.heap.size w.heap.size w w) := Lib.hid (FarB.refl _ _ _)
 simp only [rdV]
 go_enter Try.func71, Try.ntmps71
 go_wp2_with (fail)
 generalize ee : World.alloc w _ = w1_1
 have hq1 := sizeA ee
 replace HF := fA HF ee
 have HBr := nB ee (w.heap.size)
 clear ee
 generalize ee : World.alloc w1_1 _ = w1
 have hq2 := sizeA ee
 replace HF := fA HF ee
 replace HBr := bA HBr ee
 have HBs := nB ee (w.heap.size + 1)
 clear ee
 have hsa1 : w1.heap.size = w.heap.size + 2 := by omega
 clear hq1 hq2
 have rc := kc6 HBr; have sc := kc6 HBs
 have hI := i01_0 w w1
 have hZ := i012 w
 clear rc sc
 refine (failR_ok _ (refTok HF.out H.out)).mono ?_
 rintro _ w2 ⟨rfl, hb⟩
 replace HBr := kB HBr hb
 replace HBs := kB HBs hb
 replace HF := kF HF hb
 have hs2 := hb.size
 clear hb
 simp only [rdV]
 clear hI hZ
 have rc := kc6 HBr; have sc := kc6 HBs
 have hI := i01_0 w w2
 go_wp2_with (fail)
 clear rc sc
 generalize ee : World.setCell _ ⟨(w.heap.size + 1), 5, none⟩ _ = w3
 have hsz3 := sizeS6 ee
 replace HF := fN6 HF ee
 replace HBr := bF6 HBr ee
 replace HBs := bS6 HBs ee
 clear ee
 clear hI
 have z := kc6 HBs
 refine bodyPost_ret (v := rdV aL n cap (i : Int) 40 true (nowT ts i).l (nowT ts i).c) (by clear HF H HBr HBs; simp [results, Try.results71, go_sem, rdV, z]) rfl ?_
 exact ⟨rfl, refBelow HF.out⟩
end
end Go.Proofs.Ytcoiagfeoonpbaa

/-
  The document's reader, its small steps, as functions of where it is. No condition but how the tokens lie.
-/
namespace Go.Proofs.Ytcoiagfeoonpbaa
open Go.RowKit
def rdS (aL : Option Addr) (n cap : Nat) (s : MS) (d : Int) : Value := rdV aL n cap (s.i : Int) d (!s.ok) (lB s.b) (cB s.b)
section
variable {ts : List Tk} {aL : Option Addr} {n cap : Nat}
theorem takeU (s : MS) (d k : Int) (x : ByteArray) (w : World) (h : MemW w (.s 5 (tkRows ts)) (.slice aL n cap)) (hk : k ≠ -1) : Calls Try.prog 72 #[rdS aL n cap s d, .int .i64 k, .string x] w fun e w' => e = .returned (rdS aL n cap (takeS ts s k x) d) ∧ Below w.heap.size w w' := by
  obtain ⟨i, b⟩ := s
  cases b with
  | none =>
    cases ht : isT ts i k x with
    | false =>
      have e : takeS ts ⟨i, none⟩ k x = failS ts ⟨i, none⟩ := by unfold takeS isS; rw [if_neg (by simp [ht])]
      rw [e]
      exact takeR_no w h ht
    | true =>
      have e : takeS ts ⟨i, none⟩ k x = ⟨i + 1, none⟩ := by unfold takeS isS; rw [if_pos (by simp [ht, MS.ok])]; rfl
      rw [e]
      exact takeR_ok w h ht hk
  | some p =>
    have e : takeS ts ⟨i, some p⟩ k x = ⟨i, some p⟩ := by unfold takeS isS; rw [if_neg (by simp [MS.ok])]; rfl
    rw [e]
    exact takeR_bad w h
theorem downU40 {i deep : Nat} {l c : Int} (w : World) (h : MemW w (.s 5 (tkRows ts)) (.slice aL n cap)) (h40 : deep = 40) :
    Calls Try.prog 71 #[rdV aL n cap (i : Int) (deep : Int) false l c] w fun e w' => e = .returned (rdV aL n cap (i : Int) (deep : Int) true (nowT ts i).l (nowT ts i).c) ∧ Below w.heap.size w w' := by
  subst h40
  exact downR_bad w h
theorem typ_parts {f : Nat} {at' : Bool} {deep i : Nat} {x : Tm} {s' : MS} (h : typeM ts (f + 1) (if at' then .atom else .typ) deep ⟨i, none⟩ = some (x, s')) :
    ((nowT ts i).k = 2 ∧ x = .mk 1 (nowT ts i).s 0 [] ∧ s' = ⟨i + 1, none⟩) ∨
    ((nowT ts i).k = 3 ∧ at' = true ∧ x = .mk 2 (nowT ts i).s 0 [] ∧ s' = ⟨i + 1, none⟩) ∨
    ((nowT ts i).k = 3 ∧ at' = false ∧ ∃ z, typeM ts f (.atoms []) deep ⟨i + 1, none⟩ = some (z, s') ∧ x = .mk 2 (nowT ts i).s 0 z.args) ∨
    ((nowT ts i).k ≠ 2 ∧ (nowT ts i).k ≠ 3 ∧ isT ts i 6 wOpen = false ∧ x = noTm ∧ s' = failS ts ⟨i, none⟩) ∨
    ((nowT ts i).k ≠ 2 ∧ (nowT ts i).k ≠ 3 ∧ isT ts i 6 wOpen = true ∧ deep = 40 ∧ x = noTm ∧ s' = failS ts ⟨i, none⟩) ∨
    ((nowT ts i).k ≠ 2 ∧ (nowT ts i).k ≠ 3 ∧ isT ts i 6 wOpen = true ∧ deep ≠ 40 ∧ ∃ g sz, g ≤ f ∧ typeM ts g .typ (deep + 1) ⟨i + 1, none⟩ = some (x, sz) ∧ s' = takeS ts sz 6 wClose) := by
  have atom : ∀ g, g ≤ f + 1 → typeM ts g .atom deep ⟨i, none⟩ = some (x, s') → (nowT ts i).k ≠ 2 → (nowT ts i).k ≠ 3 →
      (isT ts i 6 wOpen = false ∧ x = noTm ∧ s' = failS ts ⟨i, none⟩) ∨ (isT ts i 6 wOpen = true ∧ deep = 40 ∧ x = noTm ∧ s' = failS ts ⟨i, none⟩) ∨
      (isT ts i 6 wOpen = true ∧ deep ≠ 40 ∧ ∃ g sz, g ≤ f ∧ typeM ts g .typ (deep + 1) ⟨i + 1, none⟩ = some (x, sz) ∧ s' = takeS ts sz 6 wClose) := by
    intro g hg h k2 k3
    cases g with
    | zero => rw [typeM] at h; cases h
    | succ g =>
      rw [typeM, if_neg k2, if_neg k3] at h
      obtain ⟨p, h1, h2⟩ := Option.map_eq_some_iff.1 h
      obtain ⟨z, sz⟩ := p
      cases h2
      have bad : ∀ s : MS, s.ok = false → typeM ts g .typ (deep + 1) s = some (z, sz) → z = noTm ∧ sz = s := by
        intro s hs h
        cases g with
        | zero => rw [typeM] at h; cases h
        | succ g =>
          rw [typeM, if_pos hs] at h
          cases h
          exact ⟨rfl, rfl⟩
      have badT : ∀ s : MS, s.ok = false → ∀ k v, takeS ts s k v = s := by
        intro s hs k v
        unfold takeS isS
        rw [if_neg (by rw [hs]; simp), fail_no hs]
      have hF := fail_notok (ts := ts) ⟨i, none⟩
      by_cases h40 : deep = 40
      · rw [if_pos h40, badT _ hF] at h1
        obtain ⟨e1, e2⟩ := bad _ hF h1
        subst e2
        rw [badT _ hF]
        cases ho : isT ts i 6 wOpen with
        | false => exact .inl ⟨rfl, e1, rfl⟩
        | true => exact .inr (.inl ⟨rfl, h40, e1, rfl⟩)
      · rw [if_neg h40] at h1
        cases ho : isT ts i 6 wOpen with
        | false =>
          have e : takeS ts ⟨i, none⟩ 6 wOpen = failS ts ⟨i, none⟩ := by unfold takeS isS; rw [if_neg (by simp [ho])]
          rw [e] at h1
          obtain ⟨e1, e2⟩ := bad _ hF h1
          subst e2
          rw [badT _ hF]
          exact .inl ⟨rfl, e1, rfl⟩
        | true =>
          have e : takeS ts ⟨i, none⟩ 6 wOpen = ⟨i + 1, none⟩ := by unfold takeS isS; rw [if_pos (by simp [ho, MS.ok])]; rfl
          rw [e] at h1
          exact .inr (.inr ⟨rfl, h40, g, sz, by omega, h1, rfl⟩)
  cases at' with
  | true =>
    by_cases k2 : (nowT ts i).k = 2
    · rw [if_pos rfl, typeM, if_pos k2] at h
      cases h
      exact .inl ⟨k2, rfl, rfl⟩
    · by_cases k3 : (nowT ts i).k = 3
      · rw [if_pos rfl, typeM, if_neg k2, if_pos k3] at h
        cases h
        exact .inr (.inl ⟨k3, rfl, rfl, rfl⟩)
      · rcases atom _ (Nat.le_refl _) h k2 k3 with h | h | h
        · exact .inr (.inr (.inr (.inl ⟨k2, k3, h⟩)))
        · exact .inr (.inr (.inr (.inr (.inl ⟨k2, k3, h⟩))))
        · exact .inr (.inr (.inr (.inr (.inr ⟨k2, k3, h⟩))))
  | false =>
    rw [if_neg (by decide), typeM, if_neg (by simp [MS.ok])] at h
    by_cases k3 : (nowT ts i).k = 3
    · rw [if_pos k3] at h
      obtain ⟨p, h1, h2⟩ := Option.map_eq_some_iff.1 h
      obtain ⟨z, sz⟩ := p
      cases h2
      exact .inr (.inr (.inl ⟨k3, rfl, z, h1, rfl⟩))
    · rw [if_neg k3] at h
      by_cases k2 : (nowT ts i).k = 2
      · cases f with
        | zero => rw [typeM] at h; cases h
        | succ f =>
          rw [typeM, if_pos k2] at h
          cases h
          exact .inl ⟨k2, rfl, rfl⟩
      · rcases atom _ (Nat.le_succ _) h k2 k3 with h | h | h
        · exact .inr (.inr (.inr (.inl ⟨k2, k3, h⟩)))
        · exact .inr (.inr (.inr (.inr (.inl ⟨k2, k3, h⟩))))
        · exact .inr (.inr (.inr (.inr (.inr ⟨k2, k3, h⟩))))
end
end Go.Proofs.Ytcoiagfeoonpbaa
