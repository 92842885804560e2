/-
  Iterators over a tree at the wide fence: what a round keeps, what the tree's cells are then. Plain lemmas. No condition.
-/
import Derived.Test.YtppejoccljfblaaTm
import Derived.Test.YtppejoccljfblaaIter
namespace Go.Proofs.Ytppejoccljfblaa
open Go.RowKit

/-- What a round keeps: all that is not the body's own; and what the body owns lies in memory still. -/
structure KpT (vs bs : List Nat) (W W' : World) : Prop where
  kp : KpO vs bs W W'
  lt : (∀ k, ownB vs bs W k → k < W.heap.size) → ∀ k, ownB vs bs W' k → k < W'.heap.size
theorem KpT.trans {vs bs : List Nat} {X Y Z : World} (h : KpT vs bs X Y) (k : KpT vs bs Y Z) : KpT vs bs X Z := ⟨h.kp.trans k.kp, fun hX => k.lt (h.lt hX)⟩
theorem KpT.refl (vs bs : List Nat) (W : World) : KpT vs bs W W := ⟨KpO.refl vs bs W, fun h => h⟩
theorem KpT_b {vs bs : List Nat} {w : World} (hbs : ∀ b, b ∈ bs → b < w.heap.size) (W : World) (l : Nat) (o o' : Obj) (hl : w.heap.size ≤ l) (h : W.heap[l]? = some o) (hc : o.isCells = false) (hw : o.isWalk = false) : KpT vs bs W (W.putObj l o') := by
  refine ⟨KpO_b hbs W l o o' hl h hc hw, fun hX k hk => ?_⟩
  have hs : (W.putObj l o').heap.size = W.heap.size := by simp
  rw [hs]
  refine hX k ((ownB_cells (fun b hb => World.cell?_of_block (World.putObj_heap_other fun e => ?_)) k).1 hk)
  have := hbs b hb
  simp only at e
  omega
/-- What is below, lies as it lay: so nothing of the body's own is turned. -/
theorem KpT.below {vs bs : List Nat} {W W' : World} (h : Below W.heap.size W W') (hbs : ∀ b, b ∈ bs → b < W.heap.size) : KpT vs bs W W' :=
  ⟨⟨h.size, fun k o hk _ _ => (h.block k (Array.getElem?_eq_some_iff.1 hk).1).trans hk, fun k hk => .inl ((ownB_below h hbs k).1 hk)⟩, fun hX k hk => Nat.lt_of_lt_of_le (hX k ((ownB_below h hbs k).1 hk)) h.size⟩
theorem KpT.alloc {vs bs : List Nat} {W : World} (o : Obj) (hbs : ∀ b, b ∈ bs → b < W.heap.size) : KpT vs bs W (W.alloc o) := KpT.below (below_new W o) hbs

/-- The cells of a world, as they were at first; what is the body's own lies behind them. -/
structure Sd (vs bs : List Nat) (w0 W : World) : Prop where
  size : w0.heap.size ≤ W.heap.size
  cell : ∀ (b j : Nat) (v : Value), w0.cell? ⟨b, j, none⟩ = some v → W.cell? ⟨b, j, none⟩ = some v
  own : ∀ k, ownB vs bs W k → w0.heap.size ≤ k ∧ k < W.heap.size
  bs : ∀ b, b ∈ bs → b < W.heap.size
theorem Sd.kpt {vs bs : List Nat} {w0 W W' : World} (h : Sd vs bs w0 W) (k : KpT vs bs W W') : Sd vs bs w0 W' := by
  refine ⟨Nat.le_trans h.size k.kp.size, fun b j v hv => k.kp.cell (fun hn => ?_) (h.cell b j v hv), fun i hi => ⟨?_, k.lt (fun i hi => (h.own i hi).2) i hi⟩, fun b hb => Nat.lt_of_lt_of_le (h.bs b hb) k.kp.size⟩
  · have := (h.own b hn).1
    have := World.block_lt_of_cell? w0 ⟨b, j, none⟩ hv
    simp only at this
    omega
  · rcases k.kp.own i hi with h1 | h1
    · exact (h.own i h1).1
    · exact Nat.le_trans h.size h1
theorem Sd.alloc {vs bs : List Nat} {w0 W : World} (h : Sd vs bs w0 W) (o : Obj) : Sd vs bs w0 (W.alloc o) := h.kpt (KpT.alloc o h.bs)
theorem Sd.below {vs bs : List Nat} {w0 W W' : World} (h : Sd vs bs w0 W) (k : Below W.heap.size W W') : Sd vs bs w0 W' := h.kpt (KpT.below k h.bs)
/-- A fresh block of the iterator's own is kept by a round. -/
theorem KpT.fresh {vs bs : List Nat} {w0 W W' : World} {o : Obj} (h : Sd vs bs w0 W) (k : KpT vs bs (W.alloc o) W') {j : Nat} {v : Value} (hc : (W.alloc o).cell? ⟨W.heap.size, j, none⟩ = some v) : W'.cell? ⟨W.heap.size, j, none⟩ = some v := by
  refine k.kp.cell (fun hn => ?_) hc
  have := (h.own _ ((ownB_below (below_new W o) h.bs _).1 hn)).2
  omega
/-- A tree read by its cells alone. -/
theorem Mem.cells {S S' : Nat → Prop} {w w' : World} {x : At} {y : Value} (h : Mem S w x y) (hS : ∀ b, S b → S' b) (hw : ∀ (b j : Nat) (v : Value), S b → w.cell? ⟨b, j, none⟩ = some v → w'.cell? ⟨b, j, none⟩ = some v) : Mem S' w' x y := by
  induction h with
  | v x h1 => exact .v x h1
  | e a cap sz hc => exact .e a cap sz hc
  | s b o n cap sz rs C hn hcap hc hSb hsz hcell hm ih =>
    exact .s b o n cap sz rs C hn hcap hc (hS b hSb) hsz (fun i j hi hj => hw b _ _ hSb (hcell i j hi hj)) ih
/-- A tree that lay in the first world: it, and where its arguments lie. -/
structure Fx (w0 : World) where
  t : Tm
  a : Option Addr
  n : Nat
  cap : Nat
  m : MemW w0 (.s 4 (Tm.rows t.args)) (.slice a n cap)
def Fx.enc {w0 : World} (x : Fx w0) : Array Value := #[.agg #[.int .i64 x.t.kind, .string x.t.name, .int .i64 x.t.n, .slice x.a x.n x.cap]]
theorem Fx.mem {w0 : World} (x : Fx w0) {vs bs : List Nat} {W : World} (h : Sd vs bs w0 W) : Mem (· < w0.heap.size) W (.s 4 (Tm.rows x.t.args)) (.slice x.a x.n x.cap) := Mem.cells x.m (fun _ h => h) fun b j v _ hv => h.cell b j v hv
theorem Fx.len {w0 : World} (x : Fx w0) : x.t.args.length = x.n ∧ x.n ≤ x.cap ∧ x.cap ≤ 9223372036854775807 := Tms.len x.m
/-- An element: its cells, where the tree's cells are what they were. -/
theorem Fx.at {w0 : World} (x : Fx w0) (i : Nat) (hi : i < x.n) : ∃ (b o : Nat) (y : Fx w0), x.a = some ⟨b, o, none⟩ ∧ Hid (x.t.args[i]? = some y.t) ∧
    Hid (∀ (vs bs : List Nat) (W : World), Sd vs bs w0 W → W.cell? ⟨b, o + i * 4, none⟩ = some (.int .i64 y.t.kind) ∧ W.cell? ⟨b, o + i * 4 + 1, none⟩ = some (.string y.t.name) ∧ W.cell? ⟨b, o + i * 4 + 2, none⟩ = some (.int .i64 y.t.n) ∧ W.cell? ⟨b, o + i * 4 + 3, none⟩ = some (.slice y.a y.n y.cap)) := by
  obtain ⟨b, o, y, a', n', cap', ha, _, Hy, c0, c1, c2, c3, hm⟩ := tm_at x.m i hi
  exact ⟨b, o, ⟨y, a', n', cap', hm.out⟩, ha, Hy, Lib.hid fun vs bs W h => ⟨h.cell _ _ _ c0, h.cell _ _ _ c1, h.cell _ _ _ c2, h.cell _ _ _ c3⟩⟩
/-- What an iterator over a tree says: it gives it and all that is in it, to whatever loop whose body keeps what is not its own. -/
def IterT (P : Program) (g : Nat) (lb : Array Value) (w0 : World) (t : Tm) (vs bs : List Nat) (w : World) : Prop :=
  ∀ n, SeqStopsK Fence.wide n P g lb (Fx.enc (w0 := w0)) (KpT vs bs) (fun ys => ys.map Fx.t = t.all) (fun pre => pre.map Fx.t <+: t.all) t.size w

theorem wide_ok' (n : Nat) : Fence.wide.depth.isSome = true → 1 ≤ n := fun h => by cases h
theorem room_wide (k : Nat) : Fence.wide.room k := fun d h => by cases h
theorem YieldAt.any {m : Nat} (m' : Nat) {P : Program} {l : Nat} {args : Array Value} {W : World} {R : Ending → World → Prop} (h : YieldAt Fence.wide m P l args W R) : YieldAt Fence.wide m' P l args W R := by
  obtain ⟨fn, tmps, assign, body, hy, hR⟩ := h
  exact ⟨fn, tmps, assign, body, hy, hR.1, fun c cs _ => hR.2 c cs (room_wide _)⟩
theorem AbidesFrom.alloc' {β : Type} {B : Nat} {J : β → World → Prop} (h : AbidesFrom B J) {s : β} {W : World} (o : Obj) (hs : J s W) : J s (W.alloc o) := h s W _ none hs (World.grownBy_alloc W o none) (fun r e => by cases e)
/-- Of what a tree's walk has told: the next part is one element's. -/
theorem told_snoc {w0 : World} {q q' : List (Fx w0)} {t : Tm} {ts : List Tm} {k : Nat} {x : Tm} (h : q.map Fx.t = t :: Tm.alls (ts.take k)) (hx : ts[k]? = some x) (h' : q'.map Fx.t = x.all) : (q ++ q').map Fx.t = t :: Tm.alls (ts.take (k + 1)) := by
  rw [List.map_append, h, h', Tm.alls_at hx, List.cons_append]
theorem told_part {w0 : World} {q q' : List (Fx w0)} {t : Tm} {ts : List Tm} {k : Nat} {x : Tm} (h : q.map Fx.t = t :: Tm.alls (ts.take k)) (hx : ts[k]? = some x) (h' : q'.map Fx.t <+: x.all) (ht : t.args = ts) : (q ++ q').map Fx.t <+: t.all := by
  subst ht
  rw [List.map_append, h, Tm.all_eq, List.cons_append]
  obtain ⟨r, hr⟩ := h'
  have e : Tm.alls t.args = Tm.alls (t.args.take (k + 1)) ++ Tm.alls (t.args.drop (k + 1)) := by rw [← Tm.alls_app, List.take_append_drop]
  rw [e, Tm.alls_at hx, ← hr]
  exact ⟨r ++ Tm.alls (t.args.drop (k + 1)), by simp⟩
/-- How the walk of a term ends: all has been told; or a round has said 'no more'. -/
def EachPost {w0 : World} (vs bs : List Nat) (t : Tm) (J Jx : List (Fx w0) → World → Prop) (pre : List (Fx w0)) (W : World) (e : Ending) (W' : World) : Prop :=
  (e = .returned (.bool true) ∧ KpT vs bs W W' ∧ ∃ q, q.map Fx.t = t.all ∧ J (pre ++ q) W') ∨ (e = .returned (.bool false) ∧ ∃ q, q.map Fx.t <+: t.all ∧ Jx (pre ++ q) W')

theorem abides_new {w0 : World} {B : Nat} {J : List (Fx w0) → World → Prop} (h : AbidesFrom B J) : ∀ s W o, J s W → J s (W.alloc o) := fun _ _ o hs => AbidesFrom.alloc' h o hs
end Go.Proofs.Ytppejoccljfblaa
