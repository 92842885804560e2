/-
  Iterators over a tree at the wide fence: what a round keeps, what the tree's cells are then. Plain lemmas. No condition.
-/
import Derived.Test.YtmadfkofmehfkaaAt3
import Derived.Test.YtmadfkofmehfkaaAt35
namespace Go.Proofs.Ytmadfkofmehfkaa
open Go.RowKit

/-- What a round keeps: all that is not the body's own; and what the body owns lies in memory still. -/
structure KpT (vs bs : List Nat) (W W' : World) : Prop where
  kp : KpO vs bs W W'
  lt : (∀ k, ownB vs bs W k → k < W.heap.size) → ∀ k, ownB vs bs W' k → k < W'.heap.size
theorem KpT.trans {vs bs : List Nat} {X Y Z : World} (h : KpT vs bs X Y) (k : KpT vs bs Y Z) : KpT vs bs X Z := ⟨h.kp.trans k.kp, fun hX => k.lt (h.lt hX)⟩
theorem KpT.refl (vs bs : List Nat) (W : World) : KpT vs bs W W := ⟨KpO.refl vs bs W, fun h => h⟩
theorem KpT_b {vs bs : List Nat} {w : World} (hbs : ∀ b, b ∈ bs → b < w.heap.size) (W : World) (l : Nat) (o o' : Obj) (hl : w.heap.size ≤ l) (h : W.heap[l]? = some o) (hc : o.isCells = false) (hw : o.isWalk = false) : KpT vs bs W (W.putObj l o') := by
  refine ⟨KpO_b hbs W l o o' hl h hc hw, fun hX k hk => ?_⟩
  have hs : (W.putObj l o').heap.size = W.heap.size := by simp
  rw [hs]
  refine hX k ((ownB_cells (fun b hb => World.cell?_of_block (World.putObj_heap_other fun e => ?_)) k).1 hk)
  have := hbs b hb
  simp only at e
  omega
/-- What is below, lies as it lay: so nothing of the body's own is turned. -/
theorem KpT.below {vs bs : List Nat} {W W' : World} (h : Below W.heap.size W W') (hbs : ∀ b, b ∈ bs → b < W.heap.size) : KpT vs bs W W' :=
  ⟨⟨h.size, fun k o hk _ _ => (h.block k (Array.getElem?_eq_some_iff.1 hk).1).trans hk, fun k hk => .inl ((ownB_below h hbs k).1 hk)⟩, fun hX k hk => Nat.lt_of_lt_of_le (hX k ((ownB_below h hbs k).1 hk)) h.size⟩
theorem KpT.alloc {vs bs : List Nat} {W : World} (o : Obj) (hbs : ∀ b, b ∈ bs → b < W.heap.size) : KpT vs bs W (W.alloc o) := KpT.below (below_new W o) hbs

/-- The cells of a world, as they were at first; what is the body's own lies behind them. -/
structure Sd (vs bs : List Nat) (w0 W : World) : Prop where
  size : w0.heap.size ≤ W.heap.size
  cell : ∀ (b j : Nat) (v : Value), w0.cell? ⟨b, j, none⟩ = some v → W.cell? ⟨b, j, none⟩ = some v
  own : ∀ k, ownB vs bs W k → w0.heap.size ≤ k ∧ k < W.heap.size
  bs : ∀ b, b ∈ bs → b < W.heap.size
theorem Sd.kpt {vs bs : List Nat} {w0 W W' : World} (h : Sd vs bs w0 W) (k : KpT vs bs W W') : Sd vs bs w0 W' := by
  refine ⟨Nat.le_trans h.size k.kp.size, fun b j v hv => k.kp.cell (fun hn => ?_) (h.cell b j v hv), fun i hi => ⟨?_, k.lt (fun i hi => (h.own i hi).2) i hi⟩, fun b hb => Nat.lt_of_lt_of_le (h.bs b hb) k.kp.size⟩
  · have := (h.own b hn).1
    have := World.block_lt_of_cell? w0 ⟨b, j, none⟩ hv
    simp only at this
    omega
  · rcases k.kp.own i hi with h1 | h1
    · exact (h.own i h1).1
    · exact Nat.le_trans h.size h1
theorem Sd.alloc {vs bs : List Nat} {w0 W : World} (h : Sd vs bs w0 W) (o : Obj) : Sd vs bs w0 (W.alloc o) := h.kpt (KpT.alloc o h.bs)
theorem Sd.below {vs bs : List Nat} {w0 W W' : World} (h : Sd vs bs w0 W) (k : Below W.heap.size W W') : Sd vs bs w0 W' := h.kpt (KpT.below k h.bs)
/-- A fresh block of the iterator's own is kept by a round. -/
theorem KpT.fresh {vs bs : List Nat} {w0 W W' : World} {o : Obj} (h : Sd vs bs w0 W) (k : KpT vs bs (W.alloc o) W') {j : Nat} {v : Value} (hc : (W.alloc o).cell? ⟨W.heap.size, j, none⟩ = some v) : W'.cell? ⟨W.heap.size, j, none⟩ = some v := by
  refine k.kp.cell (fun hn => ?_) hc
  have := (h.own _ ((ownB_below (below_new W o) h.bs _).1 hn)).2
  omega
/-- A tree read by its cells alone. -/
theorem Mem.cells {S S' : Nat → Prop} {w w' : World} {x : At} {y : Value} (h : Mem S w x y) (hS : ∀ b, S b → S' b) (hw : ∀ (b j : Nat) (v : Value), S b → w.cell? ⟨b, j, none⟩ = some v → w'.cell? ⟨b, j, none⟩ = some v) : Mem S' w' x y := by
  induction h with
  | v x h1 => exact .v x h1
  | e a cap sz hc => exact .e a cap sz hc
  | s b o n cap sz rs C hn hcap hc hSb hsz hcell hm ih =>
    exact .s b o n cap sz rs C hn hcap hc (hS b hSb) hsz (fun i j hi hj => hw b _ _ hSb (hcell i j hi hj)) ih
/-- A tree that lay in the first world: it, and where its arguments lie. -/
structure Fx (w0 : World) where
  t : Tm
  a : Option Addr
  n : Nat
  cap : Nat
  m : MemW w0 (.s 4 (Tm.rows t.args)) (.slice a n cap)
def Fx.enc {w0 : World} (x : Fx w0) : Array Value := #[.agg #[.int .i64 x.t.kind, .string x.t.name, .int .i64 x.t.n, .slice x.a x.n x.cap]]
theorem Fx.mem {w0 : World} (x : Fx w0) {vs bs : List Nat} {W : World} (h : Sd vs bs w0 W) : Mem (· < w0.heap.size) W (.s 4 (Tm.rows x.t.args)) (.slice x.a x.n x.cap) := Mem.cells x.m (fun _ h => h) fun b j v _ hv => h.cell b j v hv
theorem Fx.len {w0 : World} (x : Fx w0) : x.t.args.length = x.n ∧ x.n ≤ x.cap ∧ x.cap ≤ 9223372036854775807 := Tms.len x.m
/-- An element: its cells, where the tree's cells are what they were. -/
theorem Fx.at {w0 : World} (x : Fx w0) (i : Nat) (hi : i < x.n) : ∃ (b o : Nat) (y : Fx w0), x.a = some ⟨b, o, none⟩ ∧ Hid (x.t.args[i]? = some y.t) ∧
    Hid (∀ (vs bs : List Nat) (W : World), Sd vs bs w0 W → W.cell? ⟨b, o + i * 4, none⟩ = some (.int .i64 y.t.kind) ∧ W.cell? ⟨b, o + i * 4 + 1, none⟩ = some (.string y.t.name) ∧ W.cell? ⟨b, o + i * 4 + 2, none⟩ = some (.int .i64 y.t.n) ∧ W.cell? ⟨b, o + i * 4 + 3, none⟩ = some (.slice y.a y.n y.cap)) := by
  obtain ⟨b, o, y, a', n', cap', ha, _, Hy, c0, c1, c2, c3, hm⟩ := tm_at x.m i hi
  exact ⟨b, o, ⟨y, a', n', cap', hm.out⟩, ha, Hy, Lib.hid fun vs bs W h => ⟨h.cell _ _ _ c0, h.cell _ _ _ c1, h.cell _ _ _ c2, h.cell _ _ _ c3⟩⟩
/-- What an iterator over a tree says: it gives it and all that is in it, to whatever loop whose body keeps what is not its own. -/
def IterT (P : Program) (g : Nat) (lb : Array Value) (w0 : World) (t : Tm) (vs bs : List Nat) (w : World) : Prop :=
  ∀ n, SeqStopsK Fence.wide n P g lb (Fx.enc (w0 := w0)) (KpT vs bs) (fun ys => ys.map Fx.t = t.all) (fun pre => pre.map Fx.t <+: t.all) t.size w

theorem wide_ok' (n : Nat) : Fence.wide.depth.isSome = true → 1 ≤ n := fun h => by cases h
theorem room_wide (k : Nat) : Fence.wide.room k := fun d h => by cases h
theorem YieldAt.any {m : Nat} (m' : Nat) {P : Program} {l : Nat} {args : Array Value} {W : World} {R : Ending → World → Prop} (h : YieldAt Fence.wide m P l args W R) : YieldAt Fence.wide m' P l args W R := by
  obtain ⟨fn, tmps, assign, body, hy, hR⟩ := h
  exact ⟨fn, tmps, assign, body, hy, hR.1, fun c cs _ => hR.2 c cs (room_wide _)⟩
theorem AbidesFrom.alloc' {β : Type} {B : Nat} {J : β → World → Prop} (h : AbidesFrom B J) {s : β} {W : World} (o : Obj) (hs : J s W) : J s (W.alloc o) := h s W _ none hs (World.grownBy_alloc W o none) (fun r e => by cases e)
/-- Of what a tree's walk has told: the next part is one element's. -/
theorem told_snoc {w0 : World} {q q' : List (Fx w0)} {t : Tm} {ts : List Tm} {k : Nat} {x : Tm} (h : q.map Fx.t = t :: Tm.alls (ts.take k)) (hx : ts[k]? = some x) (h' : q'.map Fx.t = x.all) : (q ++ q').map Fx.t = t :: Tm.alls (ts.take (k + 1)) := by
  rw [List.map_append, h, h', Tm.alls_at hx, List.cons_append]
theorem told_part {w0 : World} {q q' : List (Fx w0)} {t : Tm} {ts : List Tm} {k : Nat} {x : Tm} (h : q.map Fx.t = t :: Tm.alls (ts.take k)) (hx : ts[k]? = some x) (h' : q'.map Fx.t <+: x.all) (ht : t.args = ts) : (q ++ q').map Fx.t <+: t.all := by
  subst ht
  rw [List.map_append, h, Tm.all_eq, List.cons_append]
  obtain ⟨r, hr⟩ := h'
  have e : Tm.alls t.args = Tm.alls (t.args.take (k + 1)) ++ Tm.alls (t.args.drop (k + 1)) := by rw [← Tm.alls_app, List.take_append_drop]
  rw [e, Tm.alls_at hx, ← hr]
  exact ⟨r ++ Tm.alls (t.args.drop (k + 1)), by simp⟩
/-- How the walk of a term ends: all has been told; or a round has said 'no more'. -/
def EachPost {w0 : World} (vs bs : List Nat) (t : Tm) (J Jx : List (Fx w0) → World → Prop) (pre : List (Fx w0)) (W : World) (e : Ending) (W' : World) : Prop :=
  (e = .returned (.bool true) ∧ KpT vs bs W W' ∧ ∃ q, q.map Fx.t = t.all ∧ J (pre ++ q) W') ∨ (e = .returned (.bool false) ∧ ∃ q, q.map Fx.t <+: t.all ∧ Jx (pre ++ q) W')

theorem abides_new {w0 : World} {B : Nat} {J : List (Fx w0) → World → Prop} (h : AbidesFrom B J) : ∀ s W o, J s W → J s (W.alloc o) := fun _ _ o hs => AbidesFrom.alloc' h o hs
end Go.Proofs.Ytmadfkofmehfkaa

/-
  term.each, term.All: an iterator over a term and all that is in it. No condition but how the term lies.
-/
namespace Go.Proofs.Ytmadfkofmehfkaa
open Go.RowKit
attribute [local go_sem] Oper.semAt_some

set_option maxRecDepth 100000 in
set_option maxHeartbeats 2000000 in
theorem each_any {w0 : World} {vs bs : List Nat} {l N : Nat} {J Jx : List (Fx w0) → World → Prop}
    (HA : Hid (∀ s W o, J s W → J s (W.alloc o)))
    (HY : Hid (∀ m pre x W, J pre W → pre.length < N → YieldAt Fence.wide m Try.prog l (Fx.enc x) W fun e W' => (e = .returned (.bool true) ∧ J (pre ++ [x]) W' ∧ KpT vs bs W W') ∨ (e = .returned (.bool false) ∧ Jx (pre ++ [x]) W')))
    (m : Nat) : ∀ (f : Nat) (t : Tm) (a : Option Addr) (n cap : Nat) (_ : MemW w0 (.s 4 (Tm.rows t.args)) (.slice a n cap)) (pre : List (Fx w0)) (W : World), t.size ≤ m → Sd vs bs w0 W → J pre W → pre.length + t.size ≤ N →
      CallsIn Fence.wide f Try.prog 76 #[.agg #[.int .i64 t.kind, .string t.name, .int .i64 t.n, .slice a n cap], .func (.yield l) #[] #[]] W (EachPost vs bs t J Jx pre W) := by
  induction m with
  | zero => intro f t a n cap _ pre W h; have := t.size_pos; omega
  | succ m ih =>
    intro f t a n cap hm pre W hsz hS hJ hN
    have IH := Lib.hid ih
    clear ih
    have hl := Tms.len hm
    have HL := Lib.hid hl.1
    have hcap := hl.2.1
    have hmx := hl.2.2
    clear hl
    have HZ := Lib.hid hsz
    have HN := Lib.hid hN
    have HM := Lib.hid hm
    have HS := Lib.hid hS
    have hp := t.size_pos
    obtain ⟨fn, tmps, assign, body, hy, hR⟩ := HY.out (f - 1) pre ⟨t, a, n, cap, hm⟩ (W.alloc (.cells #[.int .i64 t.kind, .string t.name, .int .i64 t.n, .slice a n cap] 24)) (HA.out _ _ _ hJ) (by omega)
    simp only [Fx.enc] at hy
    clear hsz hS hJ hN hp
    refine callsIn_of_wp Try.func76 rfl trivial ?_ rfl; simp only [Try.ntmps76, List.size_toArray, List.length_cons, List.length_nil, Nat.reduceAdd, Nat.reduceSub, Array.replicate_succ, Array.replicate_zero, List.push_toArray, List.append_toArray, List.nil_append, List.cons_append]
    gi_wp2
    refine ⟨wide_ok' _, ?_⟩
    refine hR.mono ?_
    rintro e W3 (⟨rfl, hJ3, hk3⟩ | ⟨rfl, hJx3⟩)
    · have hc3 : W3.cell? ⟨W.heap.size, 3, none⟩ = some (.slice a n cap) := KpT.fresh HS.out hk3 (Bo.new W 24 #[.int .i64 t.kind, .string t.name, .int .i64 t.n, .slice a n cap]).c4.2.2.2
      have HK3 := Lib.hid ((KpT.alloc _ HS.out.bs).trans hk3)
      have HJ3 := Lib.hid hJ3
      clear hJ3 hk3
      gi_wp2
      gi_loopw [14] (fun i wr => ∃ k : Nat, k ≤ n ∧ i = .int .i64 k ∧ Hid (KpT vs bs W wr) ∧ Hid (∃ q, q.map Fx.t = t :: Tm.alls (t.args.take k) ∧ J (pre ++ q) wr)) (fun i _ => n - (intOf i).toNat)
      case atStart => exact ⟨0, Nat.zero_le _, rfl, HK3.out, ⟨_, by rw [List.take_zero, Tm.alls]; rfl, HJ3.out⟩⟩
      case round =>
        obtain ⟨k, hk, rfl, HK, HQ⟩ := hrel
        by_cases hlt : k < n
        · obtain ⟨b, o, y, ay, ny, capy, ha, _, Hy, c0, c1, c2, c3, GY⟩ := tm_at HM.out k hlt
          have HSr := Lib.hid (HS.out.kpt HK.out)
          obtain ⟨q, hq1, hq2⟩ := HQ.out
          have HQ1 := Lib.hid hq1
          have HQ2 := Lib.hid hq2
          have HTS := Lib.hid (show y.size ≤ m by have := Tm.size_arg (mem_of_at Hy.out); have := HZ.out; omega)
          have HNS := Lib.hid (show (pre ++ q).length + y.size ≤ N by
            have h1 : q.length = (t :: Tm.alls (t.args.take k)).length := by rw [← hq1, List.length_map]
            have h2 := Tm.alls_le (ts := t.args) (k + 1)
            rw [Tm.alls_at Hy.out, List.length_append] at h2
            have h3 := HN.out
            rw [Tm.size_eq] at h3
            have e : y.all.length = y.size := rfl
            rw [List.length_cons] at h1
            rw [List.length_append]; omega)
          have x0 := HSr.out.cell _ _ _ c0
          have x1 := HSr.out.cell _ _ _ c1
          have x2 := HSr.out.cell _ _ _ c2
          have x3 := HSr.out.cell _ _ _ c3
          subst ha
          clear c0 c1 c2 c3 hq1 hq2 HQ
          gi_wp2_with (first
            | (refine ⟨trivial, wide_ok' _, ?_⟩
               gi_at_call 76
               refine (IH.out _ y ay ny capy GY.out (pre ++ q) _ HTS.out (HSr.out.alloc _) (HA.out _ _ _ HQ2.out) HNS.out).mono ?_
               rintro e W5 (⟨rfl, hk5, q5, hq5, hj5⟩ | ⟨rfl, q5, hq5, hj5⟩)
               all_goals
                 have HQ5 := Lib.hid hq5
                 have HJ5 := Lib.hid hj5
                 clear hq5 hj5))
          · have HK5 := Lib.hid ((HK.out.trans (KpT.alloc _ HSr.out.bs)).trans hk5)
            go_roundw
            case rel => exact ⟨k + 1, by omega, by go_num, HK5.out, q ++ q5, told_snoc HQ1.out Hy.out HQ5.out, by rw [← List.append_assoc]; exact HJ5.out⟩
            case measure => simp [intOf]; omega
          · go_ret
            exact .inr ⟨rfl, q ++ q5, told_part HQ1.out Hy.out HQ5.out rfl, by rw [← List.append_assoc]; exact HJ5.out⟩
        · have HT : Hid (t.args.take k = t.args) := Lib.hid (List.take_of_length_le (by have := HL.out; omega))
          gi_wp2
          go_ret
          obtain ⟨q, hq1, hq2⟩ := HQ.out
          exact .inl ⟨rfl, HK.out, q, by rw [hq1, HT.out, Tm.all_eq], hq2⟩
    · have HJ3 := Lib.hid hJx3
      clear hJx3
      gi_wp2
      go_ret
      exact .inr ⟨rfl, _, ⟨Tm.alls t.args, by rw [Tm.all_eq]; rfl⟩, HJ3.out⟩

set_option maxRecDepth 100000 in
set_option maxHeartbeats 2000000 in
/-- The value that term.All hands back: it tells the term and all that is in it. -/
theorem all1_term {w0 : World} {vs bs : List Nat} {t : Tm} {a : Option Addr} {n cap cb : Nat} {w : World} (hm : MemW w0 (.s 4 (Tm.rows t.args)) (.slice a n cap)) (hcb : Bo w cb 24 #[.int .i64 t.kind, .string t.name, .int .i64 t.n, .slice a n cap]) (hS : Sd vs bs w0 w) :
    IterT Try.prog 75 #[.pointer (some ⟨cb, 0, none⟩)] w0 t vs bs w := by
  intro f l J Jx W hW hJ hJx hY h0
  obtain ⟨c0, c1, c2, c3⟩ := (hcb.keep hW).c4
  have HE := Lib.hid (each_any (w0 := w0) (vs := vs) (bs := bs) (l := l) (N := t.size) (J := J) (Jx := Jx) (Lib.hid (abides_new hJ)) (Lib.hid fun m pre x W1 h1 h2 => YieldAt.any m (hY pre x W1 h1 h2)) t.size (f - 1) t a n cap hm [] W (Nat.le_refl _) (hS.below hW) h0 (by simp))
  clear hcb hY hJ hJx h0 hW hS
  refine callsIn_of_wp Try.func75 rfl trivial ?_ rfl; simp only [Try.ntmps75, List.size_toArray, List.length_cons, List.length_nil, Nat.reduceAdd, Nat.reduceSub, Array.replicate_succ, Array.replicate_zero, List.push_toArray, List.append_toArray, List.nil_append, List.cons_append]
  gi_wp2_with (first
    | (refine ⟨trivial, wide_ok' _, ?_⟩
       gi_at_call 76
       refine HE.out.mono ?_
       rintro e W5 (⟨rfl, _, q5, hq5, hj5⟩ | ⟨rfl, q5, hq5, hj5⟩)
       all_goals
         have HQ5 := Lib.hid hq5
         have HJ5 := Lib.hid hj5
         clear hq5 hj5))
  · go_end0
    exact ⟨⟨_, rfl⟩, .inl ⟨q5, HQ5.out, HJ5.out⟩⟩
  · go_end0
    exact ⟨⟨_, rfl⟩, .inr ⟨q5, HQ5.out, HJ5.out⟩⟩
theorem allT_any (t : Tm) (a : Option Addr) (n cap : Nat) (w : World) :
    Calls Try.prog 68 #[.agg #[.int .i64 t.kind, .string t.name, .int .i64 t.n, .slice a n cap]] w fun e w' => e = .returned (.func (.func 75) #[] #[.pointer (some ⟨w.heap.size, 0, none⟩)]) ∧ w.alloc (.cells #[.int .i64 t.kind, .string t.name, .int .i64 t.n, .slice a n cap] 24) = w' := by
  go_enter Try.func68, Try.ntmps68
  go_wp2
  go_ret
  exact ⟨rfl, rfl⟩
end Go.Proofs.Ytmadfkofmehfkaa
