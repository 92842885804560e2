/-
  The walk of the law's list of a queue ('for x := range q.All()'). No condition but sizes.
-/
import Derived.Test.YtemkpecagflafaaQIter
import Derived.Shelf.Abstract
import Derived.RangeFuncWrites
namespace Go.Proofs.Ytemkpecagflafaa
open Go.RowKit
attribute [local go_sem] Oper.semAt_some

/-- 'append' inside a fence, and where the new row lies. -/
theorem wpListIn_append_lies {F : Fence} {n : Nat} {P : Program} (w : World) {ops : Array Oper} {rest : List Oper} {o : Oper} {a : Act} {Q : Exit → Act → World → Prop}
    (hg : o.guard = none) (s x : Operand) (t : TypeId) (hop : o.op = Op.call { callee := Callee.builtin Builtin.append, args := #[s, x], argTypes := #[t, t] })
    (base : Nat) (e : TypeId) (i : TypeInfo) (z : Value) (size bytes : Nat) (h1 : P.underlying t = some (.slice e)) (h2 : P.info? e = some i) (h3 : i.zero = some z) (h4 : i.size = size) (h5 : i.bytes = bytes) (h6 : z.cells.size = size) (h7 : 0 < size)
    (v : Value) (k : Nat) (xs : List Value) (hs : a.eval s = v) (hown : w.ownsRow base e size v k xs) (ad : Addr) (m c : Nat) (news : List Value) (hx : a.eval x = .slice (some ad) m c) (hn : news.length = m * size)
    (hc : ∀ j u, news[j]? = some u → w.cell? (ad.add j) = some u) (h1c : ∀ u ∈ news, u.oneCell' = true) (hm : 0 < m) (b1 : k + m ≤ maxLen) (b2 : (k + m) * bytes ≤ 140737488355328) (b3 : base ≤ w.heap.size) (H : Nat) (hH : w.heap.size = H)
    (hK : ∀ g cap w', w'.ownsRow base e size (.slice (some ⟨g, 0, none⟩) (k + m) cap) (k + m) (xs ++ news) → w.grownBy w' v.ownBlock → (v.ownBlock = some g ∨ g = H) → g < w'.heap.size → wpListIn F n P ops Q rest (a.put o.dst (.slice (some ⟨g, 0, none⟩) (k + m) cap)) w') :
    wpListIn F n P ops Q (o :: rest) a w := by
  refine wpListIn_plain hg fun K hK' => ?_
  obtain ⟨g, cap, w', hrun, r1, r2, r3, r4⟩ := run_append_lies (P := P) w t o.type base e i z size bytes h1 h2 h3 h4 h5 h6 h7 v k xs hown ad m c news hn hc h1c hm b1 b2 b3 H hH
  unfold Oper.wpIn
  refine ⟨?_, ?_⟩
  · simp [Oper.about, hop, resolve, Target.leads, Sem.run_pure]
  · rw [Oper.semAt_plain F _ _ (by rw [hop]; intro c hc'; cases hc')]
    simp [execOp, hop, resolve, invoke, builtin, hs, hx, hrun, Result.andThen]
    exact hK' _ _ (hK g cap w' r1 r2 r3 r4)

/-- What 'out = append(out, x)' in a loop's body keeps. -/
theorem collect_kpo {W w1 : World} {tmp : Obj} {B base k g n cap : Nat} {t e : TypeId} {size : Nat} {v : Value} {xs : List Value} (hv : Boxed W B t v) (hv1 : Boxed w1 B t v) (hrow : W.ownsRow base e size v k xs)
    (hgrow : (W.alloc tmp).grownBy w1 v.ownBlock) (hat : v.ownBlock = some g ∨ g = W.heap.size + 1) : KpO [B] [B] W (w1.setCell ⟨B, 0, none⟩ (.slice (some ⟨g, 0, none⟩) n cap)) := by
  have hown : ∀ j, v.ownBlock = some j → ownB [B] [B] W j := fun j hj => by
    rcases hrow.2 with ⟨rfl, _⟩ | ⟨g', cap', cur, rfl, _⟩
    · simp [Value.ownBlock] at hj
    · obtain rfl : g' = j := by simpa [Value.ownBlock] using hj
      exact .inr ⟨B, by simp, _, _, hv.cell⟩
  refine ⟨?_, fun j o hj hn _ => ?_, fun j hj => ?_⟩
  · have h1 := hgrow.size
    simp only [World.size_alloc] at h1
    have h2 := (grownBy_setCell w1 B 0 (.slice (some ⟨g, 0, none⟩) n cap)).size
    omega
  · have hlt := (Array.getElem?_eq_some_iff.1 hj).1
    have hjB : j ≠ B := fun e => hn (.inl (by simp [e]))
    have h1 : (w1.setCell ⟨B, 0, none⟩ (.slice (some ⟨g, 0, none⟩) n cap)).heap[j]? = w1.heap[j]? := Below.heap_setCell w1 ⟨B, 0, none⟩ _ j (fun e => hjB e)
    rw [h1, hgrow.block j (by simp; omega) (fun e => hn (hown j e.symm))]
    rw [Below.heap_alloc _ _ _ (by omega)]
    exact hj
  · rcases hj with h1 | ⟨b, hb, n', c', hc⟩
    · exact .inl (.inl h1)
    · obtain rfl : b = B := by simpa using hb
      rw [(hv1.set _).cell] at hc
      injection hc with hc
      injection hc with hc
      injection hc with hc
      injection hc with hc
      subst hc
      rcases hat with h2 | h2
      · exact .inl (hown _ h2)
      · exact .inr (by omega)

theorem Rd.below_put {W : World} {a : Option Addr} {n cap sz D : Nat} {xs : List Value} {o o' : Obj} (h : Rd W.heap.size W a n cap sz xs) (hD : W.heap[D]? = some o) (ho : o.isCells = false) :
    Rd (W.putObj D o').heap.size (W.putObj D o') a n cap sz xs := by
  obtain ⟨h1, h2, h3, h4⟩ := h
  refine ⟨h1, h2, h3, ?_⟩
  rcases h4 with h4 | ⟨b, o2, rfl, hb, hc⟩
  · exact .inl h4
  · refine .inr ⟨b, o2, rfl, by simpa using hb, fun j hj => ?_⟩
    rw [← hc j hj]
    refine World.cell?_of_block (World.putObj_heap_other fun e => ?_)
    have h5 := hc j hj
    simp only at e
    subst e
    simp only [World.cell?, hD] at h5
    cases o <;> simp_all [Obj.isCells]

/-- The list of a queue, at most so many. -/
def AllPost (w : World) (xs : List Int) (e : Ending) (w' : World) : Prop := Below w.heap.size w w' ∧ ∃ a n cap, e = .returned (.slice a n cap) ∧ Rd w'.heap.size w' a n cap 1 (ints xs)

set_option maxRecDepth 100000 in
set_option maxHeartbeats 2000000 in
theorem lawAll_gen {p : Option Addr} {xs : List Int} {w : World} (most : Int) (hn : xs.length ≤ 10000)
    (HQ : Hid (∀ (w3 : World) (vs bs : List Nat) (cb : Nat), Below w.heap.size w w3 → w3.cell? ⟨cb, 0, none⟩ = some (.pointer p) → (∀ b, b ∈ bs → b < w3.heap.size) → (∀ b, ownB vs bs w3 b → b < w3.heap.size) →
      Iter Try.prog 114 #[.pointer (some ⟨cb, 0, none⟩)] (fun x : Int => #[.int .i64 x]) xs vs bs w3)) :
    Calls Try.prog 20 #[.pointer p, .int .i64 most] w (AllPost w (xs.take most.toNat)) := by
  obtain ⟨i0, hi, hz0, hz1, hz2⟩ := info_parts info_int
  have b0 := Boxed.new w 3 (.int .i64 most)
  have b1 := Boxed.new (w.alloc (.cells #[.int .i64 most] 3)) 22 (.slice none 0 0)
  have b2 := Boxed.new ((w.alloc (.cells #[.int .i64 most] 3)).alloc (.cells #[.slice none 0 0] 22)) 24 (.pointer p)
  rw [World.size_alloc] at b1
  rw [World.size_alloc, World.size_alloc] at b2
  have b0' := (b0.alloc (.cells #[.slice none 0 0] 22)).alloc (.cells #[.pointer p] 24)
  have b1' := b1.alloc (.cells #[.pointer p] 24)
  have hB0 : Below w.heap.size w (((w.alloc (.cells #[.int .i64 most] 3)).alloc (.cells #[.slice none 0 0] 22)).alloc (.cells #[.pointer p] 24)) := (((Below.refl _ w).alloc (Nat.le_refl _) _).alloc (by simp) _).alloc (by simp; omega) _
  have hsz : (((w.alloc (.cells #[.int .i64 most] 3)).alloc (.cells #[.slice none 0 0] 22)).alloc (.cells #[.pointer p] 24)).heap.size = w.heap.size + 3 := by simp
  have H0 := Lib.hid b0'
  have H1 := Lib.hid b1'
  have H2 := Lib.hid b2
  clear b0 b1 b2 b0' b1'
  refine (callsIn_wide (n := 9)).1 ?_
  refine callsIn_of_wp_marks Try.func20 rfl trivial ?_ rfl; simp only [Try.ntmps20, List.size_toArray, List.length_cons, List.length_nil, Nat.reduceAdd, Nat.reduceSub, Array.replicate_succ, Array.replicate_zero, List.push_toArray, List.append_toArray, List.nil_append, List.cons_append]
  refine wpIn_wide.2 ?_
  go_wp2_with (first | (go_at_call 82; refine (qAll_any _ _).mono ?_; rintro e w' ⟨rfl, rfl⟩))
  refine (wpIn_wide (n := 9)).1 ?_
  generalize (((w.alloc (.cells #[.int .i64 most] 3)).alloc (.cells #[.slice none 0 0] 22)).alloc (.cells #[.pointer p] 24)) = w3 at *
  have hseq : Iter Try.prog 114 #[.pointer (some ⟨w.heap.size + 1 + 1, 0, none⟩)] (fun x : Int => #[.int .i64 x]) xs [w.heap.size + 1] [w.heap.size + 1] w3 :=
    HQ.out w3 _ _ _ hB0 H2.out.cell (fun b hb => by simp at hb; omega) (fun b hb => by
      rcases hb with h | ⟨b', hb', n, c, hc⟩
      · simp at h; omega
      · obtain rfl : b' = w.heap.size + 1 := by simpa using hb'
        rw [H1.out.cell] at hc
        cases hc)
  refine wpIn_rangeFunc_ownG (w0 := w3) rfl (by decide) (gf := 114) (lb := #[.pointer (some ⟨w.heap.size + 1 + 1, 0, none⟩)]) rfl trivial (enters_of Try.func114 (by kernel_rfl) rfl)
    (hseq 8) (fun h k => KpO.trans h k) (KpO_b (fun b hb => by simp at hb; omega)) (Below.refl _ _) (fun _ => rfl)
    (fun pre W => (∃ v, Boxed W (w.heap.size + 1) 22 v ∧ W.ownsRow (w.heap.size + 1) 3 1 v pre.length (ints pre) ∧ pre.length ≤ most.toNat) ∧ Below w.heap.size w W ∧ Boxed W w.heap.size 3 (.int .i64 most))
    (fun c pre W => (∃ v, Boxed W (w.heap.size + 1) 22 v ∧ W.ownsRow (w.heap.size + 1) 3 1 v (pre.take most.toNat).length (ints (pre.take most.toNat)) ∧ most.toNat < pre.length) ∧ Below w.heap.size w W ∧ c = .exit 0)
    ?hI ?hIx ?h0
    (fun x => { tmps := #[.pointer p, .int .i64 most, undef, .pointer (some ⟨w.heap.size, 0, none⟩), .slice none 0 0, .pointer (some ⟨w.heap.size + 1, 0, none⟩), .int .i64 x, .pointer p, .func (.func 114) #[] #[.pointer (some ⟨w.heap.size + 1 + 1, 0, none⟩)], .int .i64 x, undef, undef, undef, undef, undef, undef, undef, undef, undef], defers := [] }) ?assign ?body ?done ?stop
  case assign =>
    intro l x W K hK
    gi_wp2
    exact hK
  case hI => exact OwnFrom.and (Own.from (holdsRow_own (w.heap.size + 1) (w.heap.size + 1) 22 3 1 (fun pre => pre.length) (fun pre => ints pre) (fun pre v => pre.length ≤ most.toNat)) _) (OwnFrom.and (ownFrom_below (Nat.le_refl _) (by omega)) (Own.from (fun s X Y row hs hg hr => hs.kept hg (fun e => by obtain ⟨o, ho, hc⟩ := hr _ e.symm; rw [show X.heap[w.heap.size]? = _ from hs] at ho; cases ho; cases hc)) _))
  case hIx => exact fun c => OwnFrom.and (Own.from (holdsRow_own (w.heap.size + 1) (w.heap.size + 1) 22 3 1 (fun pre : List Int => (pre.take most.toNat).length) (fun pre => ints (pre.take most.toNat)) (fun pre v => most.toNat < pre.length)) _) (OwnFrom.and (ownFrom_below (Nat.le_refl _) (by omega)) (fun _ _ _ _ hs _ _ => hs))
  case h0 => exact ⟨⟨_, H1.out, World.ownsRow_nil _ _ _ _, Nat.zero_le _⟩, hB0, H0.out⟩
  case body =>
    rintro l pre x W ⟨⟨v, hv, hrow, hle⟩, hB, hm⟩ hlt
    obtain ⟨a1, cap1, rfl, -, -⟩ := owns_rd hrow (by omega)
    have hc := hv.cell
    have hcm := hm.cell
    have hfz := hv.frozen
    by_cases hmost : most ≤ (pre.length : Int)
    · have hT : (pre ++ [x]).take most.toNat = pre := by rw [List.take_append_of_le_length (by omega), List.take_of_length_le (by omega)]
      clear hle
      gi_wp2
      exact ⟨KeepsFrom.refl _ _, ⟨_, hv, by rw [hT]; exact hrow, by simp; omega⟩, hB, rfl⟩
    · clear hle
      gi_wp2_with (gi_at_builtin; refine wpListIn_append_lies _ rfl _ _ 22 rfl (w.heap.size + 1) 3 i0 (.int .i64 0) 1 8 Try.underlying22 hi hz0 hz1 hz2 rfl (by decide) _ _ _ rfl (hrow.alloc _) ⟨W.heap.size, 0, none⟩ 1 1 [.int .i64 x] rfl rfl (cell_one_new _ _ _) (by simp [Value.oneCell']) (by omega) (by unfold maxLen; omega) (by omega) (by have := hm.lt; simp; omega) (W.heap.size + 1) (by simp) ?_; intro g cap w1 hown' hgrow hat _; obtain ⟨hv1, hv2, hr2, hk2, hb2⟩ := hv.appended (by decide) hrow (by have := hm.lt; omega) (Nat.le_refl _) hown' hgrow; have hkp := collect_kpo (n := pre.length + 1) (cap := cap) hv hv1 hrow hgrow hat; have hc1 := hv1.cell; have hf1 := hv1.frozen)
      exact ⟨hk2.from _, hkp, ⟨_, hv2, by simpa [ints] using hr2, by simp; omega⟩, hB.trans (hb2.mono (by omega)), (hb2.block _ (by omega)).trans hm⟩
  case done =>
    rintro D ys W hD rfl ⟨⟨v, hv, hrow, hle⟩, hB, hm⟩ hK
    obtain ⟨a1, cap1, rfl, hR, -⟩ := owns_rd hrow (by omega)
    have hc := hv.cell
    have HT := Lib.hid (show ys.take most.toNat = ys from List.take_of_length_le hle)
    clear hle
    go_wp2
    refine ⟨by simp, .inl ⟨_, _, rfl, run_takeDeferred hK, ?_⟩⟩
    refine ⟨_, results_tmp rfl _ _ _, hB.trans (belowK_b (w := w) (Nat.le_refl _) W D _ _ (by omega) hK rfl rfl), _, _, _, rfl, ?_⟩
    rw [HT.out]
    exact Rd.below_put hR hK rfl
  case stop =>
    rintro D c pre W hD hpre ⟨⟨v, hv, hrow, hgt⟩, hB, rfl⟩ hK
    have hpl : (pre.take most.toNat).length ≤ 10000 := by have := List.length_take_le most.toNat pre; have := hpre.length_le; rw [List.length_take]; omega
    have HT := Lib.hid (show pre.take most.toNat = xs.take most.toNat by obtain ⟨t, rfl⟩ := hpre; rw [List.take_append_of_le_length (by omega)])
    obtain ⟨a1, cap1, rfl, hR, -⟩ := owns_rd hrow (by omega)
    clear hgt
    have hc := hv.cell
    refine wpIn_wide.2 ?_
    go_wp2
    refine ⟨by simp, .inl ⟨_, _, rfl, run_takeDeferred hK, ?_⟩⟩
    refine ⟨_, results_tmp rfl _ _ _, hB.trans (belowK_b (w := w) (Nat.le_refl _) W D _ _ (by omega) hK rfl rfl), _, _, _, rfl, ?_⟩
    rw [← HT.out, ← List.length_take]
    exact Rd.below_put hR hK rfl
theorem lawAll_any {S : Nat → Prop} {qb m f : Nat} {a : Option Addr} {ys xs : List Int} {w : World} (most : Int) (hq : QS S w qb xs a m f ys) (hn : xs.length ≤ 10000) :
    Calls Try.prog 20 #[.pointer (some ⟨qb, 0, none⟩), .int .i64 most] w (AllPost w (xs.take most.toNat)) :=
  lawAll_gen most hn (Lib.hid fun _ _ _ _ hb hc hbs hvs => all1_any hc (hq.below hb) hn hbs hvs)

set_option maxRecDepth 100000 in
set_option maxHeartbeats 2000000 in
theorem all1_nil {vs bs : List Nat} {cb : Nat} {w : World} (hcb : w.cell? ⟨cb, 0, none⟩ = some (.pointer none))
    (hbs : ∀ b, b ∈ bs → b < w.heap.size) :
    Iter Try.prog 114 #[.pointer (some ⟨cb, 0, none⟩)] (fun x : Int => #[.int .i64 x]) [] vs bs w := by
  intro n l J Jx W hW hJ hJx hY h0
  have hcb' := (hW.cell (p := ⟨cb, 0, none⟩) (World.block_lt_of_cell? w _ hcb)).trans hcb
  have HV := Lib.hid (iter_later (α := Int) hJ hJx hY h0 (Below.refl _ _) hW (sl := .slice none 0 0) (t := 22) (g := 125)
    (fun w2 hw2 hc => values1_any (vs := vs) (bs := bs) (xs := []) hc ⟨rfl, Nat.le_refl _, by decide, .inl rfl⟩ (fun b o e hY => by cases e) (fun b hb => Nat.lt_of_lt_of_le (hbs b hb) (Nat.le_trans hW.size hw2.size))))
  clear hJ hJx hY h0 hW hcb
  refine callsIn_wide.2 ?_
  go_enter Try.func114, Try.ntmps114
  go_wp2_with (first | (go_at_call 23; refine (qLen_nil _).mono ?_; rintro e w' ⟨rfl, rfl⟩))
  go_loopw [3, 4, 7] (fun sl _ i wr => i = .int .i64 0 ∧ sl = .slice none 0 0 ∧ W = wr) (fun _ _ i _ => 0)
  case atStart => exact ⟨rfl, rfl, rfl⟩
  case round =>
    obtain ⟨rfl, rfl, rfl⟩ := hrel
    go_wp2_with (first | (go_at_call 115; refine (values_any _ _ _ _).mono ?_; rintro e w' ⟨rfl, rfl⟩) | (go_at_call 125; refine HV.out.mono ?_; rintro e w' ⟨⟨v, rfl⟩, hfin⟩; have HFin := Lib.hid hfin; clear hfin))
    go_end0
    exact ⟨⟨_, rfl⟩, HFin.out⟩

theorem lawAll_nil {w : World} (most : Int) :
    Calls Try.prog 20 #[.pointer none, .int .i64 most] w (AllPost w []) := by
  have h := lawAll_gen (p := none) (xs := []) (w := w) most (by decide) (Lib.hid fun _ _ _ _ hb hc hbs hvs => all1_nil hc hbs)
  rwa [List.take_nil] at h
end Go.Proofs.Ytemkpecagflafaa
