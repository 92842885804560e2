/-
  What a loop's body over an iterator keeps: its variables, and the slices of its own. Plain lemmas. No condition.
-/
import Derived.Test.YtmadfkofmehfkaaAt36
import Derived.Shelf.Abstract
import Derived.RangeFuncWrites
namespace Go.Proofs.Ytmadfkofmehfkaa
open Go.RowKit

theorem Bo.own {w w' : World} {q : Nat} {t : TypeId} {cs : Array Value} {row : Option Nat} (h : Bo w q t cs) (hg : w.grownBy w' row) (hr : ∀ r, row = some r → ∃ o : Obj, w.heap[r]? = some o ∧ o.isCells = false) : Bo w' q t cs :=
  (hg.block q h.lt (fun e => by obtain ⟨o, ho, hc⟩ := hr q e.symm; rw [show w.heap[q]? = _ from h] at ho; cases ho; cases hc)).trans h
/-- The tree's cells lie as they lay, and the body owns nothing yet, but its variables. -/
theorem Sd.new {vs bs : List Nat} {w0 W : World} (h : Below w0.heap.size w0 W) (hb : ∀ b, b ∈ bs → b < W.heap.size) (ho : ∀ k, ownB vs bs W k → w0.heap.size ≤ k ∧ k < W.heap.size) : Sd vs bs w0 W :=
  ⟨h.size, fun b j _ hv => (h.cell (p := ⟨b, j, none⟩) (World.block_lt_of_cell? w0 ⟨b, j, none⟩ hv)).trans hv, ho, hb⟩
theorem ownB_nil {W : World} {k : Nat} (h : ownB [] [] W k) : False := by
  rcases h with h | ⟨b, hb, _⟩
  · cases h
  · cases hb

theorem OwnD.own {B base : Nat} {e : TypeId} {sz : Nat} {w w' : World} {y : Value} {rs : List (List At)} {row : Option Nat} (h : OwnD B base e sz w y rs) (hg : w.grownBy w' row) (hr : ∀ r, row = some r → ∃ o : Obj, w.heap[r]? = some o ∧ o.isCells = false) : OwnD B base e sz w' y rs := by
  obtain ⟨css, h1, h2⟩ := h
  have hc : ∀ (b j : Nat) (v : Value), w.cell? ⟨b, j, none⟩ = some v → w'.cell? ⟨b, j, none⟩ = some v := fun b j v hv => by
    refine (World.cell?_of_block (hg.block b (World.block_lt_of_cell? w _ hv) fun e => ?_)).trans hv
    obtain ⟨o, ho, hno⟩ := hr b e.symm
    simp only [World.cell?, ho] at hv
    cases o <;> simp_all [Obj.isCells]
  refine ⟨css, ⟨h1.1, ?_⟩, h2.imp fun r cs ⟨hl, hm⟩ => ⟨hl, hm.imp fun a b hab => Mem.cells hab (fun k hk => ⟨⟨hk.1.1, Nat.lt_of_lt_of_le hk.1.2 hg.size⟩, hk.2⟩) fun b j v _ hv => hc b j v hv⟩⟩
  rcases h1.2 with hn | ⟨g, cap, cur, rfl, hb, hgg, rest⟩
  · exact .inl hn
  · refine .inr ⟨g, cap, cur, rfl, hb, (hg.block g (Array.getElem?_eq_some_iff.1 hgg).1 fun e => ?_).trans hgg, rest⟩
    obtain ⟨o, ho, hno⟩ := hr g e.symm
    rw [hgg] at ho; cases ho; cases hno
/-- A variable that holds a slice of the body's own. -/
def HoldsD {β : Type} (g B base : Nat) (T e : TypeId) (sz : Nat) (f : β → List (List At)) (p : β → Prop) (s : β) (W : World) : Prop := ∃ v, Boxed W g T v ∧ OwnD B base e sz W v (f s) ∧ p s
theorem holdsD_own {β : Type} (g B base : Nat) (T e : TypeId) (sz : Nat) (f : β → List (List At)) (p : β → Prop) : Own (HoldsD g B base T e sz f p) := fun s W W' row ⟨v, h1, h2, h3⟩ hg hr =>
  ⟨v, h1.kept hg (fun e => by obtain ⟨o, ho, hc⟩ := hr g e.symm; rw [show W.heap[g]? = _ from h1] at ho; cases ho; cases hc), h2.own hg hr, h3⟩
/-- What a round that turns the variable g and its row keeps. -/
theorem kpt_of {g : Nat} {W W' : World} {v v' : Value} {T : TypeId} (hv : Boxed W g T v) (hv' : Boxed W' g T v') (hs : W.heap.size ≤ W'.heap.size) (hsame : ∀ k, k < W.heap.size → k ≠ g → v.ownBlock ≠ some k → W'.heap[k]? = W.heap[k]?)
    (hown : ∀ k, v'.ownBlock = some k → (v.ownBlock = some k ∨ W.heap.size ≤ k) ∧ k < W'.heap.size) (hsl : v = .slice none 0 0 ∨ ∃ b n c, v = .slice (some ⟨b, 0, none⟩) n c) : KpT [g] [g] W W' := by
  have h1 : ∀ k, v.ownBlock = some k → ownB [g] [g] W k := fun k hk => by
    rcases hsl with rfl | ⟨b, n, c, rfl⟩
    · cases hk
    · have : b = k := by simpa [Value.ownBlock] using hk
      subst this
      exact .inr ⟨g, by simp, n, c, hv.cell⟩
  have h2 : ∀ k, ownB [g] [g] W' k → k = g ∨ v'.ownBlock = some k := fun k hk => by
    rcases hk with h | ⟨b, hb, n, c, hc⟩
    · exact .inl (by simpa using h)
    · obtain rfl : b = g := by simpa using hb
      rw [hv'.cell] at hc
      cases hc
      exact .inr rfl
  refine ⟨⟨hs, fun k o hk hn _ => ?_, fun k hk => ?_⟩, fun _ k hk => ?_⟩
  · have hlt := (Array.getElem?_eq_some_iff.1 hk).1
    exact (hsame k hlt (fun e => hn (.inl (by simp [e]))) (fun e => hn (h1 k e))).trans hk
  · rcases h2 k hk with rfl | h
    · exact .inl (.inl (by simp))
    · rcases (hown k h).1 with h3 | h3
      · exact .inl (h1 k h3)
      · exact .inr h3
  · rcases h2 k hk with rfl | h
    · exact hv'.lt
    · exact (hown k h).2
theorem keeps_of {g B : Nat} {W W' : World} {v : Value} {T e : TypeId} {b' base sz : Nat} {rs : List (List At)} (hv : Boxed W g T v) (hO : OwnD b' base e sz W v rs) (hs : W.heap.size ≤ W'.heap.size) (hsame : ∀ k, k < W.heap.size → k ≠ g → v.ownBlock ≠ some k → W'.heap[k]? = W.heap[k]?) : KeepsFrom B W W' := by
  refine ⟨hs, fun k o _ hk ho => (hsame k (Array.getElem?_eq_some_iff.1 hk).1 (fun e => ?_) (fun e => ?_)).trans hk⟩
  · subst e
    rw [show W.heap[k]? = _ from hv] at hk; cases hk; cases ho
  · obtain ⟨css, h1, _⟩ := hO
    rcases h1.2 with ⟨rfl, _⟩ | ⟨g', cap, cur, rfl, _, hgg, _⟩
    · cases e
    · have : g' = k := by simpa [Value.ownBlock] using e
      subst this
      rw [hgg] at hk; cases hk; cases ho
theorem OwnD.slice {B base : Nat} {e : TypeId} {sz : Nat} {w : World} {y : Value} {rs : List (List At)} (h : OwnD B base e sz w y rs) : y = .slice none 0 0 ∨ ∃ b n c, y = .slice (some ⟨b, 0, none⟩) n c := by
  obtain ⟨css, h1, _⟩ := h
  rcases h1.2 with ⟨rfl, _⟩ | ⟨g', cap, cur, rfl, _⟩
  · exact .inl rfl
  · exact .inr ⟨_, _, _, rfl⟩
theorem OwnD.cellFar {B base : Nat} {e : TypeId} {sz : Nat} {w : World} {y : Value} {rs : List (List At)} (h : OwnD B base e sz w y rs) (g : Nat) (v : Value) (h1 : g < base) (h2 : B ≤ g) : OwnD B base e sz (w.setCell ⟨g, 0, none⟩ v) y rs := by
  have hs : (w.setCell ⟨g, 0, none⟩ v).heap.size = w.heap.size := by simp [World.setCell]
  obtain ⟨css, ho, hm⟩ := h
  refine ⟨css, ⟨ho.1, ?_⟩, hm.imp fun r cs' ⟨hc, hm⟩ => ⟨hc, hm.imp fun x y' hx => hx.mono (fun b ⟨⟨h1, h3⟩, h2⟩ => ⟨⟨h1, by rw [hs]; exact h3⟩, h2⟩) fun b ⟨⟨h3, _⟩, _⟩ => heap_setCell_other w ⟨g, 0, none⟩ b v (by show b ≠ g; rcases h3 with h3 | h3 <;> omega)⟩⟩
  rcases ho.2 with hn | ⟨g', cap, cur, rfl, hb, hgg, rest⟩
  · exact .inl hn
  · exact .inr ⟨g', cap, cur, rfl, hb, (heap_setCell_other w ⟨g, 0, none⟩ g' v (by show g' ≠ g; omega)).trans hgg, rest⟩
theorem boxed_of {w w' : World} {g : Nat} {T : TypeId} {v : Value} (h : Boxed w g T v) (hb : w'.heap[g]? = w.heap[g]?) : Boxed w' g T v := hb.trans h
end Go.Proofs.Ytmadfkofmehfkaa

/-
  term.Ground: whether there is no variable in a term. No condition but how it lies.
-/
namespace Go.Proofs.Ytmadfkofmehfkaa
open Go.RowKit
attribute [local go_sem] Oper.semAt_some

/-- No variable is in it. -/
def groundB (t : Tm) : Bool := t.all.all fun x => x.kind != 3
set_option maxRecDepth 100000 in
set_option maxHeartbeats 2000000 in
theorem ground_any {t : Tm} {a : Option Addr} {n cap : Nat} (w : World) (h : MemW w (.s 4 (Tm.rows t.args)) (.slice a n cap)) :
    Calls Try.prog 55 #[.agg #[.int .i64 t.kind, .string t.name, .int .i64 t.n, .slice a n cap]] w fun e w' => e = .returned (.bool (groundB t)) ∧ Below w.heap.size w w' := by
  have b2 := Bo.new ((w.alloc (.cells #[.int .i64 t.kind, .string t.name, .int .i64 t.n, .slice a n cap] 24)).alloc (.cells #[.bool false] 4)) 24 #[.int .i64 t.kind, .string t.name, .int .i64 t.n, .slice a n cap]
  have b1 := (Boxed.new (w.alloc (.cells #[.int .i64 t.kind, .string t.name, .int .i64 t.n, .slice a n cap] 24)) 4 (.bool false)).alloc (.cells #[.int .i64 t.kind, .string t.name, .int .i64 t.n, .slice a n cap] 24)
  have hB0 : Below w.heap.size w (((w.alloc (.cells #[.int .i64 t.kind, .string t.name, .int .i64 t.n, .slice a n cap] 24)).alloc (.cells #[.bool false] 4)).alloc (.cells #[.int .i64 t.kind, .string t.name, .int .i64 t.n, .slice a n cap] 24)) := (((Below.refl _ w).alloc (Nat.le_refl _) _).alloc (by simp) _).alloc (by simp; omega) _
  have hsz : (((w.alloc (.cells #[.int .i64 t.kind, .string t.name, .int .i64 t.n, .slice a n cap] 24)).alloc (.cells #[.bool false] 4)).alloc (.cells #[.int .i64 t.kind, .string t.name, .int .i64 t.n, .slice a n cap] 24)).heap.size = w.heap.size + 3 := by simp
  simp only [World.size_alloc] at b1 b2
  have H1 := Lib.hid b1
  have H2 := Lib.hid b2
  have HB0 := Lib.hid hB0
  have HSZ := Lib.hid hsz
  clear b1 b2 hB0 hsz
  refine (callsIn_wide (n := 9)).1 ?_
  refine callsIn_of_wp_marks Try.func55 rfl trivial ?_ rfl; simp only [Try.ntmps55, List.size_toArray, List.length_cons, List.length_nil, Nat.reduceAdd, Nat.reduceSub, Array.replicate_succ, Array.replicate_zero, List.push_toArray, List.append_toArray, List.nil_append, List.cons_append]
  refine wpIn_wide.2 ?_
  go_wp2_with (first | (go_at_call 68; refine (allT_any _ _ _ _ _).mono ?_; rintro e w' ⟨rfl, rfl⟩))
  refine (wpIn_wide (n := 9)).1 ?_
  generalize (((w.alloc (.cells #[.int .i64 t.kind, .string t.name, .int .i64 t.n, .slice a n cap] 24)).alloc (.cells #[.bool false] 4)).alloc (.cells #[.int .i64 t.kind, .string t.name, .int .i64 t.n, .slice a n cap] 24)) = w3 at *
  have hseq : IterT Try.prog 75 #[.pointer (some ⟨w.heap.size + 1 + 1, 0, none⟩)] w t [] [] w3 := all1_term h H2.out (Sd.new HB0.out (fun b hb => by cases hb) (fun k hk => (ownB_nil hk).elim))
  refine wpIn_rangeFunc_ownH (w0 := w3) rfl (by decide) (gf := 75) (lb := #[.pointer (some ⟨w.heap.size + 1 + 1, 0, none⟩)]) rfl trivial (enters_of Try.func75 (by kernel_rfl) rfl)
    (hseq 8) (fun h k => KpT.trans h k) (KpT_b (fun b hb => by cases hb)) (Below.refl _ _) (fun _ => rfl)
    (fun pre W => ((∀ x, x ∈ pre → x.t.kind ≠ 3) ∧ Boxed W (w.heap.size + 1) 4 (.bool false)) ∧ Below w.heap.size w W)
    (fun c pre W => ((c = .ret ∧ ∃ x, x ∈ pre ∧ x.t.kind = 3) ∧ Boxed W (w.heap.size + 1) 4 (.bool false)) ∧ Below w.heap.size w W)
    (OwnFrom.and (OwnFrom.and (ownFrom_pure _ _) (Own.from (boxed_own _ _ _) _)) (ownFrom_below (Nat.le_refl _) (by rw [HSZ.out]; omega)))
    (fun c => OwnFrom.and (OwnFrom.and (ownFrom_pure _ _) (Own.from (boxed_own _ _ _) _)) (ownFrom_below (Nat.le_refl _) (by rw [HSZ.out]; omega)))
    ⟨⟨by simp, H1.out⟩, HB0.out⟩
    (fun x a' W => ∃ Bx, w.heap.size + 1 < Bx ∧ Bo W Bx 24 #[.int .i64 x.t.kind, .string x.t.name, .int .i64 x.t.n, .slice x.a x.n x.cap] ∧ a' = { tmps := #[.agg #[.int .i64 t.kind, .string t.name, .int .i64 t.n, .slice a n cap], .pointer (some ⟨w.heap.size, 0, none⟩), .pointer (some ⟨w.heap.size + 1, 0, none⟩), .pointer (some ⟨Bx, 0, none⟩), .agg #[.int .i64 t.kind, .string t.name, .int .i64 t.n, .slice a n cap], .func (.func 75) #[] #[.pointer (some ⟨w.heap.size + 1 + 1, 0, none⟩)], .agg #[.int .i64 x.t.kind, .string x.t.name, .int .i64 x.t.n, .slice x.a x.n x.cap], undef, undef, undef], defers := [] })
    (fun x a' _ X Y row hs hg hr => by obtain ⟨Bx, e1, e2, e3⟩ := hs; exact ⟨Bx, e1, e2.own hg (fun r e => (hr r e).2), e3⟩)
    ?assign ?body ?done ?stop
  case assign =>
    rintro l pre x W K ⟨⟨hp, hb⟩, hB⟩ hK
    simp only [Fx.enc]
    gi_wp2
    exact hK _ _ ((KeepsOthers.alloc _ _).from _) (KpT.alloc _ (fun b hb => by cases hb)) ⟨⟨hp, hb.alloc _⟩, hB.alloc hB.size _⟩ ⟨W.heap.size, hb.lt, Bo.new W _ _, rfl⟩
  case body =>
    rintro l pre x a' W hl ⟨r, hr⟩ ⟨⟨hp, hb⟩, hB⟩ ⟨Bx, hBx, bX, rfl⟩ hlt
    obtain ⟨c0, c1, c2, c3⟩ := bX.c4
    have cR := hb.cell
    have fR := hb.frozen
    by_cases hk3 : x.t.kind = 3
    · have e3 : (x.t.kind == 3) = true := by rw [beq_iff_eq]; exact hk3
      have HK3 := Lib.hid hk3
      clear hk3
      gi_wp2
      exact ⟨(KeepsOthers.setCell _ _ _).from _, ⟨⟨rfl, x, by simp, HK3.out⟩, hb.set _⟩, hB.setCell (p := ⟨w.heap.size + 1, 0, none⟩) (by simp) _⟩
    · have e3 : (x.t.kind == 3) = false := by rw [beq_eq_false_iff_ne]; exact hk3
      have HK3 := Lib.hid hk3
      clear hk3
      gi_wp2
      exact ⟨KeepsFrom.refl _ _, KpT.refl _ _ _, ⟨fun z hz => by rcases List.mem_append.1 hz with h1 | h1
                                                                 · exact hp z h1
                                                                 · simp at h1; subst h1; exact HK3.out, hb⟩, hB⟩
  case done =>
    rintro D zs W hD hzs ⟨⟨hp, hb⟩, hB⟩ hK
    have HF : Hid (groundB t = true) := Lib.hid (by
      unfold groundB; rw [← hzs, List.all_eq_true]
      intro x hx
      obtain ⟨z, hz, rfl⟩ := List.mem_map.1 hx
      have := hp z hz
      simpa using this)
    clear hzs hp
    have cR := hb.cell
    have fR := hb.frozen
    go_wp2
    have hK' := (KeepsOthers.setCell W ⟨w.heap.size + 1, 0, none⟩ (.bool true)).same D _ hK rfl
    refine ⟨by simp, .inl ⟨_, _, rfl, run_takeDeferred hK', ?_⟩⟩
    have hc5 := cell_kept (hb.set (.bool true)).cell (grownBy_putObj' _ D (.deferred none)) (fun r e => by cases e; exact ⟨_, hK', rfl⟩)
    refine ⟨.bool true, ?_, ret_bool HF.out.symm, (hB.setCell (p := ⟨w.heap.size + 1, 0, none⟩) (by simp) _).trans (belowK_b (w := w) (Nat.le_refl _) _ D _ _ (by have := HSZ.out; omega) hK' rfl rfl)⟩
    simp [results, Try.f55, go_sem, hc5]
  case stop =>
    rintro D c pre W hD hpre ⟨⟨⟨rfl, x, hx, hx3⟩, hb⟩, hB⟩ hK
    have HF : Hid (groundB t = false) := Lib.hid (by
      unfold groundB; rw [List.all_eq_false]
      exact ⟨x.t, hpre.subset (List.mem_map_of_mem hx), by rw [hx3]; simp⟩)
    clear hx hx3 hpre
    refine wpIn_wide.2 ?_
    go_wp2
    refine ⟨by simp, .inl ⟨_, _, rfl, run_takeDeferred hK, ?_⟩⟩
    have hc5 := cell_kept hb.cell (grownBy_putObj' _ D (.deferred none)) (fun r e => by cases e; exact ⟨_, hK, rfl⟩)
    refine ⟨.bool false, ?_, ret_bool HF.out.symm, hB.trans (belowK_b (w := w) (Nat.le_refl _) W D _ _ (by have := HSZ.out; omega) hK rfl rfl)⟩
    simp [results, Try.f55, go_sem, hc5]
end Go.Proofs.Ytmadfkofmehfkaa
