/-
  term.Ground: whether there is no variable in a term. No condition but how it lies.
-/
import Derived.Test.YtppejoccljfblaaEach
import Derived.Test.YtppejoccljfblaaHolds
import Derived.Shelf.Abstract
import Derived.RangeFuncWrites
namespace Go.Proofs.Ytppejoccljfblaa
open Go.RowKit
attribute [local go_sem] Oper.semAt_some

/-- No variable is in it. -/
def groundB (t : Tm) : Bool := t.all.all fun x => x.kind != 3
set_option maxRecDepth 100000 in
set_option maxHeartbeats 2000000 in
theorem ground_any {t : Tm} {a : Option Addr} {n cap : Nat} (w : World) (h : MemW w (.s 4 (Tm.rows t.args)) (.slice a n cap)) :
    Calls Try.prog 66 #[.agg #[.int .i64 t.kind, .string t.name, .int .i64 t.n, .slice a n cap]] w fun e w' => e = .returned (.bool (groundB t)) ∧ Below w.heap.size w w' := by
  have b2 := Bo.new ((w.alloc (.cells #[.int .i64 t.kind, .string t.name, .int .i64 t.n, .slice a n cap] 96)).alloc (.cells #[.bool false] 4)) 96 #[.int .i64 t.kind, .string t.name, .int .i64 t.n, .slice a n cap]
  have b1 := (Boxed.new (w.alloc (.cells #[.int .i64 t.kind, .string t.name, .int .i64 t.n, .slice a n cap] 96)) 4 (.bool false)).alloc (.cells #[.int .i64 t.kind, .string t.name, .int .i64 t.n, .slice a n cap] 96)
  have hB0 : Below w.heap.size w (((w.alloc (.cells #[.int .i64 t.kind, .string t.name, .int .i64 t.n, .slice a n cap] 96)).alloc (.cells #[.bool false] 4)).alloc (.cells #[.int .i64 t.kind, .string t.name, .int .i64 t.n, .slice a n cap] 96)) := (((Below.refl _ w).alloc (Nat.le_refl _) _).alloc (by simp) _).alloc (by simp; omega) _
  have hsz : (((w.alloc (.cells #[.int .i64 t.kind, .string t.name, .int .i64 t.n, .slice a n cap] 96)).alloc (.cells #[.bool false] 4)).alloc (.cells #[.int .i64 t.kind, .string t.name, .int .i64 t.n, .slice a n cap] 96)).heap.size = w.heap.size + 3 := by simp
  simp only [World.size_alloc] at b1 b2
  have H1 := Lib.hid b1
  have H2 := Lib.hid b2
  have HB0 := Lib.hid hB0
  have HSZ := Lib.hid hsz
  clear b1 b2 hB0 hsz
  refine (callsIn_wide (n := 9)).1 ?_
  refine callsIn_of_wp_marks Try.func66 rfl trivial ?_ rfl; simp only [Try.ntmps66, List.size_toArray, List.length_cons, List.length_nil, Nat.reduceAdd, Nat.reduceSub, Array.replicate_succ, Array.replicate_zero, List.push_toArray, List.append_toArray, List.nil_append, List.cons_append]
  refine wpIn_wide.2 ?_
  go_wp2_with (first | (go_at_call 115; refine (allT_any _ _ _ _ _).mono ?_; rintro e w' ⟨rfl, rfl⟩))
  refine (wpIn_wide (n := 9)).1 ?_
  generalize (((w.alloc (.cells #[.int .i64 t.kind, .string t.name, .int .i64 t.n, .slice a n cap] 96)).alloc (.cells #[.bool false] 4)).alloc (.cells #[.int .i64 t.kind, .string t.name, .int .i64 t.n, .slice a n cap] 96)) = w3 at *
  have hseq : IterT Try.prog 166 #[.pointer (some ⟨w.heap.size + 1 + 1, 0, none⟩)] w t [] [] w3 := all1_term h H2.out (Sd.new HB0.out (fun b hb => by cases hb) (fun k hk => (ownB_nil hk).elim))
  refine wpIn_rangeFunc_ownH (w0 := w3) rfl (by decide) (gf := 166) (lb := #[.pointer (some ⟨w.heap.size + 1 + 1, 0, none⟩)]) rfl trivial (enters_of Try.func166 (by kernel_rfl) rfl)
    (hseq 8) (fun h k => KpT.trans h k) (KpT_b (fun b hb => by cases hb)) (Below.refl _ _) (fun _ => rfl)
    (fun pre W => ((∀ x, x ∈ pre → x.t.kind ≠ 3) ∧ Boxed W (w.heap.size + 1) 4 (.bool false)) ∧ Below w.heap.size w W)
    (fun c pre W => ((c = .ret ∧ ∃ x, x ∈ pre ∧ x.t.kind = 3) ∧ Boxed W (w.heap.size + 1) 4 (.bool false)) ∧ Below w.heap.size w W)
    (OwnFrom.and (OwnFrom.and (ownFrom_pure _ _) (Own.from (boxed_own _ _ _) _)) (ownFrom_below (Nat.le_refl _) (by rw [HSZ.out]; omega)))
    (fun c => OwnFrom.and (OwnFrom.and (ownFrom_pure _ _) (Own.from (boxed_own _ _ _) _)) (ownFrom_below (Nat.le_refl _) (by rw [HSZ.out]; omega)))
    ⟨⟨by simp, H1.out⟩, HB0.out⟩
    (fun x a' W => ∃ Bx, w.heap.size + 1 < Bx ∧ Bo W Bx 96 #[.int .i64 x.t.kind, .string x.t.name, .int .i64 x.t.n, .slice x.a x.n x.cap] ∧ a' = { tmps := #[.agg #[.int .i64 t.kind, .string t.name, .int .i64 t.n, .slice a n cap], .pointer (some ⟨w.heap.size, 0, none⟩), .pointer (some ⟨w.heap.size + 1, 0, none⟩), .pointer (some ⟨Bx, 0, none⟩), .agg #[.int .i64 t.kind, .string t.name, .int .i64 t.n, .slice a n cap], .func (.func 166) #[] #[.pointer (some ⟨w.heap.size + 1 + 1, 0, none⟩)], .agg #[.int .i64 x.t.kind, .string x.t.name, .int .i64 x.t.n, .slice x.a x.n x.cap], undef, undef, undef], defers := [] })
    (fun x a' _ X Y row hs hg hr => by obtain ⟨Bx, e1, e2, e3⟩ := hs; exact ⟨Bx, e1, e2.own hg (fun r e => (hr r e).2), e3⟩)
    ?assign ?body ?done ?stop
  case assign =>
    rintro l pre x W K ⟨⟨hp, hb⟩, hB⟩ hK
    simp only [Fx.enc]
    gi_wp2
    exact hK _ _ ((KeepsOthers.alloc _ _).from _) (KpT.alloc _ (fun b hb => by cases hb)) ⟨⟨hp, hb.alloc _⟩, hB.alloc hB.size _⟩ ⟨W.heap.size, hb.lt, Bo.new W _ _, rfl⟩
  case body =>
    rintro l pre x a' W hl ⟨r, hr⟩ ⟨⟨hp, hb⟩, hB⟩ ⟨Bx, hBx, bX, rfl⟩ hlt
    obtain ⟨c0, c1, c2, c3⟩ := bX.c4
    have cR := hb.cell
    have fR := hb.frozen
    by_cases hk3 : x.t.kind = 3
    · have e3 : (x.t.kind == 3) = true := by rw [beq_iff_eq]; exact hk3
      have HK3 := Lib.hid hk3
      clear hk3
      gi_wp2
      exact ⟨(KeepsOthers.setCell _ _ _).from _, ⟨⟨rfl, x, by simp, HK3.out⟩, hb.set _⟩, hB.setCell (p := ⟨w.heap.size + 1, 0, none⟩) (by simp) _⟩
    · have e3 : (x.t.kind == 3) = false := by rw [beq_eq_false_iff_ne]; exact hk3
      have HK3 := Lib.hid hk3
      clear hk3
      gi_wp2
      exact ⟨KeepsFrom.refl _ _, KpT.refl _ _ _, ⟨fun z hz => by rcases List.mem_append.1 hz with h1 | h1
                                                                 · exact hp z h1
                                                                 · simp at h1; subst h1; exact HK3.out, hb⟩, hB⟩
  case done =>
    rintro D zs W hD hzs ⟨⟨hp, hb⟩, hB⟩ hK
    have HF : Hid (groundB t = true) := Lib.hid (by
      unfold groundB; rw [← hzs, List.all_eq_true]
      intro x hx
      obtain ⟨z, hz, rfl⟩ := List.mem_map.1 hx
      have := hp z hz
      simpa using this)
    clear hzs hp
    have cR := hb.cell
    have fR := hb.frozen
    go_wp2
    have hK' := (KeepsOthers.setCell W ⟨w.heap.size + 1, 0, none⟩ (.bool true)).same D _ hK rfl
    refine ⟨by simp, .inl ⟨_, _, rfl, run_takeDeferred hK', ?_⟩⟩
    have hc5 := cell_kept (hb.set (.bool true)).cell (grownBy_putObj' _ D (.deferred none)) (fun r e => by cases e; exact ⟨_, hK', rfl⟩)
    refine ⟨.bool true, ?_, ret_bool HF.out.symm, (hB.setCell (p := ⟨w.heap.size + 1, 0, none⟩) (by simp) _).trans (belowK_b (w := w) (Nat.le_refl _) _ D _ _ (by have := HSZ.out; omega) hK' rfl rfl)⟩
    simp [results, Try.f66, go_sem, hc5]
  case stop =>
    rintro D c pre W hD hpre ⟨⟨⟨rfl, x, hx, hx3⟩, hb⟩, hB⟩ hK
    have HF : Hid (groundB t = false) := Lib.hid (by
      unfold groundB; rw [List.all_eq_false]
      exact ⟨x.t, hpre.subset (List.mem_map_of_mem hx), by rw [hx3]; simp⟩)
    clear hx hx3 hpre
    refine wpIn_wide.2 ?_
    go_wp2
    refine ⟨by simp, .inl ⟨_, _, rfl, run_takeDeferred hK, ?_⟩⟩
    have hc5 := cell_kept hb.cell (grownBy_putObj' _ D (.deferred none)) (fun r e => by cases e; exact ⟨_, hK, rfl⟩)
    refine ⟨.bool false, ?_, ret_bool HF.out.symm, hB.trans (belowK_b (w := w) (Nat.le_refl _) W D _ _ (by have := HSZ.out; omega) hK rfl rfl)⟩
    simp [results, Try.f66, go_sem, hc5]
end Go.Proofs.Ytppejoccljfblaa
