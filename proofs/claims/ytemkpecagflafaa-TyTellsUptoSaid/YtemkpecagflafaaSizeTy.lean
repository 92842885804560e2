/-
  ty.Size: how great a type is. No condition but how it lies, and how great it is.
-/
import Derived.Test.YtemkpecagflafaaEachTy
import Derived.Test.YtemkpecagflafaaHolds
namespace Go.Proofs.Ytemkpecagflafaa
open Go.RowKit
attribute [local go_sem] Oper.semAt_some

set_option maxRecDepth 100000 in
set_option maxHeartbeats 2000000 in
theorem size11_any {t : Tm} {a : Option Addr} {n cap : Nat} (w : World) (h : MemW w (.s 4 (Tm.rows t.args)) (.slice a n cap)) (hs : t.size ≤ 1048576) :
    Calls Try.prog 52 #[.agg #[.int .i64 t.kind, .string t.name, .int .i64 t.n, .slice a n cap]] w fun e w' => e = .returned (.int .i64 t.size) ∧ Below w.heap.size w w' := by
  have b2 := Bo.new ((w.alloc (.cells #[.int .i64 t.kind, .string t.name, .int .i64 t.n, .slice a n cap] 52)).alloc (.cells #[.int .i64 0] 3)) 52 #[.int .i64 t.kind, .string t.name, .int .i64 t.n, .slice a n cap]
  have b1 := (Boxed.new (w.alloc (.cells #[.int .i64 t.kind, .string t.name, .int .i64 t.n, .slice a n cap] 52)) 3 (.int .i64 0)).alloc (.cells #[.int .i64 t.kind, .string t.name, .int .i64 t.n, .slice a n cap] 52)
  have hB0 : Below w.heap.size w (((w.alloc (.cells #[.int .i64 t.kind, .string t.name, .int .i64 t.n, .slice a n cap] 52)).alloc (.cells #[.int .i64 0] 3)).alloc (.cells #[.int .i64 t.kind, .string t.name, .int .i64 t.n, .slice a n cap] 52)) := (((Below.refl _ w).alloc (Nat.le_refl _) _).alloc (by simp) _).alloc (by simp; omega) _
  have hsz : (((w.alloc (.cells #[.int .i64 t.kind, .string t.name, .int .i64 t.n, .slice a n cap] 52)).alloc (.cells #[.int .i64 0] 3)).alloc (.cells #[.int .i64 t.kind, .string t.name, .int .i64 t.n, .slice a n cap] 52)).heap.size = w.heap.size + 3 := by simp
  simp only [World.size_alloc] at b1 b2
  have H1 := Lib.hid b1
  have H2 := Lib.hid b2
  have HB0 := Lib.hid hB0
  have HSZ := Lib.hid hsz
  have HS := Lib.hid hs
  clear b1 b2 hB0 hsz hs
  refine (callsIn_wide (n := 9)).1 ?_
  refine callsIn_of_wp_marks Try.func52 rfl trivial ?_ rfl; simp only [Try.ntmps52, List.size_toArray, List.length_cons, List.length_nil, Nat.reduceAdd, Nat.reduceSub, Array.replicate_succ, Array.replicate_zero, List.push_toArray, List.append_toArray, List.nil_append, List.cons_append]
  refine wpIn_wide.2 ?_
  go_wp2_with (first | (go_at_call 51; refine (all11_any _ _ _ _ _).mono ?_; rintro e w' ⟨rfl, rfl⟩))
  refine (wpIn_wide (n := 9)).1 ?_
  generalize (((w.alloc (.cells #[.int .i64 t.kind, .string t.name, .int .i64 t.n, .slice a n cap] 52)).alloc (.cells #[.int .i64 0] 3)).alloc (.cells #[.int .i64 t.kind, .string t.name, .int .i64 t.n, .slice a n cap] 52)) = w3 at *
  have hseq : IterT Try.prog 96 #[.pointer (some ⟨w.heap.size + 1 + 1, 0, none⟩)] w t [w.heap.size + 1] [] w3 := all1_type h H2.out (Sd.new HB0.out (fun b hb => by cases hb) (fun k hk => by
    rcases hk with h | ⟨b, hb, _⟩
    · simp at h; have := HSZ.out; omega
    · cases hb))
  refine wpIn_rangeFunc_ownG (w0 := w3) rfl (by decide) (gf := 96) (lb := #[.pointer (some ⟨w.heap.size + 1 + 1, 0, none⟩)]) rfl trivial (enters_of Try.func96 (by kernel_rfl) rfl)
    (hseq 8) (fun h k => KpT.trans h k) (KpT_b (fun b hb => by cases hb)) (Below.refl _ _) (fun _ => rfl)
    (fun (pre : List (Fx w)) W => Boxed W (w.heap.size + 1) 3 (.int .i64 pre.length) ∧ Below w.heap.size w W)
    (fun _ _ _ => False)
    (OwnFrom.and (Own.from (boxed_own _ _ _) _) (ownFrom_below (Nat.le_refl _) (by rw [HSZ.out]; omega)))
    (fun _ _ _ _ _ hs _ _ => hs)
    ⟨H1.out, HB0.out⟩
    (fun x : Fx w => { tmps := #[.agg #[.int .i64 t.kind, .string t.name, .int .i64 t.n, .slice a n cap], .pointer (some ⟨w.heap.size, 0, none⟩), .int .i64 0, .pointer (some ⟨w.heap.size + 1, 0, none⟩), .agg #[.int .i64 t.kind, .string t.name, .int .i64 t.n, .slice a n cap], .func (.func 96) #[] #[.pointer (some ⟨w.heap.size + 1 + 1, 0, none⟩)], .agg #[.int .i64 x.t.kind, .string x.t.name, .int .i64 x.t.n, .slice x.a x.n x.cap], undef, undef, undef], defers := [] })
    ?assign ?body ?done ?stop
  case assign =>
    intro l x W K hK
    simp only [Fx.enc]
    gi_wp2
    simpa using hK
  case body =>
    rintro l pre x W ⟨hb, hB⟩ hlt
    have cR := hb.cell
    have fR := hb.frozen
    have hlt' : (pre.length : Int) < 1048576 := by have := HS.out; omega
    have HLT := Lib.hid hlt
    clear hlt
    gi_wp2
    have hb' := hb.set (.int .i64 (pre.length + 1 : Nat))
    refine ⟨(KeepsOthers.setCell _ _ _).from _, ⟨⟨by simp [World.setCell], fun k o hk hn _ => ?_, fun k hk => ?_⟩, fun hX k hk => ?_⟩, ?_, hB.setCell (p := ⟨w.heap.size + 1, 0, none⟩) (by simp) _⟩
    · exact (heap_setCell_other W ⟨w.heap.size + 1, 0, none⟩ k _ (fun e => hn (.inl (by simp at e; simp [e])))).trans hk
    · rcases hk with h | ⟨b, hb, _⟩
      · exact .inl (.inl h)
      · cases hb
    · rcases hk with h | ⟨b, hb, _⟩
      · simp only [World.setCell, Array.size_modify]; exact hX k (.inl h)
      · cases hb
    · show Boxed _ _ _ (.int .i64 ((pre ++ [x]).length : Nat))
      rw [List.length_append, List.length_cons, List.length_nil]
      simpa using hb'
  case done =>
    rintro D zs W hD hzs ⟨hb, hB⟩ hK
    have hz : zs.length = t.size := by rw [← List.length_map (f := Fx.t), hzs]; rfl
    rw [hz] at hb
    clear hzs hz
    have cR := hb.cell
    have fR := hb.frozen
    go_wp2
    refine ⟨by simp, .inl ⟨_, _, rfl, run_takeDeferred hK, ?_⟩⟩
    exact ⟨_, results_tmp rfl _ _ _, rfl, hB.trans (belowK_b (w := w) (Nat.le_refl _) W D _ _ (by have := HSZ.out; omega) hK rfl rfl)⟩
  case stop =>
    rintro D c pre W _ _ h _
    exact h.elim
end Go.Proofs.Ytemkpecagflafaa
