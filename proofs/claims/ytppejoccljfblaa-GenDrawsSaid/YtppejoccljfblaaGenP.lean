/-
  gen.May, gen.Program and gen.Goal, walked. No condition but sizes.
-/
import Derived.Test.YtppejoccljfblaaGen2
import Derived.Test.YtppejoccljfblaaJoin
import Derived.Shelf.Strings.BuilderK
namespace Go.Proofs.Ytppejoccljfblaa
open Go.RowKit

/-- The builder holds this text. -/
def GB (B b : Nat) (t : ByteArray) (w : World) : Prop := Lib.IsBuilderF 125 5 B b (Lib.byteCells t.data.toList) w
theorem gcells_app (a b : List UInt8) : Lib.byteCells a ++ Lib.byteCells b = Lib.byteCells (a ++ b) := by simp [Lib.byteCells]
theorem GB.new (w : World) : GB w.heap.size w.heap.size ⟨#[]⟩ (w.alloc (.cells #[.pointer none, .slice none 0 0] 125)) :=
  .inl (Lib.BuilderAtF.of ⟨Nat.le_refl _, .slice none 0 0, Bo.new w 125 _, World.ownsRow_nil _ _ _ 1, by simp [Value.ownBlock]⟩)
theorem gwrite_any {B b : Nat} {t : ByteArray} (s : ByteArray) (w : World) (h : GB B b t w) (hl : t.size + s.size ≤ 100000000) (hB : B ≤ w.heap.size) :
    Calls Try.prog 85 #[.pointer (some ⟨b, 0, none⟩), .string s] w fun e w' => e = .returned (.tuple #[.int .i64 s.size, .nilIface]) ∧ GB B b (t ++ s) w' ∧ Below B w w' := by
  have hh := Any.Builder_WriteString_k { lays156 with } joinExtra B b (Lib.byteCells t.data.toList) s w h (by simp only [Lib.byteCells, List.length_map, length_data]; omega) hB
  refine hh.mono fun e w' ⟨he, h1, h2, _⟩ => ⟨he, ?_, h2⟩
  have h4 : Lib.byteCells t.data.toList ++ Lib.strCells s = Lib.byteCells (t ++ s).data.toList := by rw [Lib.strCells_eq, gcells_app, ByteArray.data_append, Array.toList_append]
  rw [h4] at h1
  exact .inr h1
theorem gstring_any {B b : Nat} {t : ByteArray} (w : World) (h : GB B b t w) (hB : B ≤ w.heap.size) :
    Calls Try.prog 87 #[.pointer (some ⟨b, 0, none⟩)] w fun e w' => e = .returned (.string t) ∧ Below B w w' :=
  (Any.Builder_String_any_k { lays156 with } joinExtra B b t.data.toList w h hB).mono fun _ _ ⟨he, _, h2, _⟩ => ⟨he, h2⟩
theorem ownsF_far {B q : Nat} {e : TypeId} {v : Value} {n : Nat} {xs : List Value} {w w' : World} (h : w.ownsRowF B e 1 v n xs) (hf : Far (fun k => k = q) w w') (hq : q < B) : w'.ownsRowF B e 1 v n xs := by
  refine h.kept (row := some q) ⟨hf.os, hf.tape, hf.output, hf.size, fun k hk hne => hf.block k hk (fun e => hne (by rw [e]))⟩ (.inr ?_)
  rcases h.2 with ⟨rfl, _⟩ | ⟨g, cap, cur, fz, rfl, hg, _⟩
  · simp [Value.ownBlock]
  · intro e; simp only [Value.ownBlock, Option.some.injEq] at e; omega
theorem GB.far {B b q : Nat} {t : ByteArray} {w w' : World} (h : GB B b t w) (hf : Far (fun k => k = q) w w') (hq : q < B) : GB B b t w' := by
  rcases h with h | h
  · have hlt := h.lt
    obtain ⟨hB, v, hb, ho, hne⟩ := h
    exact .inl ⟨hB, v, (hf.block b hlt (by omega)).trans hb, ownsF_far ho hf hq, hne⟩
  · have hlt := h.lt
    obtain ⟨hB, v, hb, ho, hne⟩ := h
    exact .inr ⟨hB, v, (hf.block b hlt (by omega)).trans hb, ownsF_far ho hf hq, hne⟩

def rowsQ (k d : Nat) (p : ByteArray × Int) : Nat → ByteArray × Int
  | 0 => p
  | j + 1 => ((rowsQ k d p j).1 ++ ((ruleQ k d (rowsQ k d p j).2).1 ++ ⟨#[10]⟩), (ruleQ k d (rowsQ k d p j).2).2)
def funsQ (r d : Nat) (p : ByteArray × Int) : Nat → ByteArray × Int
  | 0 => p
  | f + 1 => rowsQ f d (funsQ r d p f) r
/-- A program's text. -/
def progQ (f r d : Nat) (s : Int) : ByteArray := (funsQ r d (⟨#[100, 97, 116, 97, 32, 78, 32, 61, 32, 90, 32, 124, 32, 83, 32, 78, 10]⟩, s) f).1
theorem rowsQ_size {k d : Nat} (hk : k ≤ 1000) (hd : d ≤ 4) (p : ByteArray × Int) : ∀ j, (rowsQ k d p j).1.size ≤ p.1.size + 661 * j
  | 0 => Nat.le_refl _
  | j + 1 => by
    have ih := rowsQ_size hk hd p j
    have h1 := ruleQ_size hk hd (rowsQ k d p j).2
    rw [rowsQ]
    simp only [ByteArray.size_append]
    show _ + (_ + 1) ≤ _
    omega
theorem funsQ_size {r d : Nat} (hr : r ≤ 4) (hd : d ≤ 4) (p : ByteArray × Int) : ∀ f, f ≤ 1000 → (funsQ r d p f).1.size ≤ p.1.size + 2644 * f
  | 0, _ => Nat.le_refl _
  | f + 1, h => by
    have ih := funsQ_size hr hd p f (by omega)
    have h1 := rowsQ_size (k := f) (d := d) (by omega) hd (funsQ r d p f) r
    rw [funsQ]
    omega
def goalH (k : Nat) : ByteArray := ⟨#[108, 101, 116, 32, 120, 32, 102, 114, 101, 101, 32, 105, 110, 32]⟩ ++ nameS k ++ ⟨#[32, 120]⟩
/-- A goal's text. -/
def goalQ (k d : Nat) (s : Int) : ByteArray × Int := reps (exprQ [⟨#[120]⟩] k d) (goalH k, s) (k % 2)

set_option maxRecDepth 100000 in
set_option maxHeartbeats 2000000 in
theorem gmay_any (f r d s : Int) (w : World) :
    Calls Try.prog 27 #[.agg #[.int .i64 f, .int .i64 r, .int .i64 d, .int .u64 s]] w fun e w' => e = .returned (.bool (mayB f r d)) ∧ Below w.heap.size w w' := by
  obtain ⟨b1, h1⟩ : ∃ b, (decide (1 ≤ f) && decide (f ≤ 8)) = b := ⟨_, rfl⟩
  obtain ⟨b2, h2⟩ : ∃ b, (decide (1 ≤ r) && decide (r ≤ 4)) = b := ⟨_, rfl⟩
  obtain ⟨b3, h3⟩ : ∃ b, (decide (0 ≤ d) && decide (d ≤ 4)) = b := ⟨_, rfl⟩
  have HB : Hid (mayB f r d = (b1 && b2 && b3)) := Lib.hid (by rw [mayB, h1, h2, h3])
  have H1 := Lib.hid h1
  have H2 := Lib.hid h2
  have H3 := Lib.hid h3
  clear h1 h2 h3
  cases b1
  · go_enter Try.func27, Try.ntmps27
    go_wp2_with fail
    refine (within_any f 1 8 _).mono ?_
    rintro e w' ⟨rfl, rfl⟩
    rw [H1.out]
    go_wp2_with fail
    go_ret
    exact ⟨by rw [HB.out]; rfl, below_new _ _⟩
  · cases b2
    · go_enter Try.func27, Try.ntmps27
      go_wp2_with fail
      refine (within_any f 1 8 _).mono ?_
      rintro e w' ⟨rfl, rfl⟩
      rw [H1.out]
      go_wp2_with fail
      refine (within_any r 1 4 _).mono ?_
      rintro e w' ⟨rfl, rfl⟩
      rw [H2.out]
      go_wp2_with fail
      go_ret
      exact ⟨by rw [HB.out]; rfl, below_new _ _⟩
    · go_enter Try.func27, Try.ntmps27
      go_wp2_with fail
      refine (within_any f 1 8 _).mono ?_
      rintro e w' ⟨rfl, rfl⟩
      rw [H1.out]
      go_wp2_with fail
      refine (within_any r 1 4 _).mono ?_
      rintro e w' ⟨rfl, rfl⟩
      rw [H2.out]
      go_wp2_with fail
      refine (within_any d 0 4 _).mono ?_
      rintro e w' ⟨rfl, rfl⟩
      rw [H3.out]
      go_wp2_with fail
      go_ret
      exact ⟨by rw [HB.out]; rfl, below_new _ _⟩
theorem mayB_nat {f r d : Int} (h : mayB f r d = true) : 1 ≤ f ∧ f ≤ 8 ∧ 1 ≤ r ∧ r ≤ 4 ∧ 0 ≤ d ∧ d ≤ 4 := by
  simp only [mayB, Bool.and_eq_true, decide_eq_true_eq] at h
  omega
set_option maxRecDepth 100000 in
set_option maxHeartbeats 2000000 in
theorem drawer_any (s : Int) (w : World) :
    Calls Try.prog 84 #[.int .u64 s] w fun e w' => ∃ q, q = w.heap.size ∧ e = .returned (.func (.func 137) #[] #[.pointer (some ⟨q, 0, none⟩)]) ∧ w' = w.alloc (.cells #[.int .u64 s] 53) := by
  go_enter Try.func84, Try.ntmps84
  go_wp2
  go_ret
  exact ⟨_, rfl, rfl, rfl⟩

set_option maxRecDepth 100000 in
set_option maxHeartbeats 2000000 in
theorem program_no {f r d s : Int} (w : World) (h : mayB f r d = false) :
    Calls Try.prog 32 #[.agg #[.int .i64 f, .int .i64 r, .int .i64 d, .int .u64 s]] w fun e w' => e = .returned (.string ⟨#[]⟩) ∧ Below w.heap.size w w' := by
  have H := Lib.hid h
  have HB := Lib.hid (below_new w (.cells #[.int .i64 f, .int .i64 r, .int .i64 d, .int .u64 s] 55))
  have HX := Lib.hid (Bo.new w 55 #[.int .i64 f, .int .i64 r, .int .i64 d, .int .u64 s])
  obtain ⟨x0, x1, x2, x3⟩ := HX.out.c4
  clear h
  go_enter Try.func32, Try.ntmps32
  go_wp2_with fail
  refine (gmay_any f r d s _).mono ?_
  rintro e w2 ⟨rfl, hb⟩
  have HB2 := Lib.hid (HB.out.trans (hb.mono HB.out.size))
  rw [H.out]
  clear hb
  go_wp2_with fail
  go_ret
  exact ⟨rfl, HB2.out⟩

set_option maxRecDepth 100000 in
set_option maxHeartbeats 2000000 in
theorem goal_no {f r d s : Int} (w : World) (h : mayB f r d = false) :
    Calls Try.prog 33 #[.agg #[.int .i64 f, .int .i64 r, .int .i64 d, .int .u64 s]] w fun e w' => e = .returned (.string ⟨#[]⟩) ∧ Below w.heap.size w w' := by
  have H := Lib.hid h
  have HB := Lib.hid (below_new w (.cells #[.int .i64 f, .int .i64 r, .int .i64 d, .int .u64 s] 55))
  have HX := Lib.hid (Bo.new w 55 #[.int .i64 f, .int .i64 r, .int .i64 d, .int .u64 s])
  obtain ⟨x0, x1, x2, x3⟩ := HX.out.c4
  clear h
  go_enter Try.func33, Try.ntmps33
  go_wp2_with fail
  refine (gmay_any f r d s _).mono ?_
  rintro e w2 ⟨rfl, hb⟩
  have HB2 := Lib.hid (HB.out.trans (hb.mono HB.out.size))
  rw [H.out]
  clear hb
  go_wp2_with fail
  go_ret
  exact ⟨rfl, HB2.out⟩

set_option maxRecDepth 100000 in
set_option maxHeartbeats 20000000 in
theorem program_any {f r d : Nat} {s : Int} (w : World) (hs : 0 ≤ s) (hf : f ≤ 8) (hr : r ≤ 4) (hd : d ≤ 4) (h : mayB f r d = true) :
    Calls Try.prog 32 #[.agg #[.int .i64 f, .int .i64 r, .int .i64 d, .int .u64 s]] w fun e w' => e = .returned (.string (progQ f r d s)) ∧ Below w.heap.size w w' := by
  have H := Lib.hid h
  have HB0 := Lib.hid (below_new w (.cells #[.int .i64 f, .int .i64 r, .int .i64 d, .int .u64 s] 55))
  have HX0 := Lib.hid (Bo.new w 55 #[.int .i64 f, .int .i64 r, .int .i64 d, .int .u64 s])
  have HZ0 : Hid ((w.alloc (.cells #[.int .i64 f, .int .i64 r, .int .i64 d, .int .u64 s] 55)).heap.size = w.heap.size + 1) := Lib.hid (World.size_alloc _ _)
  have HP : Hid (progQ f r d s = (funsQ r d (⟨#[100, 97, 116, 97, 32, 78, 32, 61, 32, 90, 32, 124, 32, 83, 32, 78, 10]⟩, s) f).1) := Lib.hid rfl
  have HS0 := Lib.hid hs
  clear h hs
  obtain ⟨x0, x1, x2, x3⟩ := HX0.out.c4
  go_enter Try.func32, Try.ntmps32
  go_wp2_with fail
  refine (gmay_any f r d s _).mono ?_
  rintro e w2 ⟨rfl, hb⟩
  have HB2 := Lib.hid (HB0.out.trans (hb.mono HB0.out.size))
  have HX2 := Lib.hid (HX0.out.keep hb)
  have HZ2 : Hid (w.heap.size + 1 ≤ w2.heap.size) := Lib.hid (by have := hb.size; rw [HZ0.out] at this; exact this)
  rw [H.out]
  clear hb x0 x1 x2 x3 HB0 HX0 HZ0
  obtain ⟨x0, x1, x2, x3⟩ := HX2.out.c4
  go_wp2_with fail
  refine (drawer_any s _).mono ?_
  rintro e w3 ⟨q, hq, rfl, hw3⟩
  have HB3 : Hid (Below w.heap.size w w3) := Lib.hid (by rw [hw3]; exact HB2.out.alloc HB2.out.size _)
  have HX3 : Hid (Bo w3 w.heap.size 55 #[.int .i64 f, .int .i64 r, .int .i64 d, .int .u64 s]) := Lib.hid (by rw [hw3]; exact HX2.out.alloc _)
  have HS3 : Hid (Sd 53 q s w3) := Lib.hid ⟨by rw [hw3, hq]; exact Bo.new w2 _ _, HS0.out⟩
  have HZ3 : Hid (w3.heap.size = q + 1) := Lib.hid (by rw [hw3, World.size_alloc, hq])
  have HQ : Hid (w.heap.size + 1 ≤ q) := Lib.hid (by rw [hq]; exact HZ2.out)
  clear hw3 hq x0 x1 x2 x3 HB2 HX2 HZ2
  obtain ⟨x0, x1, x2, x3⟩ := (HX3.out.alloc (.cells #[.pointer none, .slice none 0 0] 125)).c4
  have HG4 := Lib.hid (GB.new w3)
  have HB4 := Lib.hid (HB3.out.alloc HB3.out.size (.cells #[.pointer none, .slice none 0 0] 125))
  have HX4 := Lib.hid (HX3.out.alloc (.cells #[.pointer none, .slice none 0 0] 125))
  have HS4 := Lib.hid (HS3.out.new (.cells #[.pointer none, .slice none 0 0] 125))
  have HZ4 : Hid (w3.heap.size ≤ (w3.alloc (.cells #[.pointer none, .slice none 0 0] 125)).heap.size) := Lib.hid (below_new w3 _).size
  go_wp2_with fail
  refine (gwrite_any ⟨#[100, 97, 116, 97, 32, 78, 32, 61, 32, 90, 32, 124, 32, 83, 32, 78, 10]⟩ _ HG4.out (by decide) HZ4.out).mono ?_
  rintro e w5 ⟨rfl, hg5, hb5⟩
  have HG5 := Lib.hid hg5
  have HB5 := Lib.hid (HB4.out.trans (hb5.mono (by have := HZ3.out; have := HQ.out; omega)))
  have HX5 := Lib.hid (HX4.out.below hb5 (by have := HZ3.out; have := HQ.out; omega))
  have HS5 : Hid (Sd 53 q s w5) := Lib.hid (HS4.out.same (hb5.block q (by have := HZ3.out; omega)))
  have HZ5 := Lib.hid (Nat.le_trans HZ4.out hb5.size)
  clear hg5 hb5 x0 x1 x2 x3 HG4 HB4 HX4 HS4 HZ4 HB3 HX3 HS3
  have HG5' : Hid (GB w3.heap.size w3.heap.size ⟨#[100, 97, 116, 97, 32, 78, 32, 61, 32, 90, 32, 124, 32, 83, 32, 78, 10]⟩ w5) := Lib.hid HG5.out
  clear HG5
  obtain ⟨p0, hp0⟩ : ∃ p : ByteArray × Int, (⟨#[100, 97, 116, 97, 32, 78, 32, 61, 32, 90, 32, 124, 32, 83, 32, 78, 10]⟩, s) = p := ⟨_, rfl⟩
  have HP0 : Hid (p0.1.size = 17) := Lib.hid (by rw [← hp0]; rfl)
  have HG6 : Hid (GB w3.heap.size w3.heap.size p0.1 w5) := Lib.hid (by rw [← hp0]; exact HG5'.out)
  have HS6 : Hid (Sd 53 q p0.2 w5) := Lib.hid (by rw [← hp0]; exact HS5.out)
  rw [hp0] at HP
  clear hp0 HG5' HS5
  obtain ⟨B, hB⟩ : ∃ B, w3.heap.size = B := ⟨_, rfl⟩
  rw [hB] at HZ3 HZ5 HG6 ⊢
  clear hB
  obtain ⟨x0, x1, x2, x3⟩ := HX5.out.c4
  go_wp2_with fail
  clear x0 x1 x2 x3
  go_loopw [5, 15] (fun _ vi wr => ∃ k : Nat, vi = .int .i64 k ∧ k ≤ f ∧ Hid (Below w.heap.size w wr) ∧ Hid (Bo wr w.heap.size 55 #[.int .i64 f, .int .i64 r, .int .i64 d, .int .u64 s]) ∧ Hid (Sd 53 q (funsQ r d p0 k).2 wr) ∧ Hid (GB B B (funsQ r d p0 k).1 wr) ∧ Hid (B ≤ wr.heap.size)) (fun _ vi _ => f - (intOf vi).toNat)
  case atStart => exact ⟨0, rfl, Nat.zero_le _, HB5.out, HX5.out, HS6.out, HG6.out, HZ5.out⟩
  case round =>
    obtain ⟨k, rfl, hk, HB, HX, HS, HG, HZ⟩ := hrel
    by_cases hlt : k < f
    · have hltz : (k : Int) < (f : Int) := by omega
      have HN : Hid (funsQ r d p0 (k + 1) = rowsQ k d (funsQ r d p0 k) r) := Lib.hid rfl
      have hz1 := funsQ_size hr hd p0 k (by omega)
      rw [HP0.out] at hz1
      generalize funsQ r d p0 k = P at *
      obtain ⟨x0, x1, x2, x3⟩ := HX.out.c4
      go_wp2_with fail
      clear x0 x1 x2 x3
      go_loopw [20] (fun vi wr => ∃ j : Nat, vi = .int .i64 j ∧ j ≤ r ∧ Hid (Below w.heap.size w wr) ∧ Hid (Bo wr w.heap.size 55 #[.int .i64 f, .int .i64 r, .int .i64 d, .int .u64 s]) ∧ Hid (Sd 53 q (rowsQ k d P j).2 wr) ∧ Hid (GB B B (rowsQ k d P j).1 wr) ∧ Hid (B ≤ wr.heap.size)) (fun vi _ => r - (intOf vi).toNat)
      case atStart => exact ⟨0, rfl, Nat.zero_le _, HB.out, HX.out, HS.out, HG.out, HZ.out⟩
      case round =>
        obtain ⟨j, rfl, hj, HBJ, HXJ, HSJ, HGJ, HZJ⟩ := hrel
        by_cases hlj : j < r
        · have hljz : (j : Int) < (r : Int) := by omega
          have HN1 : Hid ((rowsQ k d P (j + 1)).1 = (rowsQ k d P j).1 ++ ((ruleQ k d (rowsQ k d P j).2).1 ++ ⟨#[10]⟩)) := Lib.hid rfl
          have HN2 : Hid ((rowsQ k d P (j + 1)).2 = (ruleQ k d (rowsQ k d P j).2).2) := Lib.hid rfl
          have hz2 := rowsQ_size (k := k) (by omega) hd P j
          have hz3 := ruleQ_size (k := k) (by omega) hd (rowsQ k d P j).2
          generalize rowsQ k d P j = R at *
          have HRC := Lib.hid (rule_any (k := k) (by omega) hd wr HSJ.out)
          generalize ruleQ k d R.2 = Y at *
          obtain ⟨x0, x1, x2, x3⟩ := HXJ.out.c4
          go_wp2_with fail
          refine HRC.out.mono ?_
          rintro e w7 ⟨rfl, hf7, hs7⟩
          have HX7 := Lib.hid (HXJ.out.away hf7 (by have := HQ.out; omega))
          have HS7 := Lib.hid hs7
          have HG7 := Lib.hid (HGJ.out.far hf7 (by have := HZ3.out; omega))
          have HZ7 := Lib.hid (Nat.le_trans HZJ.out hf7.size)
          have HB7 : Hid (Below w.heap.size w w7) := Lib.hid ⟨hf7.os.trans HBJ.out.os, hf7.tape.trans HBJ.out.tape, hf7.output.trans HBJ.out.output, Nat.le_trans HBJ.out.size hf7.size, fun b hb => (hf7.block b (Nat.lt_of_lt_of_le hb HBJ.out.size) (by have := HQ.out; omega)).trans (HBJ.out.block b hb)⟩
          clear hf7 hs7 x0 x1 x2 x3
          have hzz : R.1.size + (Y.1 ++ ⟨#[10]⟩ : ByteArray).size ≤ 100000000 := by
            rw [ByteArray.size_append]
            show _ + (_ + 1) ≤ _
            omega
          go_wp2_with fail
          generalize Y.1 ++ (⟨#[10]⟩ : ByteArray) = T at *
          refine (gwrite_any T _ HG7.out hzz HZ7.out).mono ?_
          rintro e w8 ⟨rfl, hg8, hb8⟩
          have HG8 := Lib.hid hg8
          have HB8 := Lib.hid (HB7.out.trans (hb8.mono (by have := HZ3.out; have := HQ.out; omega)))
          have HX8 := Lib.hid (HX7.out.below hb8 (by have := HZ3.out; have := HQ.out; omega))
          have HS8 : Hid (Sd 53 q Y.2 w8) := Lib.hid (HS7.out.same (hb8.block q (by have := HZ3.out; omega)))
          have HZ8 := Lib.hid (Nat.le_trans HZ7.out hb8.size)
          clear hg8 hb8 hzz
          go_wp2_with fail
          go_roundw
          case rel => exact ⟨j + 1, by go_num, by omega, HB8.out, HX8.out, Lib.hid (by rw [HN2.out]; exact HS8.out), Lib.hid (by rw [HN1.out]; exact HG8.out), HZ8.out⟩
          case measure => simp [intOf] <;> omega
        · obtain rfl : j = r := by omega
          have hljz : ¬ (j : Int) < (j : Int) := by omega
          go_wp2_with fail
          go_roundw
          case rel => exact ⟨k + 1, by go_num, by omega, HBJ.out, HXJ.out, Lib.hid (by rw [HN.out]; exact HSJ.out), Lib.hid (by rw [HN.out]; exact HGJ.out), HZJ.out⟩
          case measure => simp [intOf] <;> omega
    · obtain rfl : k = f := by omega
      have hltz : ¬ (k : Int) < (k : Int) := by omega
      go_wp2_with fail
      refine (gstring_any _ HG.out HZ.out).mono ?_
      rintro e w9 ⟨rfl, hb9⟩
      have HB9 := Lib.hid (HB.out.trans (hb9.mono (by have := HZ3.out; have := HQ.out; omega)))
      clear hb9
      go_wp2_with fail
      go_ret
      exact ⟨by rw [HP.out]; rfl, HB9.out⟩
end Go.Proofs.Ytppejoccljfblaa
