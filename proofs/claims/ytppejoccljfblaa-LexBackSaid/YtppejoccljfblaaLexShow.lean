/-
  lex.Show and the document's Show, walked: tokens told as a text. No condition but sizes.
-/
import Derived.Test.YtppejoccljfblaaAwake02
import Derived.Test.YtppejoccljfblaaLexBack0
import Derived.Test.YtppejoccljfblaaJoin
import Derived.Shelf.Strings.BuilderK
namespace Go.Proofs.Ytppejoccljfblaa
open Go.RowKit
attribute [local go_sem ↓] store_tok
attribute [local go_sem] stOk_tok stB_eq stC_eq wr_drew wr_alloc wr_row wr_drewN
attribute [local go_sem] toList_beq

/-- The builder holds these bytes. -/
def Bld (B b : Nat) (l : List UInt8) (w : World) : Prop := Lib.IsBuilderF 125 5 B b (Lib.byteCells l) w
theorem byteCells_app (a b : List UInt8) : Lib.byteCells a ++ Lib.byteCells b = Lib.byteCells (a ++ b) := by simp [Lib.byteCells]
theorem Bld.new (w : World) : Bld w.heap.size w.heap.size [] (w.alloc (.cells #[.pointer none, .slice none 0 0] 125)) :=
  .inl (Lib.BuilderAtF.of ⟨Nat.le_refl _, .slice none 0 0, Bo.new w 125 _, World.ownsRow_nil _ _ _ 1, by simp [Value.ownBlock]⟩)
theorem write_any {B b : Nat} {l : List UInt8} (s : ByteArray) (w : World) (h : Bld B b l w) (hl : l.length + s.size ≤ 100000000) (hB : B ≤ w.heap.size) :
    Calls Try.prog 85 #[.pointer (some ⟨b, 0, none⟩), .string s] w fun e w' => e = .returned (.tuple #[.int .i64 s.size, .nilIface]) ∧ Bld B b (l ++ s.data.toList) w' ∧ Below B w w' ∧ Lib.OthersKept 5 (some b) w w' := by
  have hh := Any.Builder_WriteString_k { lays156 with } joinExtra B b (Lib.byteCells l) s w h (by simp [Lib.byteCells]; omega) hB
  refine hh.mono fun e w' ⟨he, h1, h2, h3⟩ => ⟨he, ?_, h2, h3⟩
  have h4 : Lib.byteCells l ++ Lib.strCells s = Lib.byteCells (l ++ s.data.toList) := by rw [Lib.strCells_eq, byteCells_app]
  rw [h4] at h1
  exact .inr h1
theorem string_any {B b : Nat} {l : List UInt8} (w : World) (h : Bld B b l w) (hB : B ≤ w.heap.size) :
    Calls Try.prog 87 #[.pointer (some ⟨b, 0, none⟩)] w fun e w' => e = .returned (.string (str l)) ∧ Below B w w' :=
  (Any.Builder_String_any_k { lays156 with } joinExtra B b l w h hB).mono fun _ _ ⟨he, _, h2, _⟩ => ⟨he, h2⟩
/-- A token's box stands while the builder is written on. -/
theorem kept_tok {b : Nat} {w w' : World} {q : Nat} {cs : Array Value} (h : Lib.OthersKept 5 (some b) w w') (hq : Bo w q 46 cs) (hb : q ≠ b) : Bo w' q 46 cs :=
  h q _ hq (fun e => hb (Option.some.inj e)) (fun cs' fz e => by injection e with _ e2 _; exact absurd e2 (by decide))

theorem showL_drop {ts : List Tok} {k : Nat} (hk : k < ts.length) (f g : Bool) : showL f g (ts.drop k) = (if ts[k].k = 0 then [] else if ts[k].k = 1 then (if g then [] else [10]) else (if f then [] else [32]) ++ ts[k].s.data.toList) ++ showL (if ts[k].k = 0 then f else decide (ts[k].k = 1)) false (ts.drop (k + 1)) := by
  rw [List.drop_eq_getElem_cons hk, showL]
  by_cases h0 : ts[k].k = 0
  · simp [h0]
  · by_cases h1 : ts[k].k = 1
    · simp [h1]
    · simp [h0, h1]

set_option maxRecDepth 100000 in
set_option maxHeartbeats 2000000 in
theorem lshow_any {B n cap : Nat} {a : Option Addr} {ts : List Tok} (w : World) (h : Rd B w a n cap 5 (tokVs ts)) (hB : B ≤ w.heap.size) (hlen : (showL false true ts).length ≤ 1000000) :
    Calls Try.prog 50 #[.slice a n cap] w fun e w' => e = .returned (.string (str (showL false true ts))) ∧ Below w.heap.size w w' := by
  have hcap := h.2.1
  have hm := h.2.2.1
  have HN := Lib.hid h.tokLen
  have H := Lib.hid (h.le hB)
  have HLEN := Lib.hid hlen
  have HB0 := Lib.hid (Bld.new w)
  clear h hB hlen
  go_enter Try.func50, Try.ntmps50
  go_wp2
  go_loopw [4, 5, 6, 9] (fun fr _ _ j wr => ∃ (k : Nat) (f : Bool) (out : List UInt8), k ≤ n ∧ j = .int .i64 k ∧ fr = .bool f ∧ Hid (Bld w.heap.size w.heap.size out wr) ∧ Hid (Below w.heap.size w wr) ∧ Hid (out ++ showL f (decide (k = 0)) (ts.drop k) = showL false true ts)) (fun _ _ _ j _ => n - (intOf j).toNat)
  case atStart => exact ⟨0, false, [], Nat.zero_le _, rfl, rfl, HB0, Lib.hid (below_new w _), Lib.hid (by simp)⟩
  case round =>
    obtain ⟨k, f, out, hk, rfl, rfl, HBL, HW, HE⟩ := hrel
    by_cases hlt : k < n
    · have hlt' : (k : Int) < (n : Int) := by omega
      obtain ⟨b, o, rfl, hb, hl, c0, c1, c2, c3, c4⟩ := (H.out.mono HW.out).tokAt k hlt
      have HE2 := HE.out
      rw [showL_drop hl] at HE2
      have hne : ¬ decide (k + 1 = 0) = true := by simp
      generalize ts[k] = t at *
      obtain ⟨tk, tS, tn, tl, tc⟩ := t
      simp only at c0 c1 c2 c3 c4 HE2
      by_cases hk0 : tk = 0
      · have g0 : (tk == 0) = true := by rw [beq_iff_eq]; exact hk0
        simp only [if_pos hk0, List.nil_append] at HE2
        have HE3 : Hid (out ++ showL f (decide (k + 1 = 0)) (ts.drop (k + 1)) = showL false true ts) := Lib.hid (by simpa using HE2)
        clear hk0 HE2
        go_wp2
        go_roundw
        case rel => exact ⟨k + 1, f, out, by omega, by go_num, rfl, Lib.hid (HBL.out.alloc _), Lib.hid (HW.out.alloc HW.out.size _), HE3⟩
        case measure => simp [intOf]; omega
      · have g0 : (tk == 0) = false := by rw [beq_eq_false_iff_ne]; exact hk0
        by_cases hk1 : tk = 1
        · have g1 : (tk == 1) = true := by rw [beq_iff_eq]; exact hk1
          simp only [if_neg hk0, if_pos hk1, decide_eq_true hk1] at HE2
          clear hk0 hk1
          by_cases hkz : k = 0
          · subst hkz
            simp only [Nat.zero_mul, Nat.add_zero] at c0 c1 c2 c3 c4
            simp only [decide_true, if_true, List.nil_append] at HE2
            have HE3 : Hid (out ++ showL true (decide (0 + 1 = 0)) (ts.drop (0 + 1)) = showL false true ts) := Lib.hid (by simpa using HE2)
            clear HE2
            go_wp2
            go_roundw
            case rel => exact ⟨0 + 1, true, out, by omega, by go_num, rfl, Lib.hid (HBL.out.alloc _), Lib.hid (HW.out.alloc HW.out.size _), HE3⟩
            case measure => simp [intOf]; omega
          · have hkp : (0 : Int) < (k : Int) := by omega
            simp only [decide_eq_false hkz, Bool.false_eq_true, if_false] at HE2
            have HE3 : Hid ((out ++ [10]) ++ showL true (decide (k + 1 = 0)) (ts.drop (k + 1)) = showL false true ts) := Lib.hid (by simpa using HE2)
            have hol : out.length + 1 ≤ 1000000 := by
              have := congrArg List.length HE3.out
              simp only [List.length_append, List.length_cons, List.length_nil] at this
              have := HLEN.out; omega
            have HOL := Lib.hid hol
            clear HE2 hkz hol
            go_wp2_with (go_at_call 85 ; refine (write_any ⟨#[10]⟩ _ (HBL.out.alloc _) (by have := HOL.out; show out.length + 1 ≤ _; omega) (by have := HW.out.size; rw [World.size_alloc]; omega)).mono ?_; rintro e w2 ⟨rfl, hb2, hw2, hk2⟩; have HB2 := Lib.hid hb2; have HW2 : Hid (Below w.heap.size w w2) := Lib.hid ((HW.out.alloc HW.out.size _).trans hw2); clear hb2 hw2 hk2)
            go_roundw
            case rel => exact ⟨k + 1, true, out ++ [10], by omega, by go_num, rfl, HB2, HW2, HE3⟩
            case measure => simp [intOf]; omega
        · have g1 : (tk == 1) = false := by rw [beq_eq_false_iff_ne]; exact hk1
          simp only [if_neg hk0, if_neg hk1, decide_eq_false hk1] at HE2
          clear hk0 hk1
          cases f with
          | true =>
            simp only [if_true, List.nil_append] at HE2
            have HE3 : Hid ((out ++ tS.data.toList) ++ showL false (decide (k + 1 = 0)) (ts.drop (k + 1)) = showL false true ts) := Lib.hid (by simpa using HE2)
            have hol : out.length + tS.size ≤ 1000000 := by
              have := congrArg List.length HE3.out
              simp only [List.length_append, length_data] at this
              have := HLEN.out; omega
            have HOL := Lib.hid hol
            clear HE2 hol
            go_wp2_with (go_at_call 85 ; refine (write_any tS _ (HBL.out.alloc _) (by have := HOL.out; omega) (by have := HW.out.size; rw [World.size_alloc]; omega)).mono ?_; rintro e w2 ⟨rfl, hb2, hw2, hk2⟩; have HB2 := Lib.hid hb2; have HW2 : Hid (Below w.heap.size w w2) := Lib.hid ((HW.out.alloc HW.out.size _).trans hw2); clear hb2 hw2 hk2)
            go_roundw
            case rel => exact ⟨k + 1, false, out ++ tS.data.toList, by omega, by go_num, rfl, HB2, HW2, HE3⟩
            case measure => simp [intOf]; omega
          | false =>
            simp only [Bool.false_eq_true, if_false] at HE2
            have HE3 : Hid (((out ++ [32]) ++ tS.data.toList) ++ showL false (decide (k + 1 = 0)) (ts.drop (k + 1)) = showL false true ts) := Lib.hid (by simpa using HE2)
            have hol : out.length + 1 + tS.size ≤ 1000000 := by
              have := congrArg List.length HE3.out
              simp only [List.length_append, List.length_cons, List.length_nil, length_data] at this
              have := HLEN.out; omega
            have HOL := Lib.hid hol
            have hbw : w.heap.size < wr.heap.size := by
              rcases HBL.out with hx | hx
              · obtain ⟨_, v, hv, _⟩ := hx; exact (Array.getElem?_eq_some_iff.1 hv).1
              · obtain ⟨_, v, hv, _⟩ := hx; exact (Array.getElem?_eq_some_iff.1 hv).1
            have tok1 : True := trivial
            clear HE2 hol
            go_wp2_with (first
              | (go_at_call 85
                 have _t := tok1
                 refine (write_any ⟨#[32]⟩ _ (HBL.out.alloc _) (by have := HOL.out; show out.length + 1 ≤ _; omega) (by have := HW.out.size; rw [World.size_alloc]; omega)).mono ?_
                 rintro e w2 ⟨rfl, hb2, hw2, hk2⟩
                 have HB2 := Lib.hid hb2
                 have HW2 : Hid (Below w.heap.size w w2) := Lib.hid ((HW.out.alloc HW.out.size _).trans hw2)
                 have hq := kept_tok hk2 (Bo.new wr 46 #[.int .i64 tk, .string tS, .int .i64 tn, .int .i64 tl, .int .i64 tc]) (by omega)
                 have q1 := hq.cell (j := 1) rfl
                 clear hb2 hw2 hk2 hq tok1 _t)
              | (go_at_call 85
                 refine (write_any tS _ HB2.out (by have := HOL.out; rw [List.length_append]; show out.length + 1 + tS.size ≤ _; omega) HW2.out.size).mono ?_
                 rintro e w3 ⟨rfl, hb3, hw3, hk3⟩
                 have HB3 := Lib.hid hb3
                 have HW3 : Hid (Below w.heap.size w w3) := Lib.hid (HW2.out.trans hw3)
                 clear hb3 hw3 hk3))
            go_roundw
            case rel => exact ⟨k + 1, false, (out ++ [32]) ++ tS.data.toList, by omega, by go_num, rfl, HB3, HW3, HE3⟩
            case measure => simp [intOf]; omega
    · have hlt' : ¬ (k : Int) < (n : Int) := by omega
      have hout : out = showL false true ts := by
        have := HE.out
        rw [List.drop_eq_nil_of_le (by have := HN.out; omega)] at this
        simpa [showL] using this
      rw [hout] at HBL
      clear hout HE
      go_wp2_with (go_at_call 87 ; refine (string_any _ HBL.out HW.out.size).mono ?_; rintro e w2 ⟨rfl, hw2⟩; have HW2 : Hid (Below w.heap.size w w2) := Lib.hid (HW.out.trans hw2); clear hw2)
      go_ret
      exact ⟨rfl, HW2.out⟩
end Go.Proofs.Ytppejoccljfblaa
