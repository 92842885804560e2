/-
  whimbrelref01.SameTokens at two like lists: it answers true. No condition but how the lists lie.
-/
import Derived.Test.YtppejoccljfblaaRScan
namespace Go.Proofs.Ytppejoccljfblaa
open Go.RowKit
attribute [local go_sem ↓] store_tok
attribute [local go_sem] stOk_tok stB_eq stC_eq wr_drew wr_alloc wr_row wr_drewN
attribute [local go_sem] toList_beq

theorem tokVs_get (ts : List Tok) (k j : Nat) (hk : k < ts.length) (hj : j < 5) : (tokVs ts)[k * 5 + j]? = (tokR ts[k])[j]? := by
  induction ts generalizing k with
  | nil => exact absurd hk (Nat.not_lt_zero _)
  | cons t ts ih =>
    have e : tokVs (t :: ts) = tokR t ++ tokVs ts := by simp [tokVs]
    rw [e]
    cases k with
    | zero => rw [Nat.zero_mul, Nat.zero_add, List.getElem?_append_left (by simp [tokR]; exact hj)]; rfl
    | succ k =>
      rw [List.getElem?_append_right (by simp [tokR]; omega)]
      have : (k + 1) * 5 + j - (tokR t).length = k * 5 + j := by simp [tokR]; omega
      rw [this]
      exact ih k (by simpa using hk)
theorem Rd.tokLen {B : Nat} {w : World} {a : Option Addr} {n cap : Nat} {ts : List Tok} (h : Rd B w a n cap 5 (tokVs ts)) : ts.length = n := by
  have := h.1; rw [tokVs_len] at this; omega
theorem Rd.tokAt {B : Nat} {w : World} {a : Option Addr} {n cap : Nat} {ts : List Tok} (h : Rd B w a n cap 5 (tokVs ts)) (k : Nat) (hk : k < n) :
    ∃ b o, a = some ⟨b, o, none⟩ ∧ b < B ∧ ∃ hl : k < ts.length, w.cell? ⟨b, o + k * 5, none⟩ = some (.int .i64 ts[k].k) ∧ w.cell? ⟨b, o + k * 5 + 1, none⟩ = some (.string ts[k].s) ∧ w.cell? ⟨b, o + k * 5 + 2, none⟩ = some (.int .i64 ts[k].n) ∧ w.cell? ⟨b, o + k * 5 + 3, none⟩ = some (.int .i64 ts[k].l) ∧ w.cell? ⟨b, o + k * 5 + 4, none⟩ = some (.int .i64 ts[k].c) := by
  have hl := h.tokLen
  obtain ⟨h1, h2, h3, h4⟩ := h
  rcases h4 with h4 | ⟨b, o, ha, hbB, hc⟩
  · omega
  · have hkl : k < ts.length := by omega
    have key : ∀ j, j < 5 → w.cell? ⟨b, o + k * 5 + j, none⟩ = (tokR ts[k])[j]? := fun j hj => by
      have hlen : k * 5 + j < (tokVs ts).length := by rw [tokVs_len]; omega
      rw [Nat.add_assoc, hc (k * 5 + j) hlen, ← List.getElem?_eq_getElem hlen, tokVs_get ts k j hkl hj]
    exact ⟨b, o, ha, hbB, hkl, key 0 (by decide), key 1 (by decide), key 2 (by decide), key 3 (by decide), key 4 (by decide)⟩

set_option maxRecDepth 100000 in
set_option maxHeartbeats 2000000 in
theorem sameTokens_eq {B B' n n' cap cap' : Nat} {a a' : Option Addr} {ts : List Tok} (w : World) (h : Rd B w a n cap 5 (tokVs ts)) (h' : Rd B' w a' n' cap' 5 (tokVs ts)) (hB : B ≤ w.heap.size) (hB' : B' ≤ w.heap.size) :
    Calls Try.prog 23 #[.slice a n cap, .slice a' n' cap', .bool true] w fun e w' => e = .returned (.bool true) ∧ Below w.heap.size w w' := by
  obtain rfl : n' = n := h'.tokLen.symm.trans h.tokLen
  have hcap := h.2.1
  have hm := h.2.2.1
  have hcap' := h'.2.1
  have hm' := h'.2.2.1
  have H := Lib.hid (h.le hB)
  have H' := Lib.hid (h'.le hB')
  clear h h' hB hB'
  go_enter Try.func23, Try.ntmps23
  go_wp2
  go_loopw [7, 8, 9, 17] (fun _ _ _ i wr => ∃ k : Nat, k ≤ n' ∧ i = .int .i64 k ∧ Hid (Below w.heap.size w wr)) (fun _ _ _ i _ => n' - (intOf i).toNat)
  case atStart => exact ⟨0, Nat.zero_le _, rfl, Below.refl _ _⟩
  case round =>
    obtain ⟨k, hk, rfl, HB⟩ := hrel
    by_cases hlt : k < n'
    · obtain ⟨b, o, rfl, hb, hl, c0, c1, c2, c3, c4⟩ := (H.out.mono HB.out).tokAt k hlt
      obtain ⟨b', o', rfl, hb', hl', c0', c1', c2', c3', c4'⟩ := (H'.out.mono HB.out).tokAt k hlt
      have hlt' : (k : Int) < (n' : Int) := by omega
      generalize ts[k] = t at *
      obtain ⟨tk, tS, tn, tl, tc⟩ := t
      simp only at c0 c1 c2 c3 c4 c0' c1' c2' c3' c4'
      have hbw : b < wr.heap.size := Nat.lt_of_lt_of_le hb HB.out.size
      have hbw' : b' < wr.heap.size := Nat.lt_of_lt_of_le hb' HB.out.size
      have yA : Wr ((wr.alloc (.cells #[.int .i64 0, .string ⟨#[]⟩, .int .i64 0, .int .i64 0, .int .i64 0] 46)).alloc (.cells #[.int .i64 0, .string ⟨#[]⟩, .int .i64 0, .int .i64 0, .int .i64 0] 46)) wr.heap.size 46 5 := ((Bo.new wr 46 _).alloc _).wr
      have yB : Wr ((wr.alloc (.cells #[.int .i64 0, .string ⟨#[]⟩, .int .i64 0, .int .i64 0, .int .i64 0] 46)).alloc (.cells #[.int .i64 0, .string ⟨#[]⟩, .int .i64 0, .int .i64 0, .int .i64 0] 46)) (wr.heap.size + 1) 46 5 := by
        have := Bo.new (wr.alloc (.cells #[.int .i64 0, .string ⟨#[]⟩, .int .i64 0, .int .i64 0, .int .i64 0] 46)) 46 #[.int .i64 0, .string ⟨#[]⟩, .int .i64 0, .int .i64 0, .int .i64 0]
        rw [World.size_alloc] at this
        exact this.wr
      have yC : Wr ((wr.alloc (.cells #[.int .i64 tk, .string tS, .int .i64 tn, .int .i64 tl, .int .i64 tc] 46)).alloc (.cells #[.int .i64 0, .string ⟨#[]⟩, .int .i64 0, .int .i64 0, .int .i64 0] 46)) (wr.heap.size + 1) 46 5 := by
        have := Bo.new (wr.alloc (.cells #[.int .i64 tk, .string tS, .int .i64 tn, .int .i64 tl, .int .i64 tc] 46)) 46 #[.int .i64 0, .string ⟨#[]⟩, .int .i64 0, .int .i64 0, .int .i64 0]
        rw [World.size_alloc] at this
        exact this.wr
      have yD : Wr ((wr.alloc (.cells #[.int .i64 0, .string ⟨#[]⟩, .int .i64 0, .int .i64 0, .int .i64 0] 46)).alloc (.cells #[.int .i64 tk, .string tS, .int .i64 tn, .int .i64 tl, .int .i64 tc] 46)) wr.heap.size 46 5 := ((Bo.new wr 46 _).alloc _).wr
      have yE : Wr (World.setRow (((wr.alloc (.cells #[.int .i64 0, .string ⟨#[]⟩, .int .i64 0, .int .i64 0, .int .i64 0] 46)).alloc (.cells #[.int .i64 0, .string ⟨#[]⟩, .int .i64 0, .int .i64 0, .int .i64 0] 46)).drew) wr.heap.size #[.int .i64 tk, .string tS, .int .i64 tn, .int .i64 tl, .int .i64 tc]) (wr.heap.size + 1) 46 5 := wr_row yB rfl
      have yG : Wr (World.setRow (((wr.alloc (.cells #[.int .i64 0, .string ⟨#[]⟩, .int .i64 0, .int .i64 0, .int .i64 0] 46)).alloc (.cells #[.int .i64 0, .string ⟨#[]⟩, .int .i64 0, .int .i64 0, .int .i64 0] 46)).drew) (wr.heap.size + 1) #[.int .i64 tk, .string tS, .int .i64 tn, .int .i64 tl, .int .i64 tc]) wr.heap.size 46 5 := wr_row yA rfl
      have yH : Wr ((wr.alloc (.cells #[.int .i64 tk, .string tS, .int .i64 tn, .int .i64 tl, .int .i64 tc] 46)).alloc (.cells #[.int .i64 0, .string ⟨#[]⟩, .int .i64 0, .int .i64 0, .int .i64 0] 46)).drew (wr.heap.size + 1) 46 5 := yC
      have zB : Bo ((wr.alloc (.cells #[.int .i64 0, .string ⟨#[]⟩, .int .i64 0, .int .i64 0, .int .i64 0] 46)).alloc (.cells #[.int .i64 0, .string ⟨#[]⟩, .int .i64 0, .int .i64 0, .int .i64 0] 46)) (wr.heap.size + 1) 46 #[.int .i64 0, .string ⟨#[]⟩, .int .i64 0, .int .i64 0, .int .i64 0] := by
        have := Bo.new (wr.alloc (.cells #[.int .i64 0, .string ⟨#[]⟩, .int .i64 0, .int .i64 0, .int .i64 0] 46)) 46 #[.int .i64 0, .string ⟨#[]⟩, .int .i64 0, .int .i64 0, .int .i64 0]
        rw [World.size_alloc] at this
        exact this
      have zA : Bo ((wr.alloc (.cells #[.int .i64 0, .string ⟨#[]⟩, .int .i64 0, .int .i64 0, .int .i64 0] 46)).alloc (.cells #[.int .i64 0, .string ⟨#[]⟩, .int .i64 0, .int .i64 0, .int .i64 0] 46)) wr.heap.size 46 #[.int .i64 0, .string ⟨#[]⟩, .int .i64 0, .int .i64 0, .int .i64 0] := (Bo.new wr 46 _).alloc _
      obtain ⟨m0, m1, m2, m3, m4⟩ := (((Bo.drew zA).row #[.int .i64 tk, .string tS, .int .i64 tn, .int .i64 tl, .int .i64 tc]).rowFar (g := wr.heap.size + 1) #[.int .i64 tk, .string tS, .int .i64 tn, .int .i64 tl, .int .i64 tc] (by omega)).t5
      obtain ⟨q0, q1, q2, q3, q4⟩ := ((((Bo.drew zB).rowFar (g := wr.heap.size) #[.int .i64 tk, .string tS, .int .i64 tn, .int .i64 tl, .int .i64 tc] (by omega))).row #[.int .i64 tk, .string tS, .int .i64 tn, .int .i64 tl, .int .i64 tc]).t5
      obtain ⟨r0, r1, r2, r3, r4⟩ := ((((Bo.drew zA).rowFar (g := wr.heap.size + 1) #[.int .i64 tk, .string tS, .int .i64 tn, .int .i64 tl, .int .i64 tc] (by omega))).row #[.int .i64 tk, .string tS, .int .i64 tn, .int .i64 tl, .int .i64 tc]).t5
      obtain ⟨s0, s1, s2, s3, s4⟩ := (((Bo.drew zB).row #[.int .i64 tk, .string tS, .int .i64 tn, .int .i64 tl, .int .i64 tc]).rowFar (g := wr.heap.size) #[.int .i64 tk, .string tS, .int .i64 tn, .int .i64 tl, .int .i64 tc] (by omega)).t5
      have hz := HB.out.size
      have HW1 : Hid (Below w.heap.size w (World.setRow (World.setRow (World.drew ((wr.alloc (.cells #[.int .i64 0, .string ⟨#[]⟩, .int .i64 0, .int .i64 0, .int .i64 0] 46)).alloc (.cells #[.int .i64 0, .string ⟨#[]⟩, .int .i64 0, .int .i64 0, .int .i64 0] 46))) wr.heap.size #[.int .i64 tk, .string tS, .int .i64 tn, .int .i64 tl, .int .i64 tc]) (wr.heap.size + 1) #[.int .i64 tk, .string tS, .int .i64 tn, .int .i64 tl, .int .i64 tc])) := Lib.hid (below_setRow (below_setRow (Below.drew ((HB.out.alloc hz _).alloc (by rw [World.size_alloc]; omega) _)) hz _) (by omega) _)
      have HW2 : Hid (Below w.heap.size w (World.setRow (World.setRow (World.drew ((wr.alloc (.cells #[.int .i64 0, .string ⟨#[]⟩, .int .i64 0, .int .i64 0, .int .i64 0] 46)).alloc (.cells #[.int .i64 0, .string ⟨#[]⟩, .int .i64 0, .int .i64 0, .int .i64 0] 46))) (wr.heap.size + 1) #[.int .i64 tk, .string tS, .int .i64 tn, .int .i64 tl, .int .i64 tc]) wr.heap.size #[.int .i64 tk, .string tS, .int .i64 tn, .int .i64 tl, .int .i64 tc])) := Lib.hid (below_setRow (below_setRow (Below.drew ((HB.out.alloc hz _).alloc (by rw [World.size_alloc]; omega) _)) (by omega) _) hz _)
      go_wp2
      go_region_held3 (fun w' => w'.cell? ⟨b, o + k * 5, none⟩ = some (.int .i64 tk) ∧ w'.cell? ⟨b, o + k * 5 + 1, none⟩ = some (.string tS) ∧ w'.cell? ⟨b, o + k * 5 + 2, none⟩ = some (.int .i64 tn) ∧ w'.cell? ⟨b, o + k * 5 + 3, none⟩ = some (.int .i64 tl) ∧ w'.cell? ⟨b, o + k * 5 + 4, none⟩ = some (.int .i64 tc) ∧ w'.cell? ⟨b', o' + k * 5, none⟩ = some (.int .i64 tk) ∧ w'.cell? ⟨b', o' + k * 5 + 1, none⟩ = some (.string tS) ∧ w'.cell? ⟨b', o' + k * 5 + 2, none⟩ = some (.int .i64 tn) ∧ w'.cell? ⟨b', o' + k * 5 + 3, none⟩ = some (.int .i64 tl) ∧ w'.cell? ⟨b', o' + k * 5 + 4, none⟩ = some (.int .i64 tc))
      ((repeat' apply And.intro) <;> (repeat (first | with_reducible assumption | with_reducible refine cell_drew ?_ | with_reducible refine cell_alloc _ ?_ | with_reducible refine cell_row_far _ ?_ (by omega))))
      (first | (fail))
      all_goals
        clear zA zB yA yB yC yD yE yG yH c0 c1 c2 c3 c4 c0' c1' c2' c3' c4'
        go_wp2
        go_roundw
        case rel => first | exact ⟨k + 1, by omega, by go_num, HW1⟩ | exact ⟨k + 1, by omega, by go_num, HW2⟩
        case measure => simp [intOf]; omega
    · have hlt' : ¬ (k : Int) < (n' : Int) := by omega
      go_wp2
      go_ret
      exact ⟨rfl, HB.out⟩
end Go.Proofs.Ytppejoccljfblaa
