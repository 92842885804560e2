/-
  A graph in memory: rows of rows of numbers; whether it is small; the nodes that a node leads to. No condition but how it lies.
-/
import Derived.Test.YtlhkkkmjoobpcaaReachP
import Derived.Test.YtlhkkkmjoobpcaaIntRows
import Derived.Test.YtlhkkkmjoobpcaaTree
namespace Go.Proofs.Ytlhkkkmjoobpcaa
open Go.RowKit

def grRows (l : List (List Int)) : List (List At) := l.map fun r => [.s 1 (intRows r)]
theorem grRows_len (l : List (List Int)) : (grRows l).length = l.length := by simp [grRows]
theorem gr_len {S : Nat → Prop} {w : World} {l : List (List Int)} {a : Option Addr} {n cap : Nat} (h : Mem S w (.s 1 (grRows l)) (.slice a n cap)) : l.length = n ∧ n ≤ cap ∧ cap ≤ 9223372036854775807 := by
  have := Mem.len h; rw [grRows_len] at this; exact this
theorem gr_at {S : Nat → Prop} {w : World} {l : List (List Int)} {a : Option Addr} {n cap : Nat} (h : Mem S w (.s 1 (grRows l)) (.slice a n cap)) (i : Nat) (hi : i < n) :
    ∃ b o r a' n' c', a = some ⟨b, o, none⟩ ∧ S b ∧ Hid (l[i]? = some r) ∧ w.cell? ⟨b, o + i, none⟩ = some (.slice a' n' c') ∧ Hid (Mem S w (.s 1 (intRows r)) (.slice a' n' c')) := by
  have hl := h.len.1
  rw [grRows_len] at hl
  have hi' : i < l.length := by omega
  obtain ⟨b, o, ha, hS, _, cs, h2, hc⟩ := Mem.at h i (by rw [grRows_len]; exact hi')
  have e : (grRows l)[i]'(by rw [grRows_len]; exact hi') = [.s 1 (intRows l[i])] := by simp [grRows]
  rw [e] at h2
  cases h2 with
  | cons g0 h2 =>
    cases h2
    obtain ⟨a', n', c', rfl, _⟩ := g0.parts
    have h3 := hc 0 (by simp)
    rw [Nat.mul_one, Nat.add_zero] at h3
    exact ⟨b, o, l[i], a', n', c', ha, hS, Lib.hid (List.getElem?_eq_getElem hi'), h3, Lib.hid g0⟩
theorem rowG_at {l : List (List Int)} {k : Nat} {r : List Int} (h : l[k]? = some r) : rowG l (k : Int) = r := by unfold rowG; rw [Int.toNat_natCast, h]; rfl
/-- Whether a graph is small. -/
def fewG (l : List (List Int)) : Bool := l.all (fun r => decide (r.length ≤ 30)) && decide (l.length ≤ 16)
set_option maxHeartbeats 1000000 in
theorem fewG_any {l : List (List Int)} {n cap : Nat} {a : Option Addr} (w : World) (h : MemW w (.s 1 (grRows l)) (.slice a n cap)) :
    Calls Try.prog 6 #[.slice a n cap] w fun e w' => e = .returned (.bool (fewG l)) ∧ w = w' := by
  have hl := gr_len h
  have HL := Lib.hid hl.1
  have hcap := hl.2.1
  have hmx := hl.2.2
  have H := Lib.hid h
  clear hl h
  go_enter Try.func6, Try.ntmps6
  go_wp2
  go_loop [4, 7] (fun _ i => ∃ k : Nat, k ≤ n ∧ i = .int .i64 k ∧ Hid ((l.take k).all (fun r => decide (r.length ≤ 30)) = true)) (fun _ i => n - (intOf i).toNat)
  case atStart => exact ⟨0, Nat.zero_le _, rfl, Lib.hid (by rw [List.take_zero]; rfl)⟩
  case round =>
    obtain ⟨k, hk, rfl, HA⟩ := hrel
    by_cases hlt : k < n
    · have hltz : (k : Int) < (n : Int) := by omega
      obtain ⟨b, o, r, a', n', c', rfl, hbB, Hr, x0, GR⟩ := gr_at H.out k hlt
      have hn := GR.out.len.1
      rw [intRows_len] at hn
      have HT : Hid ((l.take (k + 1)).all (fun r => decide (r.length ≤ 30)) = decide (n' ≤ 30)) := Lib.hid (by rw [take_at Hr.out, List.all_append, HA.out]; simp [hn])
      by_cases h30 : 30 < n'
      · have e1 : decide ((30 : Int) < (n' : Int)) = true := decide_eq_true (by omega)
        have HF : Hid (fewG l = false) := Lib.hid (by
          unfold fewG
          rw [Bool.and_eq_false_iff]
          left
          rw [Bool.eq_false_iff]
          intro hall
          have := of_decide_eq_true (List.all_eq_true.1 hall r (List.mem_of_getElem? Hr.out))
          omega)
        have h30z : (30 : Int) < (n' : Int) := by omega
        clear h30
        go_wp2
        go_ret
        exact ⟨ret_bool HF.out.symm, rfl⟩
      · have e1 : decide ((30 : Int) < (n' : Int)) = false := decide_eq_false (by omega)
        have h30z : ¬ (30 : Int) < (n' : Int) := by omega
        have HT2 : Hid ((l.take (k + 1)).all (fun r => decide (r.length ≤ 30)) = true) := Lib.hid (by rw [HT.out, decide_eq_true (by omega)])
        clear h30
        go_wp2
        go_round
        case rel => exact ⟨k + 1, by omega, by go_num, HT2⟩
        case measure => simp [intOf]; omega
    · obtain rfl : n = k := by omega
      have hltz : ¬ (n : Int) < (n : Int) := by omega
      have HF : Hid (fewG l = decide ((n : Int) ≤ 16)) := Lib.hid (by
        have h1 := HA.out
        rw [List.take_of_length_le (by rw [HL.out]; exact Nat.le_refl _)] at h1
        unfold fewG
        rw [h1, Bool.true_and, HL.out]
        exact decide_eq_decide.2 (by omega))
      go_wp2
      all_goals
        go_ret
        refine ⟨ret_bool ?_, rfl⟩
        first
          | exact HF.out.symm
          | (rw [HF.out]; simp; omega)
theorem info_intG : (Try.prog.info? 3).map (fun i => (i.zero, i.size, i.bytes)) = some (some (.int .i64 0), 1, 8) := by kernel_rfl
theorem filter_take {r : List Int} {p : Int → Bool} {j : Nat} {x : Int} (h : r[j]? = some x) : (r.take (j + 1)).filter p = if p x then (r.take j).filter p ++ [x] else (r.take j).filter p := by
  rw [take_at h, List.filter_append]
  cases hp : p x with
  | true => simp [hp]
  | false => simp [hp]
set_option maxHeartbeats 4000000 in
theorem steps_any {l : List (List Int)} {n cap : Nat} {a : Option Addr} (i : Int) (w : World) (h : MemW w (.s 1 (grRows l)) (.slice a n cap)) (hd : ∀ r ∈ l, r.length ≤ 1000) :
    Calls Try.prog 17 #[.slice a n cap, .int .i64 i] w fun e w' => ∃ y, e = .returned y ∧ OwnD 0 w.heap.size 3 1 w' y (intRows (stepsG l i)) ∧ Below w.heap.size w w' := by
  have hl := gr_len h
  have HL := Lib.hid hl.1
  have hcap := hl.2.1
  have hmx := hl.2.2
  have H := Lib.hid h
  have HD := Lib.hid hd
  clear hl h hd
  by_cases h0 : i < 0
  · have e1 : decide (i < 0) = true := decide_eq_true h0
    have HF : Hid (stepsG l i = []) := Lib.hid (by rw [stepsG, if_neg]; rw [okN_iff]; omega)
    go_enter Try.func17, Try.ntmps17
    go_wp2
    go_step3
    go_wp2
    try rw [Exit.noGoto_ret]
    go_ret
    exact ⟨_, rfl, by rw [HF.out]; exact OwnD.nil _ _ _ _ _, Below.refl _ _⟩
  by_cases h1 : (n : Int) ≤ i
  · have e1 : decide (i < 0) = false := decide_eq_false h0
    have e2 : decide ((n : Int) ≤ i) = true := decide_eq_true h1
    have HF : Hid (stepsG l i = []) := Lib.hid (by rw [stepsG, if_neg]; rw [okN_iff, HL.out]; omega)
    go_enter Try.func17, Try.ntmps17
    go_wp2
    go_step3
    go_wp2
    try rw [Exit.noGoto_ret]
    go_ret
    exact ⟨_, rfl, by rw [HF.out]; exact OwnD.nil _ _ _ _ _, Below.refl _ _⟩
  obtain ⟨k, rfl⟩ := Int.eq_ofNat_of_zero_le (show 0 ≤ i by omega)
  have hkn : k < n := by omega
  obtain ⟨b, o, r, a', n', c', rfl, hbB, Hr, x0, GR⟩ := gr_at H.out k hkn
  have e1 : decide ((k : Int) < 0) = false := decide_eq_false h0
  have e2 : decide ((n : Int) ≤ (k : Int)) = false := decide_eq_false h1
  have e3 : decide (n ≤ k) = false := decide_eq_false (by omega)
  have hkz : (k : Int) < (n : Int) := by omega
  have HS : Hid (stepsG l (k : Int) = r.filter (okN n)) := Lib.hid (by rw [stepsG, if_pos (okN_iff.2 ⟨by omega, by rw [HL.out]; omega⟩), rowG_at Hr.out, HL.out])
  have hn := GR.out.len
  rw [intRows_len] at hn
  have HN := Lib.hid hn.1
  have hc2 := hn.2.1
  have hm2 := hn.2.2
  have HR := Lib.hid (show n' ≤ 1000 by rw [← hn.1]; exact HD.out r (List.mem_of_getElem? Hr.out))
  clear h0 h1 hn
  go_enter Try.func17, Try.ntmps17
  go_wp2
  go_step3
  go_wp2
  go_step3
  go_wp2
  go_loopw [5, 21] (fun v i wr => ∃ j : Nat, j ≤ n' ∧ i = .int .i64 j ∧ Hid (Below w.heap.size w wr) ∧ Hid (OwnD 0 w.heap.size 3 1 wr v (intRows ((r.take j).filter (okN n))))) (fun _ i _ => n' - (intOf i).toNat)
  case atStart => exact ⟨0, Nat.zero_le _, rfl, Lib.hid (Below.refl _ _), Lib.hid (by rw [List.take_zero]; exact OwnD.nil _ _ _ _ _)⟩
  case round =>
    obtain ⟨j, hj, rfl, HB, HO⟩ := hrel
    by_cases hlt : j < n'
    · have hltz : (j : Int) < (n' : Int) := by omega
      obtain ⟨b2, o2, x, rfl, hb2, Hx, y0⟩ := int_at (MemW.keep GR.out HB.out) j hlt
      have HFT := Lib.hid (filter_take (p := okN n) Hx.out)
      by_cases hx0 : x < 0
      · have f1 : decide (x < 0) = true := decide_eq_true hx0
        have HF : Hid ((r.take (j + 1)).filter (okN n) = (r.take j).filter (okN n)) := Lib.hid (by rw [HFT.out, if_neg]; rw [okN_iff]; omega)
        clear hx0
        go_wp2
        go_roundw
        case rel => exact ⟨j + 1, by omega, by go_num, HB, Lib.hid (by rw [HF.out]; exact HO.out)⟩
        case measure => simp [intOf]; omega
      by_cases hx1 : (n : Int) ≤ x
      · have f1 : decide (x < 0) = false := decide_eq_false hx0
        have f2 : decide ((n : Int) ≤ x) = true := decide_eq_true hx1
        have HF : Hid ((r.take (j + 1)).filter (okN n) = (r.take j).filter (okN n)) := Lib.hid (by rw [HFT.out, if_neg]; rw [okN_iff]; omega)
        clear hx0 hx1
        go_wp2
        go_roundw
        case rel => exact ⟨j + 1, by omega, by go_num, HB, Lib.hid (by rw [HF.out]; exact HO.out)⟩
        case measure => simp [intOf]; omega
      · have f1 : decide (x < 0) = false := decide_eq_false hx0
        have f2 : decide ((n : Int) ≤ x) = false := decide_eq_false hx1
        have HF : Hid ((r.take (j + 1)).filter (okN n) = (r.take j).filter (okN n) ++ [x]) := Lib.hid (by rw [HFT.out, if_pos]; rw [okN_iff]; omega)
        have HLN : Hid (((r.take j).filter (okN n)).length ≤ 1000) := Lib.hid (by
          have h1 := List.length_filter_le (okN n) (r.take j)
          rw [List.length_take] at h1
          have := HR.out
          omega)
        have hs := HB.out.size
        clear hx0 hx1
        go_wp2_with (first
          | (at_builtin
             refine wpList_append_D2 rfl _ _ rfl Try.underlying27 info_intG rfl (by decide) rfl rfl (HO.out.alloc _) (own_int x _ rfl HO.out hs) (by have := HLN.out; simp only [intRows_len, List.length_cons, List.length_nil]; omega) (by have := HLN.out; simp only [intRows_len, List.length_cons, List.length_nil]; omega) (by rw [World.size_alloc]; omega) ?_
             intro v' w6 ho hg _
             have HO6 := Lib.hid ho
             have HB6 := Lib.hid (grown_below (HB.out.alloc hs _) hg (Nat.le_refl _) (fun k hk => (HO.out.lt k hk).1))
             clear ho hg))
        go_wp2
        go_roundw
        case rel => exact ⟨j + 1, by omega, by go_num, HB6, Lib.hid (by rw [HF.out, intRows_app]; exact HO6.out)⟩
        case measure => simp [intOf]; omega
    · obtain rfl : n' = j := by omega
      have hltz : ¬ (n' : Int) < (n' : Int) := by omega
      rw [List.take_of_length_le (by rw [HN.out]; exact Nat.le_refl _)] at HO
      go_wp2
      try rw [Exit.noGoto_ret]
      go_ret
      exact ⟨_, rfl, by rw [HS.out]; exact HO.out, HB.out⟩
end Go.Proofs.Ytlhkkkmjoobpcaa
