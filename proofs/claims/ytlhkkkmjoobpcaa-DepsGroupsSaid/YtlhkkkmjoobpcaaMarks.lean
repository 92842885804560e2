/-
  Rows of truth values of the call's own; the document's Reach; the places where something is so. No condition but how they lie, and sizes.
-/
import Derived.Test.YtlhkkkmjoobpcaaGraph
import Derived.Laws.MakeOwn
namespace Go.Proofs.Ytlhkkkmjoobpcaa
open Go.RowKit

def boolCells (o : List Bool) : Array Value := (o.map Value.bool).toArray
theorem boolCells_size (o : List Bool) : (boolCells o).size = o.length := by simp [boolCells]
theorem info_boolM : (Try.prog.info? 4).map (fun i => (i.zero, i.size, i.bytes)) = some (some (.bool false), 1, 1) := by kernel_rfl
theorem made_bool (n : Nat) : madeCells #[.bool false] (n * 1) = boolCells (List.replicate n false) := by
  unfold madeCells boolCells
  refine Array.ext_getElem? fun j => ?_
  rw [Array.getElem?_map, Array.getElem?_range]
  by_cases h : j < n
  · rw [if_pos (by omega)]
    simp [h, Nat.mod_one]
  · rw [if_neg (by omega)]
    simp [h]
theorem run_madeB (n : Nat) (hn : n ≤ 1048576) (w : World) : (Instr.makeSlice 29 (.int .i64 (n : Int)) (.int .i64 (n : Int))).run Try.prog w = .ok (.slice (some ⟨w.heap.size, 0, none⟩) n n) (w.alloc (.cells (boolCells (List.replicate n false)) 4)) := by
  obtain ⟨i, hi, hzz⟩ := Option.map_eq_some_iff.1 info_boolM
  simp only [Prod.mk.injEq] at hzz
  obtain ⟨hz, hs, hb⟩ := hzz
  have hr := run_make (P := Try.prog) (w := w) 29 4 i _ Try.underlying29 hi hz .i64 .i64 (n : Int) (n : Int) (by omega) (Int.le_refl _) (by rw [hb]; omega) (by omega)
  simp only [Int.toNat_natCast, hs] at hr
  rw [show (Value.bool false).cells = #[.bool false] from rfl, made_bool] at hr
  exact hr
def BoB (w : World) (g : Nat) (o : List Bool) : Prop := Bo w g 4 (boolCells o)
theorem BoB.at {w : World} {g : Nat} {o : List Bool} (h : BoB w g o) {k : Nat} (hk : k < o.length) : w.cell? ⟨g, k, none⟩ = some (.bool (on o k)) := by
  refine Bo.cell h ?_
  unfold boolCells on
  rw [List.getElem?_toArray, List.getElem?_map, List.getElem?_eq_getElem hk]; rfl
theorem BoB.put {w : World} {g : Nat} {o : List Bool} (h : BoB w g o) (k : Nat) : BoB (w.setCell ⟨g, k, none⟩ (.bool true)) g (o.set k true) := by
  have h1 := Bo.set h k (.bool true)
  unfold BoB
  rw [show boolCells (o.set k true) = (boolCells o).setIfInBounds k (.bool true) by simp [boolCells, List.map_set]]
  exact h1
def brows (o : List Bool) : List (List At) := o.map fun b => [.v (.bool b)]
theorem brows_len (o : List Bool) : (brows o).length = o.length := by simp [brows]
theorem BoB.mem {w : World} {g : Nat} {o : List Bool} (h : BoB w g o) {n : Nat} (hn : o.length = n) (hm : n ≤ 1048576) : MemW w (.s 1 (brows o)) (.slice (some ⟨g, 0, none⟩) n n) := by
  refine .s g 0 n n 1 _ (fun i _ => .bool (on o i)) (by rw [brows_len]; exact hn) (Nat.le_refl _) (by omega) (Bo.lt h) (fun i hi => by simp [brows]) (fun i j hi hj => ?_) (fun i j hi hj => ?_)
  · obtain rfl : j = 0 := by omega
    rw [Nat.zero_add, Nat.mul_one, Nat.add_zero]
    exact h.at (by omega)
  · have hi' : i < o.length := by rw [brows_len] at hi; exact hi
    have e : (brows o)[i] = [.v (.bool o[i])] := by simp [brows]
    have hj' : j < ((brows o)[i]).length := hj
    rw [e] at hj'
    obtain rfl : j = 0 := by simpa using hj'
    have e2 : on o i = o[i] := by unfold on; rw [List.getElem?_eq_getElem hi']; rfl
    simp only [e, List.getElem_cons_zero, e2]
    exact .v _ rfl
theorem bool_at {S : Nat → Prop} {w : World} {o : List Bool} {a : Option Addr} {n cap : Nat} (h : Mem S w (.s 1 (brows o)) (.slice a n cap)) (i : Nat) (hi : i < n) :
    ∃ b q, a = some ⟨b, q, none⟩ ∧ S b ∧ w.cell? ⟨b, q + i, none⟩ = some (.bool (on o i)) := by
  have hl := h.len.1
  rw [brows_len] at hl
  have hi' : i < o.length := by omega
  obtain ⟨b, q, ha, hS, _, cs, h2, hc⟩ := Mem.at h i (by rw [brows_len]; exact hi')
  have e : (brows o)[i]'(by rw [brows_len]; exact hi') = [.v (.bool o[i])] := by simp [brows]
  rw [e] at h2
  cases h2 with
  | cons g0 h2 =>
    cases h2
    have h3 := hc 0 (by simp)
    rw [Nat.mul_one, Nat.add_zero] at h3
    refine ⟨b, q, ha, hS, ?_⟩
    rw [h3]
    simp only [List.getElem_cons_zero]
    rw [g0.val]
    unfold on
    rw [List.getElem?_eq_getElem hi']; rfl
/-- The first places where something is so. -/
def risingP (o : List Bool) (k : Nat) : List Int := ((List.range k).filter (on o)).map fun k : Nat => (k : Int)
theorem risingP_succ (o : List Bool) (k : Nat) : risingP o (k + 1) = if on o k then risingP o k ++ [(k : Int)] else risingP o k := by
  unfold risingP
  rw [List.range_succ, List.filter_append, List.map_append]
  cases h : on o k with
  | true => simp [h]
  | false => simp [h]
theorem risingP_len (o : List Bool) (k : Nat) : (risingP o k).length ≤ k := by
  unfold risingP
  rw [List.length_map]
  exact Nat.le_trans (List.length_filter_le ..) (by rw [List.length_range]; exact Nat.le_refl _)
set_option maxHeartbeats 4000000 in
theorem rising_any {o : List Bool} {n cap : Nat} {a : Option Addr} (w : World) (h : MemW w (.s 1 (brows o)) (.slice a n cap)) (hn : n ≤ 1000000) :
    Calls Try.prog 10 #[.slice a n cap] w fun e w' => ∃ y, e = .returned y ∧ OwnD 0 w.heap.size 3 1 w' y (intRows (risingL o)) ∧ Below w.heap.size w w' := by
  have hl := h.len
  rw [brows_len] at hl
  have HL := Lib.hid hl.1
  have hcap := hl.2.1
  have hmx := hl.2.2
  have H := Lib.hid h
  have HN := Lib.hid hn
  have HF : Hid (risingP o n = risingL o) := Lib.hid (by unfold risingP risingL; rw [hl.1])
  clear hl h hn
  go_enter Try.func10, Try.ntmps10
  go_wp2
  go_loopw [3, 8] (fun v i wr => ∃ k : Nat, k ≤ n ∧ i = .int .i64 k ∧ Hid (Below w.heap.size w wr) ∧ Hid (OwnD 0 w.heap.size 3 1 wr v (intRows (risingP o k)))) (fun _ i _ => n - (intOf i).toNat)
  case atStart => exact ⟨0, Nat.zero_le _, rfl, Lib.hid (Below.refl _ _), Lib.hid (OwnD.nil _ _ _ _ _)⟩
  case round =>
    obtain ⟨k, hk, rfl, HB, HO⟩ := hrel
    by_cases hlt : k < n
    · have hltz : (k : Int) < (n : Int) := by omega
      obtain ⟨b, q, rfl, hbB, x0⟩ := bool_at (MemW.keep H.out HB.out) k hlt
      have HS := Lib.hid (risingP_succ o k)
      have HLN := Lib.hid (risingP_len o k)
      have hs := HB.out.size
      cases hon : on o k with
      | true =>
        rw [hon] at x0 HS
        rw [if_pos rfl] at HS
        clear hon
        go_wp2_with (first
          | (at_builtin
             refine wpList_append_D2 rfl _ _ rfl Try.underlying27 info_intG rfl (by decide) rfl rfl (HO.out.alloc _) (own_int (k : Int) _ rfl HO.out hs) (by have := HLN.out; have := HN.out; simp only [intRows_len, List.length_cons, List.length_nil]; omega) (by have := HLN.out; have := HN.out; simp only [intRows_len, List.length_cons, List.length_nil]; omega) (by rw [World.size_alloc]; omega) ?_
             intro v' w6 ho hg _
             have HO6 := Lib.hid ho
             have HB6 := Lib.hid (grown_below (HB.out.alloc hs _) hg (Nat.le_refl _) (fun k hk => (HO.out.lt k hk).1))
             clear ho hg))
        go_roundw
        case rel => exact ⟨k + 1, by omega, by go_num, HB6, Lib.hid (by rw [HS.out, intRows_app]; exact HO6.out)⟩
        case measure => simp [intOf]; omega
      | false =>
        rw [hon] at x0 HS
        rw [if_neg (by simp)] at HS
        clear hon
        go_wp2
        go_roundw
        case rel => exact ⟨k + 1, by omega, by go_num, HB, Lib.hid (by rw [HS.out]; exact HO.out)⟩
        case measure => simp [intOf]; omega
    · obtain rfl : n = k := by omega
      have hltz : ¬ (n : Int) < (n : Int) := by omega
      go_wp2
      go_ret
      exact ⟨_, rfl, by rw [← HF.out]; exact HO.out, HB.out⟩
/-- Where a mark may be set. -/
theorem markK_at (n : Nat) (o : List Bool) (k : Nat) (hk : k < n) : markK n o (k : Int) = o.set k true := by
  rw [markK, if_pos (okN_iff.2 ⟨by omega, by omega⟩), Int.toNat_natCast]
theorem foldl_take {α β : Type} {f : β → α → β} {b : β} {r : List α} {j : Nat} {x : α} (h : r[j]? = some x) : (r.take (j + 1)).foldl f b = f ((r.take j).foldl f b) x := by
  rw [take_at h, List.foldl_append]; rfl
theorem foldl_range {β : Type} {f : β → Nat → β} {b : β} {k : Nat} : (List.range (k + 1)).foldl f b = f ((List.range k).foldl f b) k := by
  rw [List.range_succ, List.foldl_append]; rfl
set_option maxRecDepth 100000 in
set_option maxHeartbeats 20000000 in
theorem rreach_any {l : List (List Int)} {n cap : Nat} {a : Option Addr} (i : Int) (w : World) (h : MemW w (.s 1 (grRows l)) (.slice a n cap)) (hn : n ≤ 1000) :
    Calls Try.prog 11 #[.slice a n cap, .int .i64 i] w fun e w' => ∃ g, e = .returned (.slice (some ⟨g, 0, none⟩) n n) ∧ BoB w' g (marksR l i) ∧ w.heap.size ≤ g ∧ Below w.heap.size w w' := by
  have hl := gr_len h
  have HL := Lib.hid hl.1
  have hcap := hl.2.1
  have hmx := hl.2.2
  have H := Lib.hid h
  have hmk := run_madeB n (by omega)
  have HG := Lib.hid (Bo.new w 4 (boolCells (List.replicate n false)))
  have HB0 := Lib.hid (below_new w (.cells (boolCells (List.replicate n false)) 4))
  have HSZ : Hid ((w.alloc (.cells (boolCells (List.replicate n false)) 4)).heap.size = w.heap.size + 1) := Lib.hid (World.size_alloc _ _)
  clear hl h
  by_cases hbad : okN n i = false
  · have HF : Hid (marksR l i = List.replicate n false) := Lib.hid (by rw [marksR, HL.out, hbad]; rfl)
    have hb2 : ¬ (0 ≤ i ∧ i < (n : Int)) := fun h => by rw [okN_iff.2 h] at hbad; cases hbad
    by_cases h0 : i < 0
    · have e1 : decide (i < 0) = true := decide_eq_true h0
      clear hbad hb2
      go_enter Try.func11, Try.ntmps11
      go_wp2
      go_ret
      exact ⟨_, rfl, by rw [HF.out]; exact HG.out, Nat.le_refl _, HB0.out⟩
    · have e1 : decide (i < 0) = false := decide_eq_false h0
      have e2 : decide ((n : Int) ≤ i) = true := decide_eq_true (by omega)
      clear hbad hb2
      go_enter Try.func11, Try.ntmps11
      go_wp2
      go_ret
      exact ⟨_, rfl, by rw [HF.out]; exact HG.out, Nat.le_refl _, HB0.out⟩
  · have hok : okN n i = true := by simpa using hbad
    have hb2 := okN_iff.1 hok
    have HF : Hid (marksR l i = roundsR l i (n + 1)) := Lib.hid (by rw [marksR, HL.out, hok]; rfl)
    have e1 : decide (i < 0) = false := decide_eq_false (by omega)
    have e2 : decide ((n : Int) ≤ i) = false := decide_eq_false (by omega)
    have HRL := Lib.hid (fun m => by have := roundsR_len l i m; rw [HL.out] at this; exact this : ∀ m, (roundsR l i m).length = n)
    have HR0 : Hid (roundsR l i 0 = List.replicate n false) := Lib.hid (by rw [roundsR, HL.out])
    have hn1 : (n : Int) + 1 ≤ 9223372036854775807 := by omega
    clear hbad hok
    go_enter Try.func11, Try.ntmps11
    go_wp2
    clear hmk
    generalize w.alloc (.cells (boolCells (List.replicate n false)) 4) = w1 at *
    go_loopw [24] (fun v wr => ∃ r : Nat, r ≤ n + 1 ∧ v = .int .i64 r ∧ Hid (Below w.heap.size w wr) ∧ Hid (BoB wr w.heap.size (roundsR l i r))) (fun v _ => n + 1 - (intOf v).toNat)
    case atStart => exact ⟨0, Nat.zero_le _, rfl, HB0, Lib.hid (by rw [HR0.out]; exact HG.out)⟩
    case round =>
      obtain ⟨r, hr, rfl, HB, HM⟩ := hrel
      by_cases hlt : r < n + 1
      · have hltz : (r : Int) < (n : Int) + 1 := by omega
        have HLo := Lib.hid (HRL.out r)
        have HRS : Hid (roundsR l i (r + 1) = (List.range n).foldl (markI l i) (roundsR l i r)) := Lib.hid (by rw [roundsR, roundR, HL.out])
        generalize roundsR l i r = o at *
        go_wp2
        go_loopw [28] (fun v w3 => ∃ k : Nat, k ≤ n ∧ v = .int .i64 k ∧ Hid (Below w.heap.size w w3) ∧ Hid (BoB w3 w.heap.size ((List.range k).foldl (markI l i) o))) (fun v _ => n - (intOf v).toNat)
        case atStart => exact ⟨0, Nat.zero_le _, rfl, HB, HM⟩
        case round =>
          obtain ⟨k, hk, rfl, HB3, HM3⟩ := hrel
          rename World => w3
          by_cases hlt3 : k < n
          · have hltz3 : (k : Int) < (n : Int) := by omega
            obtain ⟨b, q, r', a', n', c', rfl, hbB, Hr, x0, GR⟩ := gr_at H.out k hlt3
            replace x0 := cell_below x0 HB3.out
            replace hbB : b < w3.heap.size := Nat.lt_of_lt_of_le hbB HB3.out.size
            have hnr := GR.out.len
            rw [intRows_len] at hnr
            have HNR := Lib.hid hnr.1
            have hcr := hnr.2.1
            have hmr := hnr.2.2
            clear hnr
            have HST := Lib.hid (foldl_range (f := markI l i) (b := o) (k := k))
            have HLf : Hid (((List.range k).foldl (markI l i) o).length = n) := Lib.hid ((foldI_le l i _ o).1.trans HLo.out)
            generalize (List.range k).foldl (markI l i) o = o2 at *
            have c0 := HM3.out.at (k := k) (by have := HLf.out; omega)
            have hq3 := Bo.lt HM3.out
            by_cases hki : (k : Int) = i
            · have e3 : ((k : Int) != i) = false := by rw [bne_eq_false_iff_eq]; exact hki
              have HMI : Hid (markI l i o2 k = r'.foldl (markK n) o2) := Lib.hid (by rw [markI, if_neg (fun h => h.1 hki), rowG_at Hr.out, HL.out])
              clear hki
              go_wp2
              go_loopw [46] (fun v w4 => ∃ j : Nat, j ≤ n' ∧ v = .int .i64 j ∧ Hid (Below w.heap.size w w4) ∧ Hid (BoB w4 w.heap.size ((r'.take j).foldl (markK n) o2))) (fun v _ => n' - (intOf v).toNat)
              case atStart => exact ⟨0, Nat.zero_le _, rfl, HB3, Lib.hid (by rw [List.take_zero]; exact HM3.out)⟩
              case round =>
                obtain ⟨j, hj, rfl, HB4, HM4⟩ := hrel
                rename World => w4
                by_cases hlt4 : j < n'
                · have hltz4 : (j : Int) < (n' : Int) := by omega
                  obtain ⟨b2, q2, x, rfl, hb2', Hx, y0⟩ := int_at (MemW.keep GR.out HB4.out) j hlt4
                  have HFT := Lib.hid (foldl_take (f := markK n) (b := o2) Hx.out)
                  have HL4 : Hid (((r'.take j).foldl (markK n) o2).length = n) := Lib.hid ((foldK_le n _ o2).1.trans HLf.out)
                  generalize (r'.take j).foldl (markK n) o2 = o4 at *
                  by_cases hx0 : 0 ≤ x
                  · have f1 : decide (0 ≤ x) = true := decide_eq_true hx0
                    by_cases hx1 : x < (n : Int)
                    · obtain ⟨kx, rfl⟩ := Int.eq_ofNat_of_zero_le hx0
                      have hkx : kx < n := by omega
                      have f2 : decide ((kx : Int) < (n : Int)) = true := decide_eq_true hx1
                      have f3 : decide (kx < n) = true := decide_eq_true hkx
                      have c4 := HM4.out.at (k := kx) (by have := HL4.out; omega)
                      have hfr := Bo.frozen HM4.out kx
                      have hq4 := Bo.lt HM4.out
                      have HMK := Lib.hid (markK_at n o4 kx hkx)
                      clear hx0 hx1
                      go_wp2
                      go_roundw
                      case rel => exact ⟨j + 1, by omega, by go_num, Lib.hid (HB4.out.setCell (p := ⟨w.heap.size, kx, none⟩) (Nat.le_refl _) _), Lib.hid (by rw [HFT.out, HMK.out]; exact HM4.out.put kx)⟩
                      case measure => simp [intOf]; omega
                    · have f2 : decide (x < (n : Int)) = false := decide_eq_false hx1
                      have HMK : Hid (markK n o4 x = o4) := Lib.hid (by rw [markK, if_neg]; rw [okN_iff]; omega)
                      clear hx0 hx1
                      go_wp2
                      go_roundw
                      case rel => exact ⟨j + 1, by omega, by go_num, HB4, Lib.hid (by rw [HFT.out, HMK.out]; exact HM4.out)⟩
                      case measure => simp [intOf]; omega
                  · have f1 : decide (0 ≤ x) = false := decide_eq_false hx0
                    have HMK : Hid (markK n o4 x = o4) := Lib.hid (by rw [markK, if_neg]; rw [okN_iff]; omega)
                    clear hx0
                    go_wp2
                    go_roundw
                    case rel => exact ⟨j + 1, by omega, by go_num, HB4, Lib.hid (by rw [HFT.out, HMK.out]; exact HM4.out)⟩
                    case measure => simp [intOf]; omega
                · obtain rfl : n' = j := by omega
                  have hltz4 : ¬ (n' : Int) < (n' : Int) := by omega
                  have HEND : Hid ((r'.take n').foldl (markK n) o2 = r'.foldl (markK n) o2) := Lib.hid (by rw [List.take_of_length_le (by rw [HNR.out]; exact Nat.le_refl _)])
                  go_wp2
                  go_roundw
                  case rel => exact ⟨k + 1, by omega, by go_num, HB4, Lib.hid (by rw [HST.out, HMI.out, ← HEND.out]; exact HM4.out)⟩
                  case measure => simp [intOf]; omega
            · have e3 : ((k : Int) != i) = true := by rw [bne_iff_ne]; exact hki
              cases hon : on o2 k with
              | true =>
                have HMI : Hid (markI l i o2 k = r'.foldl (markK n) o2) := Lib.hid (by rw [markI, if_neg (fun h => by have h2 := h.2; unfold on at hon; rw [hon] at h2; cases h2), rowG_at Hr.out, HL.out])
                rw [hon] at c0
                clear hon hki
                go_wp2
                go_loopw [46] (fun v w4 => ∃ j : Nat, j ≤ n' ∧ v = .int .i64 j ∧ Hid (Below w.heap.size w w4) ∧ Hid (BoB w4 w.heap.size ((r'.take j).foldl (markK n) o2))) (fun v _ => n' - (intOf v).toNat)
                case atStart => exact ⟨0, Nat.zero_le _, rfl, HB3, Lib.hid (by rw [List.take_zero]; exact HM3.out)⟩
                case round =>
                  obtain ⟨j, hj, rfl, HB4, HM4⟩ := hrel
                  rename World => w4
                  by_cases hlt4 : j < n'
                  · have hltz4 : (j : Int) < (n' : Int) := by omega
                    obtain ⟨b2, q2, x, rfl, hb2', Hx, y0⟩ := int_at (MemW.keep GR.out HB4.out) j hlt4
                    have HFT := Lib.hid (foldl_take (f := markK n) (b := o2) Hx.out)
                    have HL4 : Hid (((r'.take j).foldl (markK n) o2).length = n) := Lib.hid ((foldK_le n _ o2).1.trans HLf.out)
                    generalize (r'.take j).foldl (markK n) o2 = o4 at *
                    by_cases hx0 : 0 ≤ x
                    · have f1 : decide (0 ≤ x) = true := decide_eq_true hx0
                      by_cases hx1 : x < (n : Int)
                      · obtain ⟨kx, rfl⟩ := Int.eq_ofNat_of_zero_le hx0
                        have hkx : kx < n := by omega
                        have f2 : decide ((kx : Int) < (n : Int)) = true := decide_eq_true hx1
                        have f3 : decide (kx < n) = true := decide_eq_true hkx
                        have c4 := HM4.out.at (k := kx) (by have := HL4.out; omega)
                        have hfr := Bo.frozen HM4.out kx
                        have hq4 := Bo.lt HM4.out
                        have HMK := Lib.hid (markK_at n o4 kx hkx)
                        clear hx0 hx1
                        go_wp2
                        go_roundw
                        case rel => exact ⟨j + 1, by omega, by go_num, Lib.hid (HB4.out.setCell (p := ⟨w.heap.size, kx, none⟩) (Nat.le_refl _) _), Lib.hid (by rw [HFT.out, HMK.out]; exact HM4.out.put kx)⟩
                        case measure => simp [intOf]; omega
                      · have f2 : decide (x < (n : Int)) = false := decide_eq_false hx1
                        have HMK : Hid (markK n o4 x = o4) := Lib.hid (by rw [markK, if_neg]; rw [okN_iff]; omega)
                        clear hx0 hx1
                        go_wp2
                        go_roundw
                        case rel => exact ⟨j + 1, by omega, by go_num, HB4, Lib.hid (by rw [HFT.out, HMK.out]; exact HM4.out)⟩
                        case measure => simp [intOf]; omega
                    · have f1 : decide (0 ≤ x) = false := decide_eq_false hx0
                      have HMK : Hid (markK n o4 x = o4) := Lib.hid (by rw [markK, if_neg]; rw [okN_iff]; omega)
                      clear hx0
                      go_wp2
                      go_roundw
                      case rel => exact ⟨j + 1, by omega, by go_num, HB4, Lib.hid (by rw [HFT.out, HMK.out]; exact HM4.out)⟩
                      case measure => simp [intOf]; omega
                  · obtain rfl : n' = j := by omega
                    have hltz4 : ¬ (n' : Int) < (n' : Int) := by omega
                    have HEND : Hid ((r'.take n').foldl (markK n) o2 = r'.foldl (markK n) o2) := Lib.hid (by rw [List.take_of_length_le (by rw [HNR.out]; exact Nat.le_refl _)])
                    go_wp2
                    go_roundw
                    case rel => exact ⟨k + 1, by omega, by go_num, HB4, Lib.hid (by rw [HST.out, HMI.out, ← HEND.out]; exact HM4.out)⟩
                    case measure => simp [intOf]; omega
              | false =>
                have HMI : Hid (markI l i o2 k = o2) := Lib.hid (by rw [markI, if_pos ⟨hki, hon⟩])
                rw [hon] at c0
                clear hon hki
                go_wp2
                go_roundw
                case rel => exact ⟨k + 1, by omega, by go_num, HB3, Lib.hid (by rw [HST.out, HMI.out]; exact HM3.out)⟩
                case measure => simp [intOf]; omega
          · obtain rfl : n = k := by omega
            have hltz3 : ¬ (n : Int) < (n : Int) := by omega
            go_wp2
            go_roundw
            case rel => exact ⟨r + 1, by omega, by go_num, HB3, Lib.hid (by rw [HRS.out]; exact HM3.out)⟩
            case measure => simp [intOf]; omega
      · obtain rfl : r = n + 1 := by omega
        have hltz : ¬ ((n : Int) + 1) < (n : Int) + 1 := by omega
        go_wp2
        go_ret
        exact ⟨_, rfl, by rw [HF.out]; exact HM.out, Nat.le_refl _, HB.out⟩
end Go.Proofs.Ytlhkkkmjoobpcaa
