/-
  The walk of the law QueueDoes: it answers true at every input. No condition but how the slices lie.
-/
import Derived.Test.YtemkpecagflafaaQDoes
namespace Go.Proofs.Ytemkpecagflafaa
open Go.RowKit

def deedCells (ds : List (Int × Int)) : List Value := ds.flatMap fun d => [.int .i64 d.1, .int .i64 d.2]
theorem deedCells_length (ds : List (Int × Int)) : (deedCells ds).length = ds.length * 2 := by
  induction ds with
  | nil => rfl
  | cons d t ih => simp only [deedCells, List.flatMap_cons, List.length_append, List.length_cons, List.length_nil] at ih ⊢; rw [ih]; omega
theorem deedCells_at (ds : List (Int × Int)) (k : Nat) (h : k < ds.length) : (deedCells ds)[k * 2]? = some (.int .i64 ds[k].1) ∧ (deedCells ds)[k * 2 + 1]? = some (.int .i64 ds[k].2) := by
  induction ds generalizing k with
  | nil => simp at h
  | cons d t ih =>
    cases k with
    | zero => exact ⟨rfl, rfl⟩
    | succ k =>
      have h' : k < t.length := by simpa using h
      have e1 : (k + 1) * 2 = k * 2 + 1 + 1 := by omega
      rw [e1]
      exact ih k h'
theorem Rd.deedAt {B : Nat} {w : World} {a : Option Addr} {n cap : Nat} {ds : List (Int × Int)} (h : Rd B w a n cap 2 (deedCells ds)) (k : Nat) (hk : k < n) :
    ∃ b o, a = some ⟨b, o, none⟩ ∧ ∃ hl : k < ds.length, w.cell? ⟨b, o + k * 2, none⟩ = some (.int .i64 ds[k].1) ∧ w.cell? ⟨b, o + k * 2 + 1, none⟩ = some (.int .i64 ds[k].2) := by
  obtain ⟨h1, h2, h3, h4⟩ := h
  rw [deedCells_length] at h1
  rcases h4 with h4 | ⟨b, o, ha, hbB, hc⟩
  · omega
  · have hl : k < ds.length := by omega
    obtain ⟨e0, e1⟩ := deedCells_at ds k hl
    refine ⟨b, o, ha, hl, ?_, ?_⟩
    · rw [hc (k * 2) (by rw [deedCells_length]; omega), ← List.getElem?_eq_getElem]; exact e0
    · rw [Nat.add_assoc, hc (k * 2 + 1) (by rw [deedCells_length]; omega), ← List.getElem?_eq_getElem]; exact e1
theorem Rd.deedLen {B : Nat} {w : World} {a : Option Addr} {n cap : Nat} {ds : List (Int × Int)} (h : Rd B w a n cap 2 (deedCells ds)) : ds.length = n := by
  have := h.1; rw [deedCells_length] at this; omega
theorem first_copy {W w : World} {qb B n cap : Nat} {a : Option Addr} {l : List Int} (h : QX W w qb l [] none 0 0) (hR : Rd B w a n cap 1 (ints l)) (hn : n ≤ 1000) :
    ∃ a2 cap2 w2, (Builtin.append_ #[22, 22] 22 #[.slice none 0 0, .slice a n cap]).run Try.prog w = .ok (.slice a2 n cap2) w2 ∧ QX W w2 qb l l a2 n cap2 := by
  obtain ⟨i0, hi, hz0, hz1, hz2⟩ := info_parts info_int
  cases n with
  | zero =>
    have hl : l = [] := List.eq_nil_of_length_eq_zero hR.intLen
    subst hl
    exact ⟨none, 0, w, run_append_none _ Try.underlying22 hi (Nat.le_refl _), h⟩
  | succ n =>
    obtain ⟨g, cap', w', hr, h2, h3, h4⟩ := run_append_copy (P := Try.prog) (w := w) 22 Try.underlying22 hi hz0 hz1 hz2 rfl h.toR rfl hR (ints_one l) (by omega) (by omega) (by omega)
    rw [Nat.zero_add] at hr h4
    exact ⟨_, cap', w', hr, h.fresh h3 h2 h4 (by omega)⟩

theorem Rd.pre {B : Nat} {w : World} {a : Option Addr} {n cap K : Nat} {l : List Int} (h : Rd B w a n cap 1 (ints l)) (hK : K ≤ n) : Rd B w a K cap 1 (ints (l.take K)) := by
  have hl := h.intLen
  rw [← List.take_append_drop K l] at h
  exact h.prefix K (by rw [List.length_take]; omega)
theorem ints_true {B B' n n' cap cap' : Nat} {a a' : Option Addr} {l : List Int} (w : World) (h : Rd B w a n cap 1 (ints l)) (h' : Rd B' w a' n' cap' 1 (ints l)) (hB : B ≤ w.heap.size) (hB' : B' ≤ w.heap.size) :
    Calls Try.prog 21 #[.slice a n cap, .slice a' n' cap'] w fun e w' => e = .returned (.bool true) ∧ Below w.heap.size w w' :=
  (ints_any w h h' hB hB').mono fun e w' ⟨he, hb⟩ => ⟨by rw [he]; simp, hb⟩

set_option maxRecDepth 100000 in
set_option maxHeartbeats 20000000 in
theorem queueDoes_any {B Bd n cap nd capd : Nat} {a ad : Option Addr} {l : List Int} {ds : List (Int × Int)} (most : Int) (w : World) (h : Rd B w a n cap 1 (ints l)) (hB : B ≤ w.heap.size) (hd : Rd Bd w ad nd capd 2 (deedCells ds)) (hBd : Bd ≤ w.heap.size) :
    Calls Try.prog 4 #[.slice a n cap, .slice ad nd capd, .int .i64 most] w fun e w' => e = .returned (.bool true) ∧ Below w.heap.size w w' := by
  have HB0 := Lib.hid (Below.refl w.heap.size w)
  obtain ⟨i0, hi, hz0, hz1, hz2⟩ := info_parts info_int
  have hcap := h.2.1
  have hm := h.2.2.1
  have hL := h.intLen
  have H := Lib.hid (h.le hB)
  have hcapd := hd.2.1
  have hmd := hd.2.2.1
  have hLd := hd.deedLen
  have D := Lib.hid (hd.le hBd)
  clear h hB hd hBd
  by_cases hbig : 40 < n ∨ 60 < nd
  · by_cases h40 : 40 < n
    · go_enter Try.func4, Try.ntmps4
      go_wp2_with (first | (go_at_call 15; refine (awake27_any _).mono ?_; (rintro e w1 ⟨rfl, hq⟩; have HB := Lib.hid hq; clear hq)))
      go_ret
      exact ⟨rfl, HB.out⟩
    · have h60 : 60 < nd := by omega
      clear hbig
      go_enter Try.func4, Try.ntmps4
      go_wp2_with (first | (go_at_call 15; refine (awake27_any _).mono ?_; (rintro e w1 ⟨rfl, hq⟩; have HB := Lib.hid hq; clear hq)))
      go_ret
      exact ⟨rfl, HB.out⟩
  · have h40 : n ≤ 40 := by omega
    have h60 : nd ≤ 60 := by omega
    clear hbig
    go_enter Try.func4, Try.ntmps4
    go_wp2_with (first | (go_at_call 15; refine (awake27_any _).mono ?_; (rintro e wa ⟨rfl, hq⟩; have HB := Lib.hid hq; have HR := Lib.hid (H.out.mono hq); clear hq)) | (go_at_call 16; refine (of_qx HB.out HR.out HB.out.size (by omega)).mono ?_; (rintro e w1 ⟨rfl, hq⟩; obtain ⟨a2, cap2, w2, hap, hq2⟩ := first_copy hq (H.out.mono hq.toB) (by omega); have HQ := Lib.hid hq2; clear hq hq2)) | (at_builtin; refine wpList_append_eq rfl _ _ rfl rfl rfl hap ?_))
    have HQ0 := Lib.hid HQ.out
    clear hap HQ
    go_loopw [8, 10, 11, 12, 29] (fun x _ _ _ i wr => ∃ (k : Nat) (xs : List Int) (m c : Nat) (b : Option Addr), k ≤ nd ∧ i = .int .i64 k ∧ x = .slice b m c ∧ m ≤ 40 + k ∧ Hid (QX w wr wa.heap.size xs xs b m c)) (fun _ _ _ _ i _ => nd - (intOf i).toNat)
    case atStart => exact ⟨0, l, n, cap2, a2, Nat.zero_le _, rfl, rfl, by omega, HQ0.out⟩
    case round =>
      obtain ⟨k, xs, m, c, b, hk, rfl, rfl, hmk, HQ⟩ := hrel
      by_cases hlt : k < nd
      · obtain ⟨bd, od, rfl, hl, hc0, hc1⟩ := D.out.deedAt k hlt
        have e0 := (HQ.out.1.cell (p := ⟨bd, od + k * 2, none⟩) (World.block_lt_of_cell? w _ hc0)).trans hc0
        have e1 := (HQ.out.1.cell (p := ⟨bd, od + k * 2 + 1, none⟩) (World.block_lt_of_cell? w _ hc1)).trans hc1
        clear hc0 hc1
        generalize ds[k] = d at *
        obtain ⟨kd, xd⟩ := d
        have hxs := HQ.out.toR.intLen
        have hcm := HQ.out.toR.2.1
        have hcM := HQ.out.toR.2.2.1
        have hm100 : m ≤ 100 := by omega
        have HN := Lib.hid (HQ.out.below (below_new wr (.cells #[.int .i64 kd, .int .i64 xd] 34)))
        by_cases h1 : kd = 1
        · subst h1
          cases xs with
          | nil =>
            have hm0 : m = 0 := by simpa using hxs.symm
            subst hm0
            cases b
            all_goals
              go_wp2_with (first | (go_at_call 19; refine (pop0_qx HN.out).mono ?_; (rintro e w3 ⟨rfl, rfl⟩)) | (go_at_call 23; refine (len_qx HN.out).mono ?_; (rintro e w3 ⟨rfl, rfl⟩; simp only [List.length_nil])))
              exact ⟨⟨k + 1, [], _, _, _, by omega, by go_num, rfl, by omega, HN.out⟩, by simp [intOf]; omega⟩
          | cons x t =>
            obtain ⟨bb, ob, rfl, hlx, hcx⟩ := HQ.out.toR.intAt 0 (by simp at hxs; omega)
            clear hcx hlx
            have hmt : m = t.length + 1 := by simp at hxs; omega
            subst hmt
            generalize t.length = n' at *
            go_wp2_with (first | (go_at_call 19; refine (pop_qx x HN.out (by simp at hxs; omega)).mono ?_; (rintro e w3 ⟨rfl, hq⟩; have HP := Lib.hid hq; have HT := Lib.hid hq.tail; obtain ⟨_, _, hee, hlx, hcx⟩ := hq.toR.intAt 0 (by omega); cases hee; have hcx' : w3.cell? ⟨bb, ob, none⟩ = some (Value.int .i64 x) := hcx; clear hq hcx hlx)) | (go_at_call 23; refine (len_qx HT.out).mono ?_; (rintro e w4 ⟨rfl, rfl⟩; rw [HT.out.toR.intLen])))
            by_cases hc1 : c = 1
            · subst hc1
              have hn0 : n' = 0 := by omega
              subst hn0
              have ht0 : t = [] := List.eq_nil_of_length_eq_zero (by simpa using hxs)
              subst ht0
              exact ⟨⟨k + 1, [], _, _, _, by omega, by go_num, rfl, by omega, HP.out.empty⟩, by simp [intOf]; omega⟩
            · rw [if_neg hc1]
              exact ⟨⟨k + 1, t, _, _, _, by omega, by go_num, rfl, by omega, HT.out⟩, by simp [intOf]; omega⟩
        · by_cases h2 : kd = 2
          · subst h2
            go_wp2_with (first | (go_at_call 17; refine (back_box xd 2 HQ.out (by omega)).mono ?_; (rintro e w3 ⟨rfl, hq, hcb⟩; have HP := Lib.hid hq; obtain ⟨g, cap', w4, hap, hq4⟩ := back_copy (x := xd) hq (by omega); have HT := Lib.hid hq4; clear hq hq4)) | (go_at_call 23; refine (len_qx HT.out).mono ?_; (rintro e w4 ⟨rfl, rfl⟩; rw [List.length_cons, hxs])) | (at_builtin; refine wpList_append_eq rfl _ _ rfl rfl rfl hap ?_))
            exact ⟨⟨k + 1, _, _, _, _, by omega, by go_num, rfl, by omega, HT.out⟩, by simp [intOf]; omega⟩
          · by_cases h3 : kd = 3
            · subst h3
              cases xs with
              | nil =>
                have hm0 : m = 0 := by simpa using hxs.symm
                subst hm0
                go_wp2_with (first | (go_at_call 22; refine (turn0_qx HN.out).mono ?_; (rintro e w3 ⟨rfl, rfl⟩)) | (go_at_call 23; refine (len_qx HN.out).mono ?_; (rintro e w3 ⟨rfl, rfl⟩; simp only [List.length_nil])))
                exact ⟨⟨k + 1, [], _, _, _, by omega, by go_num, rfl, by omega, HN.out⟩, by simp [intOf]; omega⟩
              | cons x t =>
                obtain ⟨bb, ob, rfl, hlx, hcx⟩ := HQ.out.toR.intAt 0 (by simp at hxs; omega)
                clear hcx hlx
                cases t with
                | nil =>
                  obtain rfl : m = 1 := by simpa using hxs.symm
                  go_wp2_with (first | (go_at_call 22; refine (turn_qx x HN.out (by simp)).mono ?_; (rintro e w3 ⟨rfl, hq⟩; have HP := Lib.hid hq; obtain ⟨_, _, hee, hlx, hcx⟩ := hq.toR.intAt 0 (by omega); cases hee; have hcx' : w3.cell? ⟨bb, ob, none⟩ = some (Value.int .i64 x) := hcx; clear hq hcx hlx)))
                  have hlb' : bb < w3.heap.size := World.block_lt_of_cell? w3 _ hcx'
                  have q1 : (1 : Int) ≤ (c : Int) := by omega
                  have q2 : (0 : Int) ≤ (c : Int) := by omega
                  clear e0 e1 HQ HN hxs hmk hm100 HQ0 H HB HR HB0 D
                  go_region_held3 (fun w' => w'.cell? ⟨bb, ob, none⟩ = some (Value.int .i64 x)) (first | exact hcx' | exact (cell_alloc_old _ _ _ _ _ hlb').trans hcx' | exact s1)
                    (first | (refine step_append_ex (by rfl) (.tmp 111) (.tmp 115) (by rfl) (by rfl) (by rfl) (full_copy HP.out.empty ⟨rfl, rfl, rfl, rfl⟩ (by omega)) ?_; rintro v w5 ⟨g, cap', rfl, hq5, hb5⟩; have HT5 := Lib.hid hq5; clear hq5; have s1 := (hb5.cell (p := ⟨bb, ob, none⟩) hlb').trans hcx'))
                  all_goals
                    rw [Nat.zero_add] at HT5
                    go_wp2_with (first | (go_at_call 23; refine (len_qx HT5.out).mono ?_; (rintro e w4 ⟨rfl, rfl⟩; rw [HT5.out.toR.intLen])))
                    exact ⟨⟨k + 1, [] ++ [x], _, _, _, by omega, by go_num, rfl, by omega, HT5.out⟩, by simp [intOf]; omega⟩
                | cons y t =>
                  have hmt : m = t.length + 2 := by simp at hxs; omega
                  subst hmt
                  generalize t.length = n' at *
                  have hpos2 : (0 : Int) < (n' : Int) + 2 := by omega
                  go_wp2_with (first | (go_at_call 22; refine (turn_qx x HN.out (by simp at hxs ⊢; omega)).mono ?_; (rintro e w3 ⟨rfl, hq⟩; have HP := Lib.hid hq.tail.full; obtain ⟨_, _, hee, hlx, hcx⟩ := hq.toR.intAt 0 (by omega); cases hee; have hcx' : w3.cell? ⟨bb, ob, none⟩ = some (Value.int .i64 x) := hcx; clear hq hcx hlx)))
                  have hlb' : bb < w3.heap.size := World.block_lt_of_cell? w3 _ hcx'
                  have q1 : (n' : Int) + 2 ≤ (c : Int) := by omega
                  have q2 : (0 : Int) ≤ (c : Int) := by omega
                  have q3 : (1 : Int) ≤ (n' : Int) + 2 := by omega
                  have q4 : (0 : Int) ≤ (n' : Int) + 2 := by omega
                  have q5 : ¬ n' + 2 = 1 := by omega
                  clear e0 e1 HQ HN hxs HQ0 H HB HR HB0 D
                  go_region_held3 (fun w' => w'.cell? ⟨bb, ob, none⟩ = some (Value.int .i64 x)) (first | exact hcx' | exact (cell_alloc_old _ _ _ _ _ hlb').trans hcx' | exact s1)
                    (first | (refine step_append_ex (by rfl) (.tmp 111) (.tmp 115) (by rfl) (by rfl) (by rfl) (full_copy HP.out ⟨rfl, rfl, rfl, rfl⟩ (by omega)) ?_; rintro v w5 ⟨g, cap', rfl, hq5, hb5⟩; have HT5 := Lib.hid hq5; clear hq5; have s1 := (hb5.cell (p := ⟨bb, ob, none⟩) hlb').trans hcx'))
                  all_goals
                    go_wp2_with (first | (go_at_call 23; refine (len_qx HT5.out).mono ?_; (rintro e w4 ⟨rfl, rfl⟩; rw [HT5.out.toR.intLen])))
                    exact ⟨⟨k + 1, (y :: t) ++ [x], _, _, _, by omega, by go_num, rfl, by omega, HT5.out⟩, by simp [intOf]; omega⟩
            · cases b with
              | none =>
                have hm0 : m = 0 := by
                  rcases HQ.out.toR.2.2.2 with h | ⟨_, _, h, _⟩
                  · exact h
                  · cases h
                subst hm0
                have hx0 : xs = [] := List.eq_nil_of_length_eq_zero hxs
                subst hx0
                go_wp2_with (first | (go_at_call 18; refine (push_box xd kd HQ.out (by simp)).mono ?_; (rintro e w3 ⟨rfl, hq, hcb⟩; have HP := Lib.hid hq; have hcx' := hcb; clear hq hcb)))
                have hlb' : wr.heap.size < w3.heap.size := World.block_lt_of_cell? w3 _ hcx'
                clear e0 e1 HQ HN hxs HQ0 H HB HR HB0 D
                go_region_held3 (fun w' => w'.cell? ⟨wr.heap.size, 1, none⟩ = some (Value.int .i64 xd)) (first | exact hcx' | exact (cell_alloc_old _ _ _ _ _ hlb').trans hcx' | exact s1)
                  (first | (refine step_append_ex (by rfl) (.tmp 44) (.tmp 47) (by rfl) (by rfl) (by rfl) (full_copy HP.out.empty ⟨rfl, rfl, rfl, rfl⟩ (by omega)) ?_; rintro v w5 ⟨g, cap', rfl, hq5, hb5⟩; have HT5 := Lib.hid hq5; clear hq5; have s1 := (hb5.cell (p := ⟨wr.heap.size, 1, none⟩) hlb').trans hcx'))
                all_goals
                  try rw [Nat.zero_add] at HT5
                  go_wp2_with (first | (go_at_call 23; refine (len_qx HT5.out).mono ?_; (rintro e w4 ⟨rfl, rfl⟩; rw [HT5.out.toR.intLen])))
                  exact ⟨⟨k + 1, [] ++ [xd], _, _, _, by omega, by go_num, rfl, by omega, HT5.out⟩, by simp [intOf]; omega⟩
              | some ad =>
                go_wp2_with (first | (go_at_call 18; refine (push_box xd kd HQ.out (by omega)).mono ?_; (rintro e w3 ⟨rfl, hq, hcb⟩; have HP := Lib.hid hq.full; have hcx' := hcb; clear hq hcb)))
                have hlb' : wr.heap.size < w3.heap.size := World.block_lt_of_cell? w3 _ hcx'
                clear e0 e1 HQ HN hxs HQ0 H HB HR HB0 D
                go_region_held3 (fun w' => w'.cell? ⟨wr.heap.size, 1, none⟩ = some (Value.int .i64 xd)) (first | exact hcx' | exact (cell_alloc_old _ _ _ _ _ hlb').trans hcx' | exact s1)
                  (first | (refine step_append_ex (by rfl) (.tmp 44) (.tmp 47) (by rfl) (by rfl) (by rfl) (full_copy HP.out ⟨rfl, rfl, rfl, rfl⟩ (by omega)) ?_; rintro v w5 ⟨g, cap', rfl, hq5, hb5⟩; have HT5 := Lib.hid hq5; clear hq5; have s1 := (hb5.cell (p := ⟨wr.heap.size, 1, none⟩) hlb').trans hcx'))
                all_goals
                  try rw [Nat.zero_add] at HT5
                  go_wp2_with (first | (go_at_call 23; refine (len_qx HT5.out).mono ?_; (rintro e w4 ⟨rfl, rfl⟩; rw [HT5.out.toR.intLen])))
                  exact ⟨⟨k + 1, xs ++ [xd], _, _, _, by omega, by go_num, rfl, by omega, HT5.out⟩, by simp [intOf]; omega⟩
      · obtain rfl : k = nd := by omega
        clear hlt hk
        have hxs := HQ.out.toR.intLen
        have hmc := HQ.out.toR.2.1
        have hcM := HQ.out.toR.2.2.1
        have HT := Lib.hid (show xs.take (1000 : Int).toNat = xs from List.take_of_length_le (by simp; omega))
        clear HB0 H HB HR HQ0 D
        have hm0 : (0 : Int) ≤ (m : Int) := by omega
        have hmi : (m : Int) ≤ c := by omega
        obtain ⟨K, hKm, hTK, hcase⟩ : ∃ K : Nat, K ≤ m ∧ xs.take most.toNat = xs.take K ∧ ((most < 0 ∧ K = 0) ∨ most = (K : Int) ∨ ((m : Int) < most ∧ K = m)) := by
          rcases Int.lt_or_le most 0 with h | h
          · exact ⟨0, by omega, by rw [show most.toNat = 0 by omega], .inl ⟨h, rfl⟩⟩
          · rcases Int.lt_or_le (m : Int) most with h' | h'
            · exact ⟨m, by omega, by rw [List.take_of_length_le (by omega), List.take_of_length_le (by omega)], .inr (.inr ⟨h', rfl⟩)⟩
            · exact ⟨most.toNat, by omega, rfl, .inr (.inl (by omega))⟩
        have HTK := Lib.hid hTK
        clear hTK
        have hKi : (K : Int) ≤ m := by omega
        have hKc : (K : Int) ≤ c := by omega
        have hK0 : (0 : Int) ≤ (K : Int) := by omega
        have hv : ∃ u : Int, (if (m : Int) < most then (m : Int) else most) = u ∧ (if (0 : Int) > u then (0 : Int) else u) = (K : Int) := by
          refine ⟨_, rfl, ?_⟩
          rcases hcase with ⟨h, hK⟩ | h | ⟨h, hK⟩ <;> (repeat' split) <;> omega
        obtain ⟨u, hu1, hu2⟩ := hv
        clear hcase
        cases b
        all_goals
            go_wp2
            go_region_held3 (fun _ => True) (trivial) (first
              | (go_at_call 20; refine (all_qx _ (HQ.out.drew (by exact ⟨rfl, rfl, rfl, rfl⟩)) (by omega)).mono ?_; rintro e w3 ⟨⟨a3, n3, c3, rfl, HG⟩, hq⟩; rw [HT.out] at HG; have HQ1 := Lib.hid hq; clear hq HQ)
              | (go_at_call 21; refine (ints_true _ HG.out HQ1.out.toR (Nat.le_refl _) (Nat.le_refl _)).mono ?_; rintro e w4 ⟨rfl, hb4⟩; have HQ2 := Lib.hid (HQ1.out.below hb4); clear hb4 HG HQ1)
              | (go_at_call 20; refine (all_qx _ HQ2.out (by omega)).mono ?_; rintro e w5 ⟨⟨a5, n5, c5, rfl, HG⟩, hq⟩; rw [HTK.out] at HG; have HP5 := Lib.hid (hq.toR.pre (K := K) hKm); have HQ3 := Lib.hid hq; clear hq HQ2)
              | (go_at_call 21; refine (ints_true _ HG.out HP5.out (Nat.le_refl _) (Nat.le_refl _)).mono ?_; rintro e w6 ⟨rfl, hb6⟩; have HE := Lib.hid (HQ3.out.below hb6).toB; clear hb6 HG HQ3 HP5))
            all_goals
              go_wp2
              go_ret
              exact ⟨rfl, HE.out⟩
end Go.Proofs.Ytemkpecagflafaa
