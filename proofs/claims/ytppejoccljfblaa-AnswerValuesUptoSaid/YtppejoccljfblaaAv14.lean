/-
  slices.swapRangeCmpFunc, slices.rotateCmpFunc at terms. No condition but how they lie.
-/
import Derived.Test.YtppejoccljfblaaAv10
import Derived.Test.YtppejoccljfblaaAv13
namespace Go.Proofs.Ytppejoccljfblaa
open Go.RowKit
attribute [local go_sem ↓] wp_store_O
attribute [local go_sem] stO_eq stB_eq stC_eq stF_eq wrO_set

set_option maxRecDepth 100000 in
set_option maxHeartbeats 2000000 in
theorem swapRange_any {w0 w : World} {q o : Nat} {d : Array El} (a b n cap : Nat) {ai bi ni : Int} (hai : ai = (a : Int)) (hbi : bi = (b : Int)) (hni : ni = (n : Int)) (h : SS w0 q o d w) (hab : a + n ≤ b) (hb : b + n ≤ d.size) (hsz : d.size ≤ 100000) :
    Calls Try.prog 197 #[.slice (some ⟨q, o, none⟩) d.size cap, .int .i64 ai, .int .i64 bi, .int .i64 ni, .func (.func 112) #[] #[]] w fun e w' => e = .returned (.tuple #[]) ∧ ∃ d', SS w0 q o d' w' ∧ Sort.PermIn a (b + n) d d' ∧ ∀ k, d'[k]! = xch (fun k => d[k]!) a b n k := by
  subst hai; subst hbi; subst hni
  have H := Lib.hid h
  clear h
  go_enter Try.func197, Try.ntmps197
  go_wp2
  go_loopw [10] (fun vi wr => ∃ (i : Nat) (dk : Array El), vi = .int .i64 i ∧ i ≤ n ∧ dk.size = d.size ∧ Hid (SS w0 q o dk wr) ∧ Hid (Sort.PermIn a (b + n) d dk) ∧ Hid (∀ k, dk[k]! = xch (fun k => d[k]!) a b i k)) (fun vi _ => n - (intOf vi).toNat)
  case atStart => exact ⟨0, d, rfl, Nat.zero_le _, rfl, H.out, Sort.permIn_refl _ _ _, Lib.hid fun k => (xch_zero _ _ _ _).symm⟩
  case round =>
    obtain ⟨i, dk, rfl, hin, hsk, HS, HP, HX⟩ := hrel
    by_cases hlt : i < n
    · have hltz : (i : Int) < (n : Int) := by omega
      obtain ⟨xj, hxj⟩ : ∃ x, dk[a + i]! = x := ⟨_, rfl⟩
      obtain ⟨xp, hxp⟩ : ∃ x, dk[b + i]! = x := ⟨_, rfl⟩
      have hj1 : a + i < dk.size := by omega
      have hj0 : b + i < dk.size := by omega
      have XJ := Lib.hid hxj
      have XP := Lib.hid hxp
      clear hxj hxp
      obtain ⟨x0, x1, x2, x3⟩ := HS.out.row.c4 hj1 XJ.out
      obtain ⟨y0, y1, y2, y3⟩ := HS.out.row.c4 hj0 XP.out
      have v0 := HS.out.drew.row.wr hj1
      have v1 := HS.out.drew.row.wr hj0
      have jz : (a : Int) + (i : Int) < (d.size : Int) := by omega
      have jz1 : (b : Int) + (i : Int) < (d.size : Int) := by omega
      have p0 : (0 : Int) ≤ (a : Int) + (i : Int) := by omega
      have p1 : (0 : Int) ≤ (b : Int) + (i : Int) := by omega
      have e0 : ((a : Int) + (i : Int)).toNat = a + i := by omega
      have e1 : ((b : Int) + (i : Int)).toNat = b + i := by omega
      have w1 : IntKind.i64.wrap ((a : Int) + (i : Int)) = (a : Int) + (i : Int) := by rw [IntKind.wrap_i64]; omega
      have w2 : IntKind.i64.wrap ((b : Int) + (i : Int)) = (b : Int) + (i : Int) := by rw [IntKind.wrap_i64]; omega
      go_wp2
      go_region
      all_goals
        go_wp2
        go_roundw
        case rel => exact ⟨i + 1, Sort.swp dk (a + i) (b + i), by go_num, by omega, by rw [Sort.size_swp]; exact hsk, HS.out.drew.swp hj1 hj0 XJ.out XP.out, Sort.permIn_trans _ _ _ _ _ HP.out (Sort.swp_permIn _ _ _ _ _ (by omega) (by omega) (by omega) (by omega) (by omega)), Lib.hid (xch_step HX.out hsk (by omega) (by omega))⟩
        case measure => simp [intOf] <;> omega
    · have hltz : ¬ (i : Int) < (n : Int) := by omega
      obtain rfl : i = n := by omega
      go_wp2
      go_end0
      exact ⟨rfl, dk, HS.out, HP.out, HX.out⟩
set_option maxRecDepth 100000 in
set_option maxHeartbeats 2000000 in
theorem rotate_any {w0 w : World} {q o : Nat} {d : Array El} (a m b cap : Nat) {ai mi bi : Int} (hai : ai = (a : Int)) (hmi : mi = (m : Int)) (hbi : bi = (b : Int)) (h : SS w0 q o d w) (ham : a < m) (hmb : m < b) (hb : b ≤ d.size) (hsz : d.size ≤ 100000) :
    Calls Try.prog 194 #[.slice (some ⟨q, o, none⟩) d.size cap, .int .i64 ai, .int .i64 mi, .int .i64 bi, .func (.func 112) #[] #[]] w fun e w' => e = .returned (.tuple #[]) ∧ ∃ d', SS w0 q o d' w' ∧ Sort.PermIn a b d d' ∧ ∀ k, d'[k]! = rot (fun k => d[k]!) a m b k := by
  subst hai; subst hbi; subst hmi
  have H := Lib.hid h
  clear h
  go_enter Try.func194, Try.ntmps194
  go_wp2
  go_loopw [10, 11] (fun vi vj wr => ∃ (i j : Nat) (dk : Array El), vi = .int .i64 i ∧ vj = .int .i64 j ∧ 0 < i ∧ 0 < j ∧ a + i ≤ m ∧ m + j ≤ b ∧ dk.size = d.size ∧ Hid (SS w0 q o dk wr) ∧ Hid (Sort.PermIn a b d dk) ∧ Hid (∀ k, rot (fun k => dk[k]!) (m - i) m (m + j) k = rot (fun k => d[k]!) a m b k)) (fun vi vj _ => (intOf vi).toNat + (intOf vj).toNat)
  case atStart => exact ⟨m - a, b - m, d, by go_num, by go_num, by omega, by omega, by omega, by omega, rfl, H.out, Sort.permIn_refl _ _ _, Lib.hid fun k => by rw [show m - (m - a) = a by omega, show m + (b - m) = b by omega]⟩
  case round =>
    obtain ⟨i, j, dk, rfl, rfl, hi0, hj0, him, hjb, hsk, HS, HP, HX⟩ := hrel
    by_cases hij : i = j
    · subst hij
      go_wp2_with (first | (go_at_call 197 ; rw [← hsk]; refine (swapRange_any (m - i) m i cap (by omega) rfl rfl HS.out (by omega) (by omega) (by omega)).mono ?_; rintro e w2 ⟨rfl, dl, hs, hp, hx⟩; have HS2 := Lib.hid hs; have HP2 := Lib.hid hp; have HX2 := Lib.hid hx; clear hs hp hx))
      go_end0
      exact ⟨rfl, dl, HS2.out, Sort.permIn_trans _ _ _ _ _ HP.out (Sort.permIn_mono _ _ _ _ _ _ (by omega) (by omega) (by omega) HP2.out), fun k => by rw [← HX.out]; exact rot_same (by omega) HX2.out k⟩
    · have e1 : ((i : Int) != (j : Int)) = true := by rw [bne_iff_ne]; omega
      by_cases hlt : j < i
      · have hltz : (j : Int) < (i : Int) := by omega
        go_wp2_with (first | (go_at_call 197 ; rw [← hsk]; refine (swapRange_any (m - i) m j cap (by omega) rfl rfl HS.out (by omega) (by omega) (by omega)).mono ?_; rintro e w2 ⟨rfl, dl, hs, hp, hx⟩; have HS2 := Lib.hid hs; have HP2 := Lib.hid hp; have HX2 := Lib.hid hx; clear hs hp hx))
        go_roundw
        case rel => exact ⟨i - j, j, dl, by go_num, rfl, by omega, hj0, by omega, hjb, HP2.out.1.trans hsk, HS2.out, Sort.permIn_trans _ _ _ _ _ HP.out (Sort.permIn_mono _ _ _ _ _ _ (by omega) (by omega) (by omega) HP2.out), Lib.hid fun k => by rw [← HX.out]; exact rot_left hlt (by omega) HX2.out k⟩
        case measure => simp [intOf] <;> omega
      · have hltz : ¬ (j : Int) < (i : Int) := by omega
        go_wp2_with (first | (go_at_call 197 ; rw [← hsk]; refine (swapRange_any (m - i) (m + j - i) i cap (by omega) (by omega) rfl HS.out (by omega) (by omega) (by omega)).mono ?_; rintro e w2 ⟨rfl, dl, hs, hp, hx⟩; have HS2 := Lib.hid hs; have HP2 := Lib.hid hp; have HX2 := Lib.hid hx; clear hs hp hx))
        go_roundw
        case rel => exact ⟨i, j - i, dl, rfl, by go_num, hi0, by omega, him, by omega, HP2.out.1.trans hsk, HS2.out, Sort.permIn_trans _ _ _ _ _ HP.out (Sort.permIn_mono _ _ _ _ _ _ (by omega) (by omega) (by omega) HP2.out), Lib.hid fun k => by rw [← HX.out]; exact rot_right (by omega) (by omega) HX2.out k⟩
        case measure => simp [intOf] <;> omega
end Go.Proofs.Ytppejoccljfblaa

/-
  slices.symMergeCmpFunc at terms: two sorted stretches become one. No condition but how they lie.
-/
namespace Go.Proofs.Ytppejoccljfblaa
open Go.RowKit
attribute [local go_sem ↓] wp_store_O
attribute [local go_sem] stO_eq stB_eq stC_eq stF_eq wrO_set

theorem swo_ltE : Sort.SWO ltE where
  irrefl x := by simp [ltE, cmpT_self]
  trans x y z h1 h2 := by
    simp only [ltE, decide_eq_true_eq] at *
    have := cmpT_3 x.t y.t z.t
    unfold T3 at this; omega
  ntrans x y z h1 h2 := by
    simp only [ltE, decide_eq_false_iff_not] at *
    have := cmpT_3 z.t y.t x.t
    have e1 := cmpT_neg x.t y.t
    have e2 := cmpT_neg y.t z.t
    have e3 := cmpT_neg x.t z.t
    unfold T3 at this; omega

set_option maxRecDepth 100000 in
set_option maxHeartbeats 2000000 in
theorem symMerge_A {w0 w : World} {q o : Nat} {d : Array El} (a b cap : Nat) {ai mi bi : Int} (hai : ai = (a : Int)) (hmi : mi = (a : Int) + 1) (hbi : bi = (b : Int)) (h : SS w0 q o d w) (hmb : a + 1 < b) (hb : b ≤ d.size) (hsz : d.size ≤ 100000) (h2 : Sort.SortedIn ltE (a + 1) b d) :
    Calls Try.prog 184 #[.slice (some ⟨q, o, none⟩) d.size cap, .int .i64 ai, .int .i64 mi, .int .i64 bi, .func (.func 112) #[] #[]] w fun e w' => e = .returned (.tuple #[]) ∧ ∃ d', SS w0 q o d' w' ∧ Sort.PermIn a b d d' ∧ Sort.SortedIn ltE a b d' := by
  subst hai; subst hmi; subst hbi
  have H := Lib.hid h
  have H2 := Lib.hid h2
  clear h h2
  have e1 : (((a : Int) + 1 - (a : Int)) == 1) = true := by rw [beq_iff_eq]; omega
  have e2 : IntKind.i64.wrap ((a : Int) + 1 - (a : Int)) = 1 := by rw [IntKind.wrap_i64]; omega
  go_enter Try.func184, Try.ntmps184
  go_wp2
  go_loopw [10, 11] (fun vi vj wr => ∃ (i j : Nat), vi = .int .i64 i ∧ vj = .int .i64 j ∧ a + 1 ≤ i ∧ i ≤ j ∧ j ≤ b ∧ Hid (SS w0 q o d wr) ∧ Hid (i = a + 1 ∨ ltE d[i - 1]! d[a]! = true) ∧ Hid (j = b ∨ ltE d[j]! d[a]! = false)) (fun vi vj _ => (intOf vj - intOf vi).toNat)
  case atStart => exact ⟨a + 1, b, by go_num, rfl, Nat.le_refl _, by omega, Nat.le_refl _, H.out, .inl rfl, .inl rfl⟩
  case round =>
    obtain ⟨i, j, rfl, rfl, hmi, hij, hjb, HS, HL, HH⟩ := hrel
    by_cases hlt : i < j
    · have hltz : (i : Int) < (j : Int) := by omega
      obtain ⟨h, hh⟩ : ∃ h : Nat, ((i : Int) + (j : Int)) / 2 = (h : Int) := ⟨(i + j) / 2, by omega⟩
      have hih : i ≤ h := by omega
      have hhj : h < j := by omega
      have hz1 : (h : Int) < (d.size : Int) := by omega
      have hz2 : (a : Int) < (d.size : Int) := by omega
      obtain ⟨ex, hex⟩ : ∃ x, d[h]! = x := ⟨_, rfl⟩
      obtain ⟨ey, hey⟩ : ∃ x, d[a]! = x := ⟨_, rfl⟩
      have hx1 : h < d.size := by omega
      have hy1 : a < d.size := by omega
      have XJ := Lib.hid hex
      have XP := Lib.hid hey
      clear hex hey
      obtain ⟨x0, x1, x2, x3⟩ := HS.out.row.c4 hx1 XJ.out
      obtain ⟨y0, y1, y2, y3⟩ := HS.out.row.c4 hy1 XP.out
      have MX := Lib.hid (HS.out.drew.mem hx1 XJ.out)
      have MY := Lib.hid (HS.out.drew.mem hy1 XP.out)
      by_cases hc : cmpT ex.t ey.t < 0
      · have HF : Hid (ltE d[h]! d[a]! = true) := Lib.hid (by rw [XJ.out, XP.out]; exact decide_eq_true hc)
        go_wp2
        go_still_tail 9, (by kernel_rfl)
        change wpList _ _ _ _ _ wr.drew
        go_wp2_with (first | (go_at_call 112 ; refine (cmpE ex ey _ MX.out MY.out).mono ?_; rintro e w2 ⟨rfl, hb⟩; have HB2 := Lib.hid hb; clear hb))
        go_roundw
        case rel => exact ⟨h + 1, j, by go_num, rfl, by omega, by omega, hjb, HS.out.drew.keep HB2.out, Lib.hid (.inr HF.out), HH.out⟩
        case measure => simp [intOf] <;> omega
      · have HF : Hid (ltE d[h]! d[a]! = false) := Lib.hid (by rw [XJ.out, XP.out]; exact decide_eq_false hc)
        go_wp2
        go_still_tail 9, (by kernel_rfl)
        change wpList _ _ _ _ _ wr.drew
        go_wp2_with (first | (go_at_call 112 ; refine (cmpE ex ey _ MX.out MY.out).mono ?_; rintro e w2 ⟨rfl, hb⟩; have HB2 := Lib.hid hb; clear hb))
        go_roundw
        case rel => exact ⟨i, h, rfl, rfl, hmi, hih, by omega, HS.out.drew.keep HB2.out, HL.out, Lib.hid (.inr HF.out)⟩
        case measure => simp [intOf] <;> omega
    · obtain rfl : i = j := by omega
      have hltz : ¬ (i : Int) < (i : Int) := by omega
      go_wp2
      go_loopw [13] (fun vk wr => ∃ (k : Nat) (dk : Array El), vk = .int .i64 k ∧ a ≤ k ∧ k + 1 ≤ i ∧ dk.size = d.size ∧ Hid (SS w0 q o dk wr) ∧ Hid (Sort.PermIn a b d dk) ∧ Hid (∀ x, dk[x]! = rot (fun x => d[x]!) a (a + 1) (k + 1) x)) (fun vk _ => i - (intOf vk).toNat)
      case atStart => exact ⟨a, d, rfl, Nat.le_refl _, hmi, rfl, HS.out, Sort.permIn_refl _ _ _, Lib.hid fun x => (rot_end _ (by omega) x).symm⟩
      case round =>
        clear HS
        obtain ⟨k, dk, rfl, hak, hki, hsk, HS, HP, HX⟩ := hrel
        have ws : IntKind.i64.wrap ((i : Int) - 1) = (i : Int) - 1 := by rw [IntKind.wrap_i64]; omega
        by_cases hlk : k + 1 < i
        · have hlkz : (k : Int) < (i : Int) - 1 := by omega
          have p0 : (0 : Int) ≤ (k : Int) + 1 := by omega
          have jz : (k : Int) + 1 < (d.size : Int) := by omega
          have jz1 : (k : Int) < (d.size : Int) := by omega
          have e0 : ((k : Int) + 1).toNat = k + 1 := by omega
          have w1 : IntKind.i64.wrap ((k : Int) + 1) = (k : Int) + 1 := by rw [IntKind.wrap_i64]; omega
          obtain ⟨ex, hex⟩ : ∃ x, dk[k]! = x := ⟨_, rfl⟩
          obtain ⟨ey, hey⟩ : ∃ x, dk[k + 1]! = x := ⟨_, rfl⟩
          have hx1 : k < dk.size := by omega
          have hy1 : k + 1 < dk.size := by omega
          have XJ := Lib.hid hex
          have XP := Lib.hid hey
          clear hex hey
          obtain ⟨x0, x1, x2, x3⟩ := HS.out.row.c4 hx1 XJ.out
          obtain ⟨y0, y1, y2, y3⟩ := HS.out.row.c4 hy1 XP.out
          have v0 := HS.out.drew.row.wr hx1
          have v1 := HS.out.drew.row.wr hy1
          go_wp2
          go_region
          all_goals
            go_wp2
            go_roundw
            case rel => exact ⟨k + 1, Sort.swp dk k (k + 1), by go_num, by omega, by omega, by rw [Sort.size_swp]; exact hsk, HS.out.drew.swp hx1 hy1 XJ.out XP.out, Sort.permIn_trans _ _ _ _ _ HP.out (Sort.swp_permIn _ _ _ _ _ (by omega) (by omega) (by omega) (by omega) (by omega)), Lib.hid (rot_one HX.out hsk hak (by omega))⟩
            case measure => simp [intOf] <;> omega
        · have hlkz : ¬ (k : Int) < (i : Int) - 1 := by omega
          obtain rfl : i = k + 1 := by omega
          go_wp2
          all_goals
            first
            | go_end0
            | refine bodyPost_ret (results_none rfl _ _ _) rfl ?_
          all_goals exact ⟨rfl, dk, HS.out, sym_A swo_ltE hb H2.out hmi hjb HL.out HH.out HP.out HX.out⟩
set_option maxRecDepth 100000 in
set_option maxHeartbeats 2000000 in
theorem symMerge_B {w0 w : World} {q o : Nat} {d : Array El} (a m cap : Nat) {ai mi bi : Int} (hai : ai = (a : Int)) (hmi : mi = (m : Int)) (hbi : bi = (m : Int) + 1) (h : SS w0 q o d w) (ham : a < m) (hne : m ≠ a + 1) (hb : m + 1 ≤ d.size) (hsz : d.size ≤ 100000) (h1 : Sort.SortedIn ltE a m d) :
    Calls Try.prog 184 #[.slice (some ⟨q, o, none⟩) d.size cap, .int .i64 ai, .int .i64 mi, .int .i64 bi, .func (.func 112) #[] #[]] w fun e w' => e = .returned (.tuple #[]) ∧ ∃ d', SS w0 q o d' w' ∧ Sort.PermIn a (m + 1) d d' ∧ Sort.SortedIn ltE a (m + 1) d' := by
  subst hai; subst hmi; subst hbi
  have H := Lib.hid h
  have H1 := Lib.hid h1
  clear h h1
  have e1 : ((m : Int) - (a : Int) == 1) = false := by rw [beq_eq_false_iff_ne]; omega
  have e2 : IntKind.i64.wrap ((m : Int) - (a : Int)) = (m : Int) - (a : Int) := by rw [IntKind.wrap_i64]; omega
  have e3 : (((m : Int) + 1 - (m : Int)) == 1) = true := by rw [beq_iff_eq]; omega
  have e4 : IntKind.i64.wrap ((m : Int) + 1 - (m : Int)) = 1 := by rw [IntKind.wrap_i64]; omega
  go_enter Try.func184, Try.ntmps184
  go_wp2
  go_loopw [14, 15] (fun vi vj wr => ∃ (i j : Nat), vi = .int .i64 i ∧ vj = .int .i64 j ∧ a ≤ i ∧ i ≤ j ∧ j ≤ m ∧ Hid (SS w0 q o d wr) ∧ Hid (i = a ∨ ltE d[m]! d[i - 1]! = false) ∧ Hid (j = m ∨ ltE d[m]! d[j]! = true)) (fun vi vj _ => (intOf vj - intOf vi).toNat)
  case atStart => exact ⟨a, m, rfl, rfl, Nat.le_refl _, by omega, Nat.le_refl _, H.out, .inl rfl, .inl rfl⟩
  case round =>
    obtain ⟨i, j, rfl, rfl, hai, hij, hjm, HS, HL, HH⟩ := hrel
    by_cases hlt : i < j
    · have hltz : (i : Int) < (j : Int) := by omega
      obtain ⟨h, hh⟩ : ∃ h : Nat, ((i : Int) + (j : Int)) / 2 = (h : Int) := ⟨(i + j) / 2, by omega⟩
      have hih : i ≤ h := by omega
      have hhj : h < j := by omega
      have hz1 : (h : Int) < (d.size : Int) := by omega
      have hz2 : (m : Int) < (d.size : Int) := by omega
      obtain ⟨ex, hex⟩ : ∃ x, d[m]! = x := ⟨_, rfl⟩
      obtain ⟨ey, hey⟩ : ∃ x, d[h]! = x := ⟨_, rfl⟩
      have hx1 : m < d.size := by omega
      have hy1 : h < d.size := by omega
      have XJ := Lib.hid hex
      have XP := Lib.hid hey
      clear hex hey
      obtain ⟨x0, x1, x2, x3⟩ := HS.out.row.c4 hx1 XJ.out
      obtain ⟨y0, y1, y2, y3⟩ := HS.out.row.c4 hy1 XP.out
      have MX := Lib.hid (HS.out.drew.mem hx1 XJ.out)
      have MY := Lib.hid (HS.out.drew.mem hy1 XP.out)
      by_cases hc : cmpT ex.t ey.t < 0
      · have HF : Hid (ltE d[m]! d[h]! = true) := Lib.hid (by rw [XJ.out, XP.out]; exact decide_eq_true hc)
        go_wp2
        go_still_tail 9, (by kernel_rfl)
        change wpList _ _ _ _ _ wr.drew
        go_wp2_with (first | (go_at_call 112 ; refine (cmpE ex ey _ MX.out MY.out).mono ?_; rintro e w2 ⟨rfl, hb⟩; have HB2 := Lib.hid hb; clear hb))
        go_roundw
        case rel => exact ⟨i, h, rfl, rfl, hai, hih, by omega, HS.out.drew.keep HB2.out, HL.out, Lib.hid (.inr HF.out)⟩
        case measure => simp [intOf] <;> omega
      · have HF : Hid (ltE d[m]! d[h]! = false) := Lib.hid (by rw [XJ.out, XP.out]; exact decide_eq_false hc)
        have hd : decide (cmpT ex.t ey.t < 0) = false := decide_eq_false hc
        clear hc
        go_wp2
        go_still_tail 9, (by kernel_rfl)
        change wpList _ _ _ _ _ wr.drew
        go_wp2_with (first | (go_at_call 112 ; refine (cmpE ex ey _ MX.out MY.out).mono ?_; rintro e w2 ⟨rfl, hb⟩; have HB2 := Lib.hid hb; clear hb))
        go_roundw
        case rel => exact ⟨h + 1, j, by go_num, rfl, by omega, by omega, hjm, HS.out.drew.keep HB2.out, Lib.hid (.inr HF.out), HH.out⟩
        case measure => simp [intOf] <;> omega
    · obtain rfl : i = j := by omega
      have hltz : ¬ (i : Int) < (i : Int) := by omega
      go_wp2
      go_loopw [17] (fun vk wr => ∃ (k : Nat) (dk : Array El), vk = .int .i64 k ∧ i ≤ k ∧ k ≤ m ∧ dk.size = d.size ∧ Hid (SS w0 q o dk wr) ∧ Hid (Sort.PermIn a (m + 1) d dk) ∧ Hid (∀ x, dk[x]! = rot (fun x => d[x]!) k m (m + 1) x)) (fun vk _ => (intOf vk).toNat)
      case atStart => exact ⟨m, d, rfl, hjm, Nat.le_refl _, rfl, HS.out, Sort.permIn_refl _ _ _, Lib.hid fun x => (rot_start _ (by omega) x).symm⟩
      case round =>
        clear HS
        obtain ⟨k, dk, rfl, hik, hkm, hsk, HS, HP, HX⟩ := hrel
        by_cases hlk : i < k
        · obtain ⟨kp, rfl⟩ : ∃ kp, k = kp + 1 := ⟨k - 1, by omega⟩
          have hlkz : (i : Int) < (kp : Int) + 1 := by omega
          have p0 : (0 : Int) ≤ (kp : Int) + 1 := by omega
          have jz : (kp : Int) + 1 < (d.size : Int) := by omega
          have jz1 : (kp : Int) < (d.size : Int) := by omega
          have e0 : ((kp : Int) + 1).toNat = kp + 1 := by omega
          have w1 : IntKind.i64.wrap ((kp : Int) + 1 - 1) = (kp : Int) := by rw [IntKind.wrap_i64]; omega
          have w2 : IntKind.i64.wrap (kp : Int) = (kp : Int) := by rw [IntKind.wrap_i64]; omega
          obtain ⟨ex, hex⟩ : ∃ x, dk[kp + 1]! = x := ⟨_, rfl⟩
          obtain ⟨ey, hey⟩ : ∃ x, dk[kp]! = x := ⟨_, rfl⟩
          have hx1 : kp + 1 < dk.size := by omega
          have hy1 : kp < dk.size := by omega
          have XJ := Lib.hid hex
          have XP := Lib.hid hey
          clear hex hey
          obtain ⟨x0, x1, x2, x3⟩ := HS.out.row.c4 hx1 XJ.out
          obtain ⟨y0, y1, y2, y3⟩ := HS.out.row.c4 hy1 XP.out
          have v0 := HS.out.drew.row.wr hx1
          have v1 := HS.out.drew.row.wr hy1
          go_wp2
          go_region
          all_goals
            go_wp2
            go_roundw
            case rel => exact ⟨kp, Sort.swp dk (kp + 1) kp, by go_num, by omega, by omega, by rw [Sort.size_swp]; exact hsk, HS.out.drew.swp hx1 hy1 XJ.out XP.out, Sort.permIn_trans _ _ _ _ _ HP.out (Sort.swp_permIn _ _ _ _ _ (by omega) (by omega) (by omega) (by omega) (by omega)), Lib.hid (rot_last HX.out hsk (by omega) (by omega))⟩
            case measure => simp [intOf] <;> omega
        · have hlkz : ¬ (i : Int) < (k : Int) := by omega
          obtain rfl : i = k := by omega
          go_wp2
          all_goals
            first
            | go_end0
            | refine bodyPost_ret (results_none rfl _ _ _) rfl ?_
          all_goals exact ⟨rfl, dk, HS.out, sym_B swo_ltE hb H1.out hai hkm HL.out HH.out HP.out HX.out⟩
end Go.Proofs.Ytppejoccljfblaa

/-
  slices.symMergeCmpFunc at terms, whole: two sorted stretches, side by side, become one. No condition but how they lie.
-/
namespace Go.Proofs.Ytppejoccljfblaa
open Go.RowKit
attribute [local go_sem ↓] wp_store_O
attribute [local go_sem] stO_eq stB_eq stC_eq stF_eq wrO_set

theorem sorted_off {d d' : Array El} {a b x y : Nat} (h : Sort.PermIn a b d d') (hs : Sort.SortedIn ltE x y d) (ho : b ≤ x ∨ y ≤ a) : Sort.SortedIn ltE x y d' := fun i j hi hij hj => by
  rw [h.2.1 i (by omega), h.2.1 j (by omega)]; exact hs i j hi hij hj

/-- What a merge of [a, m) and [m, b) does. -/
def MergeAt (w0 : World) (q o cap N : Nat) : Prop := ∀ (a m b : Nat) (d : Array El) (w : World) (ai mi bi : Int), ai = (a : Int) → mi = (m : Int) → bi = (b : Int) → SS w0 q o d w → a < m → m < b → b ≤ d.size → d.size ≤ 100000 → b - a ≤ N → Sort.SortedIn ltE a m d → Sort.SortedIn ltE m b d →
    Calls Try.prog 184 #[.slice (some ⟨q, o, none⟩) d.size cap, .int .i64 ai, .int .i64 mi, .int .i64 bi, .func (.func 112) #[] #[]] w fun e w' => e = .returned (.tuple #[]) ∧ ∃ d', SS w0 q o d' w' ∧ Sort.PermIn a b d d' ∧ Sort.SortedIn ltE a b d'

set_option maxRecDepth 100000 in
set_option maxHeartbeats 20000000 in
theorem symMerge_C {w0 : World} {q o cap N : Nat} (ih : MergeAt w0 q o cap N) (a m b : Nat) (d : Array El) (w : World) (h : SS w0 q o d w) (ham : a < m) (hmb : m < b) (hna : m ≠ a + 1) (hnb : b ≠ m + 1) (hb : b ≤ d.size) (hsz : d.size ≤ 100000) (hN : b - a ≤ N + 1) (h1 : Sort.SortedIn ltE a m d) (h2 : Sort.SortedIn ltE m b d) :
    Calls Try.prog 184 #[.slice (some ⟨q, o, none⟩) d.size cap, .int .i64 a, .int .i64 m, .int .i64 b, .func (.func 112) #[] #[]] w fun e w' => e = .returned (.tuple #[]) ∧ ∃ d', SS w0 q o d' w' ∧ Sort.PermIn a b d d' ∧ Sort.SortedIn ltE a b d' := by
  have H := Lib.hid h
  have H1 := Lib.hid h1
  have H2 := Lib.hid h2
  have IH := Lib.hid ih
  clear h h1 h2 ih
  have e1 : ((m : Int) - (a : Int) == 1) = false := by rw [beq_eq_false_iff_ne]; omega
  have e2 : IntKind.i64.wrap ((m : Int) - (a : Int)) = (m : Int) - (a : Int) := by rw [IntKind.wrap_i64]; omega
  have e3 : ((b : Int) - (m : Int) == 1) = false := by rw [beq_eq_false_iff_ne]; omega
  have e4 : IntKind.i64.wrap ((b : Int) - (m : Int)) = (b : Int) - (m : Int) := by rw [IntKind.wrap_i64]; omega
  obtain ⟨mid, hmid, hmidn⟩ : ∃ mid : Nat, ((a : Int) + (b : Int)) / 2 = (mid : Int) ∧ mid = (a + b) / 2 := ⟨(a + b) / 2, by omega, rfl⟩
  have ham2 : a < mid := by omega
  have hmb2 : mid < b := by omega
  have HMID := Lib.hid hmidn
  clear hmidn
  go_enter Try.func184, Try.ntmps184
  by_cases hway : mid < m
  · have hmm : (mid : Int) < (m : Int) := by omega
    obtain ⟨s0, hs0, hs0n⟩ : ∃ s0 : Nat, (mid : Int) + (m : Int) - (b : Int) = (s0 : Int) ∧ s0 = mid + m - b := ⟨mid + m - b, by have := HMID.out; omega, rfl⟩
    have HW : Hid ((mid < m ∧ s0 = mid + m - b ∧ mid = mid) ∨ (m ≤ mid ∧ s0 = a ∧ mid = m)) := Lib.hid (.inl ⟨by omega, hs0n, rfl⟩)
    have hsa : a ≤ s0 ∧ s0 < mid ∧ mid + m = s0 + b := by have := HMID.out; omega
    clear hs0n
    go_wp2
    go_loopw [20, 21] (fun vs vr wr => ∃ (st r : Nat), vs = .int .i64 st ∧ vr = .int .i64 r ∧ s0 ≤ st ∧ st ≤ r ∧ r ≤ mid ∧ Hid (SS w0 q o d wr) ∧ Hid (st = s0 ∨ ltE d[mid + m - 1 - (st - 1)]! d[st - 1]! = false) ∧ Hid (r = mid ∨ ltE d[mid + m - 1 - r]! d[r]! = true)) (fun vs vr _ => (intOf vr - intOf vs).toNat)
    case atStart => exact ⟨s0, mid, by go_num, rfl, Nat.le_refl _, by omega, Nat.le_refl _, H.out, .inl rfl, .inl rfl⟩
    case round =>
      obtain ⟨st, r, rfl, rfl, hs0s, hsr, hrr, HS, HL, HH⟩ := hrel
      by_cases hlt : st < r
      · have hltz : (st : Int) < (r : Int) := by omega
        obtain ⟨c, hc, hcn⟩ : ∃ c : Nat, ((st : Int) + (r : Int)) / 2 = (c : Int) ∧ c = (st + r) / 2 := ⟨(st + r) / 2, by omega, rfl⟩
        have hsc : st ≤ c := by omega
        have hcr : c < r := by omega
        clear hcn
        obtain ⟨g, hg, hgn⟩ : ∃ g : Nat, (mid : Int) + (m : Int) - 1 - (c : Int) = (g : Int) ∧ g = mid + m - 1 - c := ⟨mid + m - 1 - c, by omega, rfl⟩
        have hgz : (g : Int) < (d.size : Int) := by omega
        have hcz : (c : Int) < (d.size : Int) := by omega
        have hwg : IntKind.i64.wrap ((mid : Int) + (m : Int) - 1 - (c : Int)) = (g : Int) := by rw [IntKind.wrap_i64]; omega
        have hwg2 : IntKind.i64.wrap (g : Int) = (g : Int) := by rw [IntKind.wrap_i64]; omega
        obtain ⟨ex, hex⟩ : ∃ x, d[g]! = x := ⟨_, rfl⟩
        obtain ⟨ey, hey⟩ : ∃ x, d[c]! = x := ⟨_, rfl⟩
        have hx1 : g < d.size := by omega
        have hy1 : c < d.size := by omega
        have XJ := Lib.hid hex
        have XP := Lib.hid hey
        clear hex hey
        obtain ⟨x0, x1, x2, x3⟩ := HS.out.row.c4 hx1 XJ.out
        obtain ⟨y0, y1, y2, y3⟩ := HS.out.row.c4 hy1 XP.out
        have MX := Lib.hid (HS.out.drew.mem hx1 XJ.out)
        have MY := Lib.hid (HS.out.drew.mem hy1 XP.out)
        by_cases hq : cmpT ex.t ey.t < 0
        · have HF : Hid (ltE d[mid + m - 1 - c]! d[c]! = true) := Lib.hid (by rw [← hgn, XJ.out, XP.out]; exact decide_eq_true hq)
          have hd : decide (cmpT ex.t ey.t < 0) = true := decide_eq_true hq
          clear hq hgn
          go_wp2
          go_still_tail 11, (by kernel_rfl)
          change wpList _ _ _ _ _ wr.drew
          go_wp2_with (first | (go_at_call 112 ; refine (cmpE ex ey _ MX.out MY.out).mono ?_; rintro e w2 ⟨rfl, hb⟩; have HB2 := Lib.hid hb; clear hb))
          go_roundw
          case rel => exact ⟨st, c, rfl, rfl, hs0s, hsc, by omega, HS.out.drew.keep HB2.out, HL.out, Lib.hid (.inr HF.out)⟩
          case measure => simp [intOf] <;> omega
        · have HF : Hid (ltE d[mid + m - 1 - c]! d[c]! = false) := Lib.hid (by rw [← hgn, XJ.out, XP.out]; exact decide_eq_false hq)
          have hd : decide (cmpT ex.t ey.t < 0) = false := decide_eq_false hq
          clear hq hgn
          go_wp2
          go_still_tail 11, (by kernel_rfl)
          change wpList _ _ _ _ _ wr.drew
          go_wp2_with (first | (go_at_call 112 ; refine (cmpE ex ey _ MX.out MY.out).mono ?_; rintro e w2 ⟨rfl, hb⟩; have HB2 := Lib.hid hb; clear hb))
          go_roundw
          case rel => exact ⟨c + 1, r, by go_num, rfl, by omega, by omega, hrr, HS.out.drew.keep HB2.out, Lib.hid (.inr HF.out), HH.out⟩
          case measure => simp [intOf] <;> omega
      · obtain rfl : st = r := by omega
        have hltz : ¬ (st : Int) < (st : Int) := by omega
        obtain ⟨en, hen, henn⟩ : ∃ en : Nat, (mid : Int) + (m : Int) - (st : Int) = (en : Int) ∧ st + en = mid + m := ⟨mid + m - st, by omega, by omega⟩
        have hen2 : mid + m - st = en := by omega
        have hwe : IntKind.i64.wrap ((mid : Int) + (m : Int) - (st : Int)) = (en : Int) := by rw [IntKind.wrap_i64]; omega
        have hwe2 : IntKind.i64.wrap (en : Int) = (en : Int) := by rw [IntKind.wrap_i64]; omega
        obtain ⟨hx, hy⟩ := sym_C swo_ltE H1.out H2.out (by have := HW.out; omega) ham hmb HMID.out hs0s hrr HL.out HH.out
        rw [hen2] at hx hy
        have HX := Lib.hid hx
        have HY := Lib.hid hy
        have hsm : st ≤ m := by have := HW.out; omega
        have hsd : st ≤ mid := by have := HW.out; omega
        have hme : m ≤ en := by omega
        have heb : en ≤ b := by have := HW.out; omega
        have hde : mid ≤ en := by omega
        clear hx hy HL HH hen2 hmid hs0
        by_cases hA : st < mid
        · skip
          by_cases hB : a < st
          · skip
            by_cases hC : en < b
            · skip
              have zt0 : decide ((st : Int) < (m : Int)) = true := decide_eq_true (by omega)
              have zt1 : decide ((m : Int) < (en : Int)) = true := decide_eq_true (by omega)
              have zt2 : decide ((a : Int) < (st : Int)) = true := decide_eq_true (by omega)
              have zt3 : decide ((st : Int) < (mid : Int)) = true := decide_eq_true (by omega)
              have zt4 : decide ((mid : Int) < (en : Int)) = true := decide_eq_true (by omega)
              have zt5 : decide ((en : Int) < (b : Int)) = true := decide_eq_true (by omega)
              go_wp2_with fail
              refine (rotate_any st m en cap rfl rfl rfl HS.out (by omega) (by omega) (by omega) hsz).mono ?_
              rintro e w1 ⟨rfl, d1, hs, hp, hx⟩
              have HS1 := Lib.hid hs
              have HP1 := Lib.hid (Sort.permIn_mono _ _ _ _ a b (by omega) heb hb hp)
              have HR1 := Lib.hid hx
              clear hs hp hx
              have hz1 : d1.size = d.size := HP1.out.1
              obtain ⟨q1, q2, q3, q4⟩ := sym_halves H1.out H2.out (by omega) hsm hme heb henn HR1.out
              have Q1 := Lib.hid q1
              have Q2 := Lib.hid q2
              have Q3 := Lib.hid q3
              have Q4 := Lib.hid q4
              clear q1 q2 q3 q4
              go_wp2_with fail
              rw [← hz1]
              refine (IH.out a st mid d1 _ _ _ _ rfl rfl rfl HS1.out (by omega) (by omega) (by omega) (by omega) (by omega) Q1.out Q2.out).mono ?_
              rintro e w2 ⟨rfl, d2, hs, hp, hx⟩
              have HS2 := Lib.hid hs
              have HP2 := Lib.hid hp
              have HO2 := Lib.hid hx
              clear hs hp hx
              have hz2 : d2.size = d.size := HP2.out.1.trans hz1
              have Q5 := Lib.hid (sorted_off HP2.out Q3.out (.inl (Nat.le_refl _)))
              have Q6 := Lib.hid (sorted_off HP2.out Q4.out (.inl hde))
              go_wp2_with fail
              rw [← hz2]
              refine (IH.out mid en b d2 _ _ _ _ rfl rfl rfl HS2.out (by omega) (by omega) (by omega) (by omega) (by omega) Q5.out Q6.out).mono ?_
              rintro e w3 ⟨rfl, d3, hs, hp, hx⟩
              have HS3 := Lib.hid hs
              have HP3 := Lib.hid hp
              have HO3 := Lib.hid hx
              clear hs hp hx
              try go_wp2
              go_end0
              exact ⟨rfl, d3, HS3.out, sym_join swo_ltE hb H1.out H2.out (by omega) hsm hme heb henn (by omega) (by omega) HX.out HY.out HP1.out HR1.out HP2.out HO2.out HP3.out HO3.out⟩
            · skip
              have zt0 : decide ((st : Int) < (m : Int)) = true := decide_eq_true (by omega)
              have zt1 : decide ((m : Int) < (en : Int)) = true := decide_eq_true (by omega)
              have zt2 : decide ((a : Int) < (st : Int)) = true := decide_eq_true (by omega)
              have zt3 : decide ((st : Int) < (mid : Int)) = true := decide_eq_true (by omega)
              have zt4 : decide ((mid : Int) < (en : Int)) = true := decide_eq_true (by omega)
              have zt5 : decide ((en : Int) < (b : Int)) = false := decide_eq_false (by omega)
              go_wp2_with fail
              refine (rotate_any st m en cap rfl rfl rfl HS.out (by omega) (by omega) (by omega) hsz).mono ?_
              rintro e w1 ⟨rfl, d1, hs, hp, hx⟩
              have HS1 := Lib.hid hs
              have HP1 := Lib.hid (Sort.permIn_mono _ _ _ _ a b (by omega) heb hb hp)
              have HR1 := Lib.hid hx
              clear hs hp hx
              have hz1 : d1.size = d.size := HP1.out.1
              obtain ⟨q1, q2, q3, q4⟩ := sym_halves H1.out H2.out (by omega) hsm hme heb henn HR1.out
              have Q1 := Lib.hid q1
              have Q2 := Lib.hid q2
              have Q3 := Lib.hid q3
              have Q4 := Lib.hid q4
              clear q1 q2 q3 q4
              go_wp2_with fail
              rw [← hz1]
              refine (IH.out a st mid d1 _ _ _ _ rfl rfl rfl HS1.out (by omega) (by omega) (by omega) (by omega) (by omega) Q1.out Q2.out).mono ?_
              rintro e w2 ⟨rfl, d2, hs, hp, hx⟩
              have HS2 := Lib.hid hs
              have HP2 := Lib.hid hp
              have HO2 := Lib.hid hx
              clear hs hp hx
              have hz2 : d2.size = d.size := HP2.out.1.trans hz1
              have Q5 := Lib.hid (sorted_off HP2.out Q3.out (.inl (Nat.le_refl _)))
              have Q6 := Lib.hid (sorted_off HP2.out Q4.out (.inl hde))
              obtain ⟨d3, hd3⟩ : ∃ d3, d3 = d2 := ⟨_, rfl⟩
              have HS3 : Hid (SS w0 q o d3 _) := Lib.hid (hd3 ▸ HS2.out)
              have HP3 : Hid (Sort.PermIn mid b d2 d3) := Lib.hid (hd3 ▸ Sort.permIn_refl _ _ _)
              have HO3 : Hid (Sort.SortedIn ltE mid b d3) := Lib.hid (by
                subst hd3
                have e : en = b := by omega
                rw [← e]
                exact Q5.out)
              clear hd3
              try go_wp2
              go_end0
              exact ⟨rfl, d3, HS3.out, sym_join swo_ltE hb H1.out H2.out (by omega) hsm hme heb henn (by omega) (by omega) HX.out HY.out HP1.out HR1.out HP2.out HO2.out HP3.out HO3.out⟩
          · skip
            by_cases hC : en < b
            · skip
              exfalso
              omega
            · skip
              have zt0 : decide ((st : Int) < (m : Int)) = true := decide_eq_true (by omega)
              have zt1 : decide ((m : Int) < (en : Int)) = true := decide_eq_true (by omega)
              have zt2 : decide ((a : Int) < (st : Int)) = false := decide_eq_false (by omega)
              have zt3 : decide ((mid : Int) < (en : Int)) = true := decide_eq_true (by omega)
              have zt4 : decide ((en : Int) < (b : Int)) = false := decide_eq_false (by omega)
              go_wp2_with fail
              refine (rotate_any st m en cap rfl rfl rfl HS.out (by omega) (by omega) (by omega) hsz).mono ?_
              rintro e w1 ⟨rfl, d1, hs, hp, hx⟩
              have HS1 := Lib.hid hs
              have HP1 := Lib.hid (Sort.permIn_mono _ _ _ _ a b (by omega) heb hb hp)
              have HR1 := Lib.hid hx
              clear hs hp hx
              have hz1 : d1.size = d.size := HP1.out.1
              obtain ⟨q1, q2, q3, q4⟩ := sym_halves H1.out H2.out (by omega) hsm hme heb henn HR1.out
              have Q1 := Lib.hid q1
              have Q2 := Lib.hid q2
              have Q3 := Lib.hid q3
              have Q4 := Lib.hid q4
              clear q1 q2 q3 q4
              obtain ⟨d2, hd2⟩ : ∃ d2, d2 = d1 := ⟨_, rfl⟩
              have HS2 : Hid (SS w0 q o d2 _) := Lib.hid (hd2 ▸ HS1.out)
              have HP2 : Hid (Sort.PermIn a mid d1 d2) := Lib.hid (hd2 ▸ Sort.permIn_refl _ _ _)
              have HO2 : Hid (Sort.SortedIn ltE a mid d2) := Lib.hid (by
                subst hd2
                have e : a = st := by omega
                rw [e]
                exact Q2.out)
              clear hd2
              have hz2 : d2.size = d.size := HP2.out.1.trans hz1
              have Q5 := Lib.hid (sorted_off HP2.out Q3.out (.inl (Nat.le_refl _)))
              have Q6 := Lib.hid (sorted_off HP2.out Q4.out (.inl hde))
              obtain ⟨d3, hd3⟩ : ∃ d3, d3 = d2 := ⟨_, rfl⟩
              have HS3 : Hid (SS w0 q o d3 _) := Lib.hid (hd3 ▸ HS2.out)
              have HP3 : Hid (Sort.PermIn mid b d2 d3) := Lib.hid (hd3 ▸ Sort.permIn_refl _ _ _)
              have HO3 : Hid (Sort.SortedIn ltE mid b d3) := Lib.hid (by
                subst hd3
                have e : en = b := by omega
                rw [← e]
                exact Q5.out)
              clear hd3
              try go_wp2
              go_end0
              exact ⟨rfl, d3, HS3.out, sym_join swo_ltE hb H1.out H2.out (by omega) hsm hme heb henn (by omega) (by omega) HX.out HY.out HP1.out HR1.out HP2.out HO2.out HP3.out HO3.out⟩
        · skip
          have zt0 : decide ((st : Int) < (m : Int)) = true := decide_eq_true (by omega)
          have zt1 : decide ((m : Int) < (en : Int)) = false := decide_eq_false (by omega)
          have zt2 : decide ((a : Int) < (st : Int)) = true := decide_eq_true (by omega)
          have zt3 : decide ((st : Int) < (mid : Int)) = false := decide_eq_false (by omega)
          have zt4 : decide ((mid : Int) < (en : Int)) = true := decide_eq_true (by omega)
          have zt5 : decide ((en : Int) < (b : Int)) = true := decide_eq_true (by omega)
          obtain ⟨d1, hd1⟩ : ∃ d1, d1 = d := ⟨_, rfl⟩
          have HS1 : Hid (SS w0 q o d1 wr) := Lib.hid (hd1 ▸ HS.out)
          have HP1 : Hid (Sort.PermIn a b d d1) := Lib.hid (hd1 ▸ Sort.permIn_refl _ _ _)
          have HR1 : Hid (∀ k, d1[k]! = rot (fun k => d[k]!) st m en k) := Lib.hid (fun k => by
            subst hd1
            have e : m = en := by omega
            subst e
            exact (rot_end _ hsm k).symm)
          clear hd1
          have hz1 : d1.size = d.size := HP1.out.1
          obtain ⟨q1, q2, q3, q4⟩ := sym_halves H1.out H2.out (by omega) hsm hme heb henn HR1.out
          have Q1 := Lib.hid q1
          have Q2 := Lib.hid q2
          have Q3 := Lib.hid q3
          have Q4 := Lib.hid q4
          clear q1 q2 q3 q4
          obtain ⟨d2, hd2⟩ : ∃ d2, d2 = d1 := ⟨_, rfl⟩
          have HS2 : Hid (SS w0 q o d2 _) := Lib.hid (hd2 ▸ HS1.out)
          have HP2 : Hid (Sort.PermIn a mid d1 d2) := Lib.hid (hd2 ▸ Sort.permIn_refl _ _ _)
          have HO2 : Hid (Sort.SortedIn ltE a mid d2) := Lib.hid (by
            subst hd2
            have e : st = mid := by omega
            rw [← e]
            exact Q1.out)
          clear hd2
          have hz2 : d2.size = d.size := HP2.out.1.trans hz1
          have Q5 := Lib.hid (sorted_off HP2.out Q3.out (.inl (Nat.le_refl _)))
          have Q6 := Lib.hid (sorted_off HP2.out Q4.out (.inl hde))
          go_wp2_with fail
          rw [← hz2]
          refine (IH.out mid en b d2 _ _ _ _ rfl rfl rfl HS2.out (by omega) (by omega) (by omega) (by omega) (by omega) Q5.out Q6.out).mono ?_
          rintro e w3 ⟨rfl, d3, hs, hp, hx⟩
          have HS3 := Lib.hid hs
          have HP3 := Lib.hid hp
          have HO3 := Lib.hid hx
          clear hs hp hx
          try go_wp2
          go_end0
          exact ⟨rfl, d3, HS3.out, sym_join swo_ltE hb H1.out H2.out (by omega) hsm hme heb henn (by omega) (by omega) HX.out HY.out HP1.out HR1.out HP2.out HO2.out HP3.out HO3.out⟩
  · have hmm : ¬ (mid : Int) < (m : Int) := by omega
    obtain ⟨s0, hs0, hs0n⟩ : ∃ s0 : Nat, s0 = a ∧ s0 = a := ⟨a, rfl, rfl⟩
    have HW : Hid ((mid < m ∧ s0 = mid + m - b ∧ m = mid) ∨ (m ≤ mid ∧ s0 = a ∧ m = m)) := Lib.hid (.inr ⟨by omega, hs0n, rfl⟩)
    have hsa : a ≤ s0 ∧ s0 < m ∧ mid + m ≤ s0 + b := by have := HMID.out; omega
    clear hs0n
    go_wp2
    go_loopw [20, 21] (fun vs vr wr => ∃ (st r : Nat), vs = .int .i64 st ∧ vr = .int .i64 r ∧ s0 ≤ st ∧ st ≤ r ∧ r ≤ m ∧ Hid (SS w0 q o d wr) ∧ Hid (st = s0 ∨ ltE d[mid + m - 1 - (st - 1)]! d[st - 1]! = false) ∧ Hid (r = m ∨ ltE d[mid + m - 1 - r]! d[r]! = true)) (fun vs vr _ => (intOf vr - intOf vs).toNat)
    case atStart => exact ⟨s0, m, by rw [hs0], rfl, Nat.le_refl _, by omega, Nat.le_refl _, H.out, .inl rfl, .inl rfl⟩
    case round =>
      obtain ⟨st, r, rfl, rfl, hs0s, hsr, hrr, HS, HL, HH⟩ := hrel
      by_cases hlt : st < r
      · have hltz : (st : Int) < (r : Int) := by omega
        obtain ⟨c, hc, hcn⟩ : ∃ c : Nat, ((st : Int) + (r : Int)) / 2 = (c : Int) ∧ c = (st + r) / 2 := ⟨(st + r) / 2, by omega, rfl⟩
        have hsc : st ≤ c := by omega
        have hcr : c < r := by omega
        clear hcn
        obtain ⟨g, hg, hgn⟩ : ∃ g : Nat, (mid : Int) + (m : Int) - 1 - (c : Int) = (g : Int) ∧ g = mid + m - 1 - c := ⟨mid + m - 1 - c, by omega, rfl⟩
        have hgz : (g : Int) < (d.size : Int) := by omega
        have hcz : (c : Int) < (d.size : Int) := by omega
        have hwg : IntKind.i64.wrap ((mid : Int) + (m : Int) - 1 - (c : Int)) = (g : Int) := by rw [IntKind.wrap_i64]; omega
        have hwg2 : IntKind.i64.wrap (g : Int) = (g : Int) := by rw [IntKind.wrap_i64]; omega
        obtain ⟨ex, hex⟩ : ∃ x, d[g]! = x := ⟨_, rfl⟩
        obtain ⟨ey, hey⟩ : ∃ x, d[c]! = x := ⟨_, rfl⟩
        have hx1 : g < d.size := by omega
        have hy1 : c < d.size := by omega
        have XJ := Lib.hid hex
        have XP := Lib.hid hey
        clear hex hey
        obtain ⟨x0, x1, x2, x3⟩ := HS.out.row.c4 hx1 XJ.out
        obtain ⟨y0, y1, y2, y3⟩ := HS.out.row.c4 hy1 XP.out
        have MX := Lib.hid (HS.out.drew.mem hx1 XJ.out)
        have MY := Lib.hid (HS.out.drew.mem hy1 XP.out)
        by_cases hq : cmpT ex.t ey.t < 0
        · have HF : Hid (ltE d[mid + m - 1 - c]! d[c]! = true) := Lib.hid (by rw [← hgn, XJ.out, XP.out]; exact decide_eq_true hq)
          have hd : decide (cmpT ex.t ey.t < 0) = true := decide_eq_true hq
          clear hq hgn
          go_wp2
          go_still_tail 11, (by kernel_rfl)
          change wpList _ _ _ _ _ wr.drew
          go_wp2_with (first | (go_at_call 112 ; refine (cmpE ex ey _ MX.out MY.out).mono ?_; rintro e w2 ⟨rfl, hb⟩; have HB2 := Lib.hid hb; clear hb))
          go_roundw
          case rel => exact ⟨st, c, rfl, rfl, hs0s, hsc, by omega, HS.out.drew.keep HB2.out, HL.out, Lib.hid (.inr HF.out)⟩
          case measure => simp [intOf] <;> omega
        · have HF : Hid (ltE d[mid + m - 1 - c]! d[c]! = false) := Lib.hid (by rw [← hgn, XJ.out, XP.out]; exact decide_eq_false hq)
          have hd : decide (cmpT ex.t ey.t < 0) = false := decide_eq_false hq
          clear hq hgn
          go_wp2
          go_still_tail 11, (by kernel_rfl)
          change wpList _ _ _ _ _ wr.drew
          go_wp2_with (first | (go_at_call 112 ; refine (cmpE ex ey _ MX.out MY.out).mono ?_; rintro e w2 ⟨rfl, hb⟩; have HB2 := Lib.hid hb; clear hb))
          go_roundw
          case rel => exact ⟨c + 1, r, by go_num, rfl, by omega, by omega, hrr, HS.out.drew.keep HB2.out, Lib.hid (.inr HF.out), HH.out⟩
          case measure => simp [intOf] <;> omega
      · obtain rfl : st = r := by omega
        have hltz : ¬ (st : Int) < (st : Int) := by omega
        obtain ⟨en, hen, henn⟩ : ∃ en : Nat, (mid : Int) + (m : Int) - (st : Int) = (en : Int) ∧ st + en = mid + m := ⟨mid + m - st, by omega, by omega⟩
        have hen2 : mid + m - st = en := by omega
        have hwe : IntKind.i64.wrap ((mid : Int) + (m : Int) - (st : Int)) = (en : Int) := by rw [IntKind.wrap_i64]; omega
        have hwe2 : IntKind.i64.wrap (en : Int) = (en : Int) := by rw [IntKind.wrap_i64]; omega
        obtain ⟨hx, hy⟩ := sym_C swo_ltE H1.out H2.out (by have := HW.out; omega) ham hmb HMID.out hs0s hrr HL.out HH.out
        rw [hen2] at hx hy
        have HX := Lib.hid hx
        have HY := Lib.hid hy
        have hsm : st ≤ m := by have := HW.out; omega
        have hsd : st ≤ mid := by have := HW.out; omega
        have hme : m ≤ en := by omega
        have heb : en ≤ b := by have := HW.out; omega
        have hde : mid ≤ en := by omega
        clear hx hy HL HH hen2 hmid hs0
        by_cases hA : st < m
        · skip
          by_cases hB : a < st
          · skip
            by_cases hC : en < b
            · skip
              have zt0 : decide ((st : Int) < (m : Int)) = true := decide_eq_true (by omega)
              have zt1 : decide ((m : Int) < (en : Int)) = true := decide_eq_true (by omega)
              have zt2 : decide ((a : Int) < (st : Int)) = true := decide_eq_true (by omega)
              have zt3 : decide ((st : Int) < (mid : Int)) = true := decide_eq_true (by omega)
              have zt4 : decide ((mid : Int) < (en : Int)) = true := decide_eq_true (by omega)
              have zt5 : decide ((en : Int) < (b : Int)) = true := decide_eq_true (by omega)
              go_wp2_with fail
              refine (rotate_any st m en cap rfl rfl rfl HS.out (by omega) (by omega) (by omega) hsz).mono ?_
              rintro e w1 ⟨rfl, d1, hs, hp, hx⟩
              have HS1 := Lib.hid hs
              have HP1 := Lib.hid (Sort.permIn_mono _ _ _ _ a b (by omega) heb hb hp)
              have HR1 := Lib.hid hx
              clear hs hp hx
              have hz1 : d1.size = d.size := HP1.out.1
              obtain ⟨q1, q2, q3, q4⟩ := sym_halves H1.out H2.out (by omega) hsm hme heb henn HR1.out
              have Q1 := Lib.hid q1
              have Q2 := Lib.hid q2
              have Q3 := Lib.hid q3
              have Q4 := Lib.hid q4
              clear q1 q2 q3 q4
              go_wp2_with fail
              rw [← hz1]
              refine (IH.out a st mid d1 _ _ _ _ rfl rfl rfl HS1.out (by omega) (by omega) (by omega) (by omega) (by omega) Q1.out Q2.out).mono ?_
              rintro e w2 ⟨rfl, d2, hs, hp, hx⟩
              have HS2 := Lib.hid hs
              have HP2 := Lib.hid hp
              have HO2 := Lib.hid hx
              clear hs hp hx
              have hz2 : d2.size = d.size := HP2.out.1.trans hz1
              have Q5 := Lib.hid (sorted_off HP2.out Q3.out (.inl (Nat.le_refl _)))
              have Q6 := Lib.hid (sorted_off HP2.out Q4.out (.inl hde))
              go_wp2_with fail
              rw [← hz2]
              refine (IH.out mid en b d2 _ _ _ _ rfl rfl rfl HS2.out (by omega) (by omega) (by omega) (by omega) (by omega) Q5.out Q6.out).mono ?_
              rintro e w3 ⟨rfl, d3, hs, hp, hx⟩
              have HS3 := Lib.hid hs
              have HP3 := Lib.hid hp
              have HO3 := Lib.hid hx
              clear hs hp hx
              try go_wp2
              go_end0
              exact ⟨rfl, d3, HS3.out, sym_join swo_ltE hb H1.out H2.out (by omega) hsm hme heb henn (by omega) (by omega) HX.out HY.out HP1.out HR1.out HP2.out HO2.out HP3.out HO3.out⟩
            · skip
              have zt0 : decide ((st : Int) < (m : Int)) = true := decide_eq_true (by omega)
              have zt1 : decide ((m : Int) < (en : Int)) = true := decide_eq_true (by omega)
              have zt2 : decide ((a : Int) < (st : Int)) = true := decide_eq_true (by omega)
              have zt3 : decide ((st : Int) < (mid : Int)) = true := decide_eq_true (by omega)
              have zt4 : decide ((mid : Int) < (en : Int)) = true := decide_eq_true (by omega)
              have zt5 : decide ((en : Int) < (b : Int)) = false := decide_eq_false (by omega)
              go_wp2_with fail
              refine (rotate_any st m en cap rfl rfl rfl HS.out (by omega) (by omega) (by omega) hsz).mono ?_
              rintro e w1 ⟨rfl, d1, hs, hp, hx⟩
              have HS1 := Lib.hid hs
              have HP1 := Lib.hid (Sort.permIn_mono _ _ _ _ a b (by omega) heb hb hp)
              have HR1 := Lib.hid hx
              clear hs hp hx
              have hz1 : d1.size = d.size := HP1.out.1
              obtain ⟨q1, q2, q3, q4⟩ := sym_halves H1.out H2.out (by omega) hsm hme heb henn HR1.out
              have Q1 := Lib.hid q1
              have Q2 := Lib.hid q2
              have Q3 := Lib.hid q3
              have Q4 := Lib.hid q4
              clear q1 q2 q3 q4
              go_wp2_with fail
              rw [← hz1]
              refine (IH.out a st mid d1 _ _ _ _ rfl rfl rfl HS1.out (by omega) (by omega) (by omega) (by omega) (by omega) Q1.out Q2.out).mono ?_
              rintro e w2 ⟨rfl, d2, hs, hp, hx⟩
              have HS2 := Lib.hid hs
              have HP2 := Lib.hid hp
              have HO2 := Lib.hid hx
              clear hs hp hx
              have hz2 : d2.size = d.size := HP2.out.1.trans hz1
              have Q5 := Lib.hid (sorted_off HP2.out Q3.out (.inl (Nat.le_refl _)))
              have Q6 := Lib.hid (sorted_off HP2.out Q4.out (.inl hde))
              obtain ⟨d3, hd3⟩ : ∃ d3, d3 = d2 := ⟨_, rfl⟩
              have HS3 : Hid (SS w0 q o d3 _) := Lib.hid (hd3 ▸ HS2.out)
              have HP3 : Hid (Sort.PermIn mid b d2 d3) := Lib.hid (hd3 ▸ Sort.permIn_refl _ _ _)
              have HO3 : Hid (Sort.SortedIn ltE mid b d3) := Lib.hid (by
                subst hd3
                have e : en = b := by omega
                rw [← e]
                exact Q5.out)
              clear hd3
              try go_wp2
              go_end0
              exact ⟨rfl, d3, HS3.out, sym_join swo_ltE hb H1.out H2.out (by omega) hsm hme heb henn (by omega) (by omega) HX.out HY.out HP1.out HR1.out HP2.out HO2.out HP3.out HO3.out⟩
          · skip
            by_cases hC : en < b
            · skip
              have zt0 : decide ((st : Int) < (m : Int)) = true := decide_eq_true (by omega)
              have zt1 : decide ((m : Int) < (en : Int)) = true := decide_eq_true (by omega)
              have zt2 : decide ((a : Int) < (st : Int)) = false := decide_eq_false (by omega)
              have zt3 : decide ((mid : Int) < (en : Int)) = true := decide_eq_true (by omega)
              have zt4 : decide ((en : Int) < (b : Int)) = true := decide_eq_true (by omega)
              go_wp2_with fail
              refine (rotate_any st m en cap rfl rfl rfl HS.out (by omega) (by omega) (by omega) hsz).mono ?_
              rintro e w1 ⟨rfl, d1, hs, hp, hx⟩
              have HS1 := Lib.hid hs
              have HP1 := Lib.hid (Sort.permIn_mono _ _ _ _ a b (by omega) heb hb hp)
              have HR1 := Lib.hid hx
              clear hs hp hx
              have hz1 : d1.size = d.size := HP1.out.1
              obtain ⟨q1, q2, q3, q4⟩ := sym_halves H1.out H2.out (by omega) hsm hme heb henn HR1.out
              have Q1 := Lib.hid q1
              have Q2 := Lib.hid q2
              have Q3 := Lib.hid q3
              have Q4 := Lib.hid q4
              clear q1 q2 q3 q4
              obtain ⟨d2, hd2⟩ : ∃ d2, d2 = d1 := ⟨_, rfl⟩
              have HS2 : Hid (SS w0 q o d2 _) := Lib.hid (hd2 ▸ HS1.out)
              have HP2 : Hid (Sort.PermIn a mid d1 d2) := Lib.hid (hd2 ▸ Sort.permIn_refl _ _ _)
              have HO2 : Hid (Sort.SortedIn ltE a mid d2) := Lib.hid (by
                subst hd2
                have e : a = st := by omega
                rw [e]
                exact Q2.out)
              clear hd2
              have hz2 : d2.size = d.size := HP2.out.1.trans hz1
              have Q5 := Lib.hid (sorted_off HP2.out Q3.out (.inl (Nat.le_refl _)))
              have Q6 := Lib.hid (sorted_off HP2.out Q4.out (.inl hde))
              go_wp2_with fail
              rw [← hz2]
              refine (IH.out mid en b d2 _ _ _ _ rfl rfl rfl HS2.out (by omega) (by omega) (by omega) (by omega) (by omega) Q5.out Q6.out).mono ?_
              rintro e w3 ⟨rfl, d3, hs, hp, hx⟩
              have HS3 := Lib.hid hs
              have HP3 := Lib.hid hp
              have HO3 := Lib.hid hx
              clear hs hp hx
              try go_wp2
              go_end0
              exact ⟨rfl, d3, HS3.out, sym_join swo_ltE hb H1.out H2.out (by omega) hsm hme heb henn (by omega) (by omega) HX.out HY.out HP1.out HR1.out HP2.out HO2.out HP3.out HO3.out⟩
            · skip
              have zt0 : decide ((st : Int) < (m : Int)) = true := decide_eq_true (by omega)
              have zt1 : decide ((m : Int) < (en : Int)) = true := decide_eq_true (by omega)
              have zt2 : decide ((a : Int) < (st : Int)) = false := decide_eq_false (by omega)
              have zt3 : decide ((mid : Int) < (en : Int)) = true := decide_eq_true (by omega)
              have zt4 : decide ((en : Int) < (b : Int)) = false := decide_eq_false (by omega)
              go_wp2_with fail
              refine (rotate_any st m en cap rfl rfl rfl HS.out (by omega) (by omega) (by omega) hsz).mono ?_
              rintro e w1 ⟨rfl, d1, hs, hp, hx⟩
              have HS1 := Lib.hid hs
              have HP1 := Lib.hid (Sort.permIn_mono _ _ _ _ a b (by omega) heb hb hp)
              have HR1 := Lib.hid hx
              clear hs hp hx
              have hz1 : d1.size = d.size := HP1.out.1
              obtain ⟨q1, q2, q3, q4⟩ := sym_halves H1.out H2.out (by omega) hsm hme heb henn HR1.out
              have Q1 := Lib.hid q1
              have Q2 := Lib.hid q2
              have Q3 := Lib.hid q3
              have Q4 := Lib.hid q4
              clear q1 q2 q3 q4
              obtain ⟨d2, hd2⟩ : ∃ d2, d2 = d1 := ⟨_, rfl⟩
              have HS2 : Hid (SS w0 q o d2 _) := Lib.hid (hd2 ▸ HS1.out)
              have HP2 : Hid (Sort.PermIn a mid d1 d2) := Lib.hid (hd2 ▸ Sort.permIn_refl _ _ _)
              have HO2 : Hid (Sort.SortedIn ltE a mid d2) := Lib.hid (by
                subst hd2
                have e : a = st := by omega
                rw [e]
                exact Q2.out)
              clear hd2
              have hz2 : d2.size = d.size := HP2.out.1.trans hz1
              have Q5 := Lib.hid (sorted_off HP2.out Q3.out (.inl (Nat.le_refl _)))
              have Q6 := Lib.hid (sorted_off HP2.out Q4.out (.inl hde))
              obtain ⟨d3, hd3⟩ : ∃ d3, d3 = d2 := ⟨_, rfl⟩
              have HS3 : Hid (SS w0 q o d3 _) := Lib.hid (hd3 ▸ HS2.out)
              have HP3 : Hid (Sort.PermIn mid b d2 d3) := Lib.hid (hd3 ▸ Sort.permIn_refl _ _ _)
              have HO3 : Hid (Sort.SortedIn ltE mid b d3) := Lib.hid (by
                subst hd3
                have e : en = b := by omega
                rw [← e]
                exact Q5.out)
              clear hd3
              try go_wp2
              go_end0
              exact ⟨rfl, d3, HS3.out, sym_join swo_ltE hb H1.out H2.out (by omega) hsm hme heb henn (by omega) (by omega) HX.out HY.out HP1.out HR1.out HP2.out HO2.out HP3.out HO3.out⟩
        · skip
          by_cases hB : m < mid
          · skip
            have zt0 : decide ((st : Int) < (m : Int)) = false := decide_eq_false (by omega)
            have zt1 : decide ((a : Int) < (st : Int)) = true := decide_eq_true (by omega)
            have zt2 : decide ((st : Int) < (mid : Int)) = true := decide_eq_true (by omega)
            have zt3 : decide ((mid : Int) < (en : Int)) = false := decide_eq_false (by omega)
            obtain ⟨d1, hd1⟩ : ∃ d1, d1 = d := ⟨_, rfl⟩
            have HS1 : Hid (SS w0 q o d1 wr) := Lib.hid (hd1 ▸ HS.out)
            have HP1 : Hid (Sort.PermIn a b d d1) := Lib.hid (hd1 ▸ Sort.permIn_refl _ _ _)
            have HR1 : Hid (∀ k, d1[k]! = rot (fun k => d[k]!) st m en k) := Lib.hid (fun k => by
              subst hd1
              have e : st = m := by omega
              subst e
              exact (rot_start _ hme k).symm)
            clear hd1
            have hz1 : d1.size = d.size := HP1.out.1
            obtain ⟨q1, q2, q3, q4⟩ := sym_halves H1.out H2.out (by omega) hsm hme heb henn HR1.out
            have Q1 := Lib.hid q1
            have Q2 := Lib.hid q2
            have Q3 := Lib.hid q3
            have Q4 := Lib.hid q4
            clear q1 q2 q3 q4
            go_wp2_with fail
            rw [← hz1]
            refine (IH.out a st mid d1 _ _ _ _ rfl rfl rfl HS1.out (by omega) (by omega) (by omega) (by omega) (by omega) Q1.out Q2.out).mono ?_
            rintro e w2 ⟨rfl, d2, hs, hp, hx⟩
            have HS2 := Lib.hid hs
            have HP2 := Lib.hid hp
            have HO2 := Lib.hid hx
            clear hs hp hx
            have hz2 : d2.size = d.size := HP2.out.1.trans hz1
            have Q5 := Lib.hid (sorted_off HP2.out Q3.out (.inl (Nat.le_refl _)))
            have Q6 := Lib.hid (sorted_off HP2.out Q4.out (.inl hde))
            obtain ⟨d3, hd3⟩ : ∃ d3, d3 = d2 := ⟨_, rfl⟩
            have HS3 : Hid (SS w0 q o d3 _) := Lib.hid (hd3 ▸ HS2.out)
            have HP3 : Hid (Sort.PermIn mid b d2 d3) := Lib.hid (hd3 ▸ Sort.permIn_refl _ _ _)
            have HO3 : Hid (Sort.SortedIn ltE mid b d3) := Lib.hid (by
              subst hd3
              have e : mid = en := by omega
              rw [e]
              exact Q6.out)
            clear hd3
            try go_wp2
            go_end0
            exact ⟨rfl, d3, HS3.out, sym_join swo_ltE hb H1.out H2.out (by omega) hsm hme heb henn (by omega) (by omega) HX.out HY.out HP1.out HR1.out HP2.out HO2.out HP3.out HO3.out⟩
          · skip
            have zt0 : decide ((st : Int) < (m : Int)) = false := decide_eq_false (by omega)
            have zt1 : decide ((a : Int) < (st : Int)) = true := decide_eq_true (by omega)
            have zt2 : decide ((st : Int) < (mid : Int)) = false := decide_eq_false (by omega)
            have zt3 : decide ((mid : Int) < (en : Int)) = false := decide_eq_false (by omega)
            obtain ⟨d1, hd1⟩ : ∃ d1, d1 = d := ⟨_, rfl⟩
            have HS1 : Hid (SS w0 q o d1 wr) := Lib.hid (hd1 ▸ HS.out)
            have HP1 : Hid (Sort.PermIn a b d d1) := Lib.hid (hd1 ▸ Sort.permIn_refl _ _ _)
            have HR1 : Hid (∀ k, d1[k]! = rot (fun k => d[k]!) st m en k) := Lib.hid (fun k => by
              subst hd1
              have e : st = m := by omega
              subst e
              exact (rot_start _ hme k).symm)
            clear hd1
            have hz1 : d1.size = d.size := HP1.out.1
            obtain ⟨q1, q2, q3, q4⟩ := sym_halves H1.out H2.out (by omega) hsm hme heb henn HR1.out
            have Q1 := Lib.hid q1
            have Q2 := Lib.hid q2
            have Q3 := Lib.hid q3
            have Q4 := Lib.hid q4
            clear q1 q2 q3 q4
            obtain ⟨d2, hd2⟩ : ∃ d2, d2 = d1 := ⟨_, rfl⟩
            have HS2 : Hid (SS w0 q o d2 _) := Lib.hid (hd2 ▸ HS1.out)
            have HP2 : Hid (Sort.PermIn a mid d1 d2) := Lib.hid (hd2 ▸ Sort.permIn_refl _ _ _)
            have HO2 : Hid (Sort.SortedIn ltE a mid d2) := Lib.hid (by
              subst hd2
              have e : st = mid := by omega
              rw [← e]
              exact Q1.out)
            clear hd2
            have hz2 : d2.size = d.size := HP2.out.1.trans hz1
            have Q5 := Lib.hid (sorted_off HP2.out Q3.out (.inl (Nat.le_refl _)))
            have Q6 := Lib.hid (sorted_off HP2.out Q4.out (.inl hde))
            obtain ⟨d3, hd3⟩ : ∃ d3, d3 = d2 := ⟨_, rfl⟩
            have HS3 : Hid (SS w0 q o d3 _) := Lib.hid (hd3 ▸ HS2.out)
            have HP3 : Hid (Sort.PermIn mid b d2 d3) := Lib.hid (hd3 ▸ Sort.permIn_refl _ _ _)
            have HO3 : Hid (Sort.SortedIn ltE mid b d3) := Lib.hid (by
              subst hd3
              have e : mid = en := by omega
              rw [e]
              exact Q6.out)
            clear hd3
            try go_wp2
            go_end0
            exact ⟨rfl, d3, HS3.out, sym_join swo_ltE hb H1.out H2.out (by omega) hsm hme heb henn (by omega) (by omega) HX.out HY.out HP1.out HR1.out HP2.out HO2.out HP3.out HO3.out⟩
theorem symMerge_any {w0 : World} {q o cap : Nat} : ∀ N, MergeAt w0 q o cap N := by
  intro N
  induction N with
  | zero => intro a m b d w ai mi bi _ _ _ _ h1 h2 _ _ h3; omega
  | succ N ih =>
    intro a m b d w ai mi bi hai hmi hbi h ham hmb hb hsz hN h1 h2
    by_cases ha : m = a + 1
    · subst ha
      exact symMerge_A a b cap hai (by omega) hbi h hmb hb hsz h2
    · by_cases hb1 : b = m + 1
      · subst hb1
        exact symMerge_B a m cap hai hmi (by omega) h ham ha hb hsz h1
      · subst hai; subst hmi; subst hbi
        exact symMerge_C ih a m b d w h ham hmb ha hb1 hb hsz hN h1 h2
end Go.Proofs.Ytppejoccljfblaa

/-
  slices.stableCmpFunc and slices.SortStableFunc at terms, up to 39 of them. No condition but that, and how they lie.
-/
namespace Go.Proofs.Ytppejoccljfblaa
open Go.RowKit

/-- What is sorted. -/
structure Done (w0 : World) (q o : Nat) (d d' : Array El) (w : World) : Prop where
  ss : SS w0 q o d' w
  perm : Sort.PermIn 0 d.size d d'
  sorted : Sort.SortedIn ltE 0 d.size d'
theorem insert_two {d : Array El} (n : Nat) (h20 : 20 ≤ n) (hn : n ≤ d.size) :
    Sort.PermIn 0 d.size d (Sort.insertionSort ltE (Sort.insertionSort ltE d 0 20) 20 n) ∧ Sort.SortedIn ltE 0 20 (Sort.insertionSort ltE (Sort.insertionSort ltE d 0 20) 20 n) ∧ Sort.SortedIn ltE 20 n (Sort.insertionSort ltE (Sort.insertionSort ltE d 0 20) 20 n) := by
  obtain ⟨p1, s1⟩ := Sort.insertionSort_holds swo_ltE d 0 20 (by omega) (by omega)
  obtain ⟨p2, s2⟩ := Sort.insertionSort_holds swo_ltE (Sort.insertionSort ltE d 0 20) 20 n h20 (by rw [p1.1]; exact hn)
  refine ⟨Sort.permIn_trans _ _ _ _ _ (Sort.permIn_mono _ _ _ _ _ _ (Nat.le_refl _) (by omega) (Nat.le_refl _) p1) (Sort.permIn_mono _ _ _ _ _ _ (Nat.zero_le _) hn (by rw [p1.1]; exact Nat.le_refl _) p2), sorted_off p2 s1 (.inr (Nat.le_refl _)), s2⟩

set_option maxRecDepth 100000 in
set_option maxHeartbeats 2000000 in
theorem stable_small {w0 w : World} {q o : Nat} {d : Array El} (cap : Nat) (h : SS w0 q o d w) (hsz : d.size < 20) :
    Calls Try.prog 161 #[.slice (some ⟨q, o, none⟩) d.size cap, .int .i64 d.size, .func (.func 112) #[] #[]] w fun e w' => e = .returned (.tuple #[]) ∧ ∃ d', Done w0 q o d d' w' := by
  have H := Lib.hid h
  clear h
  obtain ⟨n, hn⟩ : ∃ n, d.size = n := ⟨_, rfl⟩
  have HP := Lib.hid (Sort.insertionSort_holds swo_ltE d 0 d.size (Nat.zero_le _) (Nat.le_refl _))
  have z1 : ¬ (20 : Int) ≤ (d.size : Int) := by omega
  have z2 : ¬ (20 : Int) < (d.size : Int) := by omega
  clear hn
  go_enter Try.func161, Try.ntmps161
  go_wp2
  go_loopw [7, 8] (fun va vb wr => va = .int .i64 0 ∧ vb = .int .i64 20 ∧ Hid (SS w0 q o d wr)) (fun _ _ _ => 0)
  case atStart => exact ⟨rfl, rfl, H.out⟩
  case round =>
    obtain ⟨rfl, rfl, HS⟩ := hrel
    go_wp2_with (first | (go_at_call 183 ; refine (insertion_any (a := 0) (b := d.size) cap HS.out (Nat.zero_le _) (Nat.le_refl _) (by omega)).mono ?_; rintro e w2 ⟨rfl, hs⟩; have HS2 := Lib.hid hs; clear hs))
    go_loopw [6] (fun vs wr => vs = .int .i64 20 ∧ Hid (SS w0 q o (Sort.insertionSort ltE d 0 d.size) wr)) (fun _ _ => 0)
    case atStart => exact ⟨rfl, HS2.out⟩
    case round =>
      obtain ⟨rfl, HS3⟩ := hrel
      go_wp2
      go_end0
      exact ⟨rfl, _, HS3.out, HP.out.1, HP.out.2⟩
set_option maxRecDepth 100000 in
set_option maxHeartbeats 2000000 in
theorem stable_large {w0 w : World} {q o : Nat} {d : Array El} (cap : Nat) (h : SS w0 q o d w) (h20 : 20 ≤ d.size) (hsz : d.size < 40) :
    Calls Try.prog 161 #[.slice (some ⟨q, o, none⟩) d.size cap, .int .i64 d.size, .func (.func 112) #[] #[]] w fun e w' => e = .returned (.tuple #[]) ∧ ∃ d', Done w0 q o d d' w' := by
  have H := Lib.hid h
  clear h
  obtain ⟨p1, s1⟩ := Sort.insertionSort_holds swo_ltE d 0 20 (by omega) h20
  obtain ⟨d1, hd1⟩ : ∃ d1, Sort.insertionSort ltE d 0 20 = d1 := ⟨_, rfl⟩
  obtain ⟨d2, hd2⟩ : ∃ d2, Sort.insertionSort ltE d1 20 d.size = d2 := ⟨_, rfl⟩
  have HT := Lib.hid (insert_two d.size h20 (Nat.le_refl _))
  rw [hd1] at p1 HT
  rw [hd2] at HT
  have hz1 : d1.size = d.size := p1.1
  have hz2 : d2.size = d.size := HT.out.1.1
  have HD1 := Lib.hid hd1
  have HD2 := Lib.hid hd2
  clear p1 s1 hd1 hd2
  have z1 : (20 : Int) ≤ (d.size : Int) := by omega
  have z2 : ¬ (40 : Int) ≤ (d.size : Int) := by omega
  have z3 : ¬ (40 : Int) < (d.size : Int) := by omega
  go_enter Try.func161, Try.ntmps161
  go_wp2
  go_loopw [7, 8] (fun va vb wr => (va = .int .i64 0 ∧ vb = .int .i64 20 ∧ Hid (SS w0 q o d wr)) ∨ (va = .int .i64 20 ∧ vb = .int .i64 40 ∧ Hid (SS w0 q o d1 wr))) (fun va _ _ => 20 - (intOf va).toNat)
  case atStart => exact .inl ⟨rfl, rfl, H.out⟩
  case round =>
    rcases hrel with ⟨rfl, rfl, HS⟩ | ⟨rfl, rfl, HS⟩
    · go_wp2_with (first | (go_at_call 183 ; refine (insertion_any (a := 0) (b := 20) cap HS.out (Nat.zero_le _) h20 (by omega)).mono ?_; rintro e w2 ⟨rfl, hs⟩; rw [HD1.out] at hs; have HS2 := Lib.hid hs; clear hs))
      go_roundw
      case rel => exact .inr ⟨rfl, rfl, HS2.out⟩
      case measure => simp [intOf]
    · go_wp2_with (first | (go_at_call 183 ; rw [← hz1]; refine (insertion_any (a := 20) (b := d1.size) cap HS.out (by omega) (Nat.le_refl _) (by omega)).mono ?_; rintro e w2 ⟨rfl, hs⟩; rw [hz1, HD2.out] at hs; have HS2 := Lib.hid hs; clear hs))
      by_cases hn : d.size = 20
      · have z4 : ¬ (20 : Int) < (d.size : Int) := by omega
        go_loopw [6] (fun vs wr => vs = .int .i64 20 ∧ Hid (SS w0 q o d2 wr)) (fun _ _ => 0)
        case atStart => exact ⟨rfl, HS2.out⟩
        case round =>
          obtain ⟨rfl, HS3⟩ := hrel
          go_wp2
          go_end0
          exact ⟨rfl, d2, HS3.out, HT.out.1, by rw [hn]; exact HT.out.2.1⟩
      · have z4 : (20 : Int) < (d.size : Int) := by omega
        go_loopw [6] (fun vs wr => (vs = .int .i64 20 ∧ Hid (SS w0 q o d2 wr)) ∨ (vs = .int .i64 40 ∧ ∃ d3, Hid (Done w0 q o d d3 wr))) (fun vs _ => 40 - (intOf vs).toNat)
        case atStart => exact .inl ⟨rfl, HS2.out⟩
        case round =>
          rcases hrel with ⟨rfl, HS3⟩ | ⟨rfl, d3, HD⟩
          · go_wp2
            go_loopw [7, 8] (fun va vb wr => va = .int .i64 0 ∧ vb = .int .i64 40 ∧ Hid (SS w0 q o d2 wr)) (fun _ _ _ => 0)
            case atStart => exact ⟨rfl, rfl, HS3.out⟩
            case round =>
              obtain ⟨rfl, rfl, HS4⟩ := hrel
              go_wp2_with (first | (go_at_call 184 ; rw [← hz2]; refine (symMerge_any d2.size 0 20 d2.size d2 _ _ _ _ rfl rfl rfl HS4.out (by omega) (by omega) (Nat.le_refl _) (by omega) (by omega) HT.out.2.1 (by rw [hz2]; exact HT.out.2.2)).mono ?_; rintro e w5 ⟨rfl, d3, hs, hp, hx⟩; rw [hz2] at hp hx; have HS5 := Lib.hid hs; have HP5 := Lib.hid hp; have HX5 := Lib.hid hx; clear hs hp hx))
              go_roundw
              case rel => exact .inr ⟨rfl, d3, HS5.out, Sort.permIn_trans _ _ _ _ _ HT.out.1 HP5.out, HX5.out⟩
              case measure => simp [intOf]
          · go_wp2
            go_end0
            exact ⟨rfl, d3, HD.out⟩
set_option maxRecDepth 100000 in
set_option maxHeartbeats 2000000 in
theorem sortStable_any {w0 w : World} {q o : Nat} {d : Array El} (cap : Nat) (h : SS w0 q o d w) (hsz : d.size < 40) :
    Calls Try.prog 111 #[.slice (some ⟨q, o, none⟩) d.size cap, .func (.func 112) #[] #[]] w fun e w' => e = .returned (.tuple #[]) ∧ ∃ d', Done w0 q o d d' w' := by
  have H := Lib.hid (show Calls Try.prog 161 #[.slice (some ⟨q, o, none⟩) d.size cap, .int .i64 d.size, .func (.func 112) #[] #[]] w fun e w' => e = .returned (.tuple #[]) ∧ ∃ d', Done w0 q o d d' w' by
    by_cases h20 : d.size < 20
    · exact stable_small cap h h20
    · exact stable_large cap h (by omega) hsz)
  clear h
  go_enter Try.func111, Try.ntmps111
  go_wp2_with (first | (go_at_call 161 ; refine H.out.mono ?_; rintro e w2 ⟨rfl, d', hs⟩; have HS2 := Lib.hid hs; clear hs))
  go_end0
  exact ⟨rfl, d', HS2.out⟩
end Go.Proofs.Ytppejoccljfblaa
