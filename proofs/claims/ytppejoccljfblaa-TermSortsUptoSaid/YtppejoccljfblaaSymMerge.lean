/-
  slices.symMergeCmpFunc at terms: two sorted stretches become one. No condition but how they lie.
-/
import Derived.Test.YtppejoccljfblaaRotate
namespace Go.Proofs.Ytppejoccljfblaa
open Go.RowKit
attribute [local go_sem ↓] wp_store_O
attribute [local go_sem] stO_eq stB_eq stC_eq stF_eq wrO_set

theorem swo_ltE : Sort.SWO ltE where
  irrefl x := by simp [ltE, cmpT_self]
  trans x y z h1 h2 := by
    simp only [ltE, decide_eq_true_eq] at *
    have := cmpT_3 x.t y.t z.t
    unfold T3 at this; omega
  ntrans x y z h1 h2 := by
    simp only [ltE, decide_eq_false_iff_not] at *
    have := cmpT_3 z.t y.t x.t
    have e1 := cmpT_neg x.t y.t
    have e2 := cmpT_neg y.t z.t
    have e3 := cmpT_neg x.t z.t
    unfold T3 at this; omega

set_option maxRecDepth 100000 in
set_option maxHeartbeats 2000000 in
theorem symMerge_A {w0 w : World} {q o : Nat} {d : Array El} (a b cap : Nat) {ai mi bi : Int} (hai : ai = (a : Int)) (hmi : mi = (a : Int) + 1) (hbi : bi = (b : Int)) (h : SS w0 q o d w) (hmb : a + 1 < b) (hb : b ≤ d.size) (hsz : d.size ≤ 100000) (h2 : Sort.SortedIn ltE (a + 1) b d) :
    Calls Try.prog 184 #[.slice (some ⟨q, o, none⟩) d.size cap, .int .i64 ai, .int .i64 mi, .int .i64 bi, .func (.func 112) #[] #[]] w fun e w' => e = .returned (.tuple #[]) ∧ ∃ d', SS w0 q o d' w' ∧ Sort.PermIn a b d d' ∧ Sort.SortedIn ltE a b d' := by
  subst hai; subst hmi; subst hbi
  have H := Lib.hid h
  have H2 := Lib.hid h2
  clear h h2
  have e1 : (((a : Int) + 1 - (a : Int)) == 1) = true := by rw [beq_iff_eq]; omega
  have e2 : IntKind.i64.wrap ((a : Int) + 1 - (a : Int)) = 1 := by rw [IntKind.wrap_i64]; omega
  go_enter Try.func184, Try.ntmps184
  go_wp2
  go_loopw [10, 11] (fun vi vj wr => ∃ (i j : Nat), vi = .int .i64 i ∧ vj = .int .i64 j ∧ a + 1 ≤ i ∧ i ≤ j ∧ j ≤ b ∧ Hid (SS w0 q o d wr) ∧ Hid (i = a + 1 ∨ ltE d[i - 1]! d[a]! = true) ∧ Hid (j = b ∨ ltE d[j]! d[a]! = false)) (fun vi vj _ => (intOf vj - intOf vi).toNat)
  case atStart => exact ⟨a + 1, b, by go_num, rfl, Nat.le_refl _, by omega, Nat.le_refl _, H.out, .inl rfl, .inl rfl⟩
  case round =>
    obtain ⟨i, j, rfl, rfl, hmi, hij, hjb, HS, HL, HH⟩ := hrel
    by_cases hlt : i < j
    · have hltz : (i : Int) < (j : Int) := by omega
      obtain ⟨h, hh⟩ : ∃ h : Nat, ((i : Int) + (j : Int)) / 2 = (h : Int) := ⟨(i + j) / 2, by omega⟩
      have hih : i ≤ h := by omega
      have hhj : h < j := by omega
      have hz1 : (h : Int) < (d.size : Int) := by omega
      have hz2 : (a : Int) < (d.size : Int) := by omega
      obtain ⟨ex, hex⟩ : ∃ x, d[h]! = x := ⟨_, rfl⟩
      obtain ⟨ey, hey⟩ : ∃ x, d[a]! = x := ⟨_, rfl⟩
      have hx1 : h < d.size := by omega
      have hy1 : a < d.size := by omega
      have XJ := Lib.hid hex
      have XP := Lib.hid hey
      clear hex hey
      obtain ⟨x0, x1, x2, x3⟩ := HS.out.row.c4 hx1 XJ.out
      obtain ⟨y0, y1, y2, y3⟩ := HS.out.row.c4 hy1 XP.out
      have MX := Lib.hid (HS.out.drew.mem hx1 XJ.out)
      have MY := Lib.hid (HS.out.drew.mem hy1 XP.out)
      by_cases hc : cmpT ex.t ey.t < 0
      · have HF : Hid (ltE d[h]! d[a]! = true) := Lib.hid (by rw [XJ.out, XP.out]; exact decide_eq_true hc)
        go_wp2
        go_still_tail 9, (by kernel_rfl)
        change wpList _ _ _ _ _ wr.drew
        go_wp2_with (first | (go_at_call 112 ; refine (cmpE ex ey _ MX.out MY.out).mono ?_; rintro e w2 ⟨rfl, hb⟩; have HB2 := Lib.hid hb; clear hb))
        go_roundw
        case rel => exact ⟨h + 1, j, by go_num, rfl, by omega, by omega, hjb, HS.out.drew.keep HB2.out, Lib.hid (.inr HF.out), HH.out⟩
        case measure => simp [intOf] <;> omega
      · have HF : Hid (ltE d[h]! d[a]! = false) := Lib.hid (by rw [XJ.out, XP.out]; exact decide_eq_false hc)
        go_wp2
        go_still_tail 9, (by kernel_rfl)
        change wpList _ _ _ _ _ wr.drew
        go_wp2_with (first | (go_at_call 112 ; refine (cmpE ex ey _ MX.out MY.out).mono ?_; rintro e w2 ⟨rfl, hb⟩; have HB2 := Lib.hid hb; clear hb))
        go_roundw
        case rel => exact ⟨i, h, rfl, rfl, hmi, hih, by omega, HS.out.drew.keep HB2.out, HL.out, Lib.hid (.inr HF.out)⟩
        case measure => simp [intOf] <;> omega
    · obtain rfl : i = j := by omega
      have hltz : ¬ (i : Int) < (i : Int) := by omega
      go_wp2
      go_loopw [13] (fun vk wr => ∃ (k : Nat) (dk : Array El), vk = .int .i64 k ∧ a ≤ k ∧ k + 1 ≤ i ∧ dk.size = d.size ∧ Hid (SS w0 q o dk wr) ∧ Hid (Sort.PermIn a b d dk) ∧ Hid (∀ x, dk[x]! = rot (fun x => d[x]!) a (a + 1) (k + 1) x)) (fun vk _ => i - (intOf vk).toNat)
      case atStart => exact ⟨a, d, rfl, Nat.le_refl _, hmi, rfl, HS.out, Sort.permIn_refl _ _ _, Lib.hid fun x => (rot_end _ (by omega) x).symm⟩
      case round =>
        clear HS
        obtain ⟨k, dk, rfl, hak, hki, hsk, HS, HP, HX⟩ := hrel
        have ws : IntKind.i64.wrap ((i : Int) - 1) = (i : Int) - 1 := by rw [IntKind.wrap_i64]; omega
        by_cases hlk : k + 1 < i
        · have hlkz : (k : Int) < (i : Int) - 1 := by omega
          have p0 : (0 : Int) ≤ (k : Int) + 1 := by omega
          have jz : (k : Int) + 1 < (d.size : Int) := by omega
          have jz1 : (k : Int) < (d.size : Int) := by omega
          have e0 : ((k : Int) + 1).toNat = k + 1 := by omega
          have w1 : IntKind.i64.wrap ((k : Int) + 1) = (k : Int) + 1 := by rw [IntKind.wrap_i64]; omega
          obtain ⟨ex, hex⟩ : ∃ x, dk[k]! = x := ⟨_, rfl⟩
          obtain ⟨ey, hey⟩ : ∃ x, dk[k + 1]! = x := ⟨_, rfl⟩
          have hx1 : k < dk.size := by omega
          have hy1 : k + 1 < dk.size := by omega
          have XJ := Lib.hid hex
          have XP := Lib.hid hey
          clear hex hey
          obtain ⟨x0, x1, x2, x3⟩ := HS.out.row.c4 hx1 XJ.out
          obtain ⟨y0, y1, y2, y3⟩ := HS.out.row.c4 hy1 XP.out
          have v0 := HS.out.drew.row.wr hx1
          have v1 := HS.out.drew.row.wr hy1
          go_wp2
          go_region
          all_goals
            go_wp2
            go_roundw
            case rel => exact ⟨k + 1, Sort.swp dk k (k + 1), by go_num, by omega, by omega, by rw [Sort.size_swp]; exact hsk, HS.out.drew.swp hx1 hy1 XJ.out XP.out, Sort.permIn_trans _ _ _ _ _ HP.out (Sort.swp_permIn _ _ _ _ _ (by omega) (by omega) (by omega) (by omega) (by omega)), Lib.hid (rot_one HX.out hsk hak (by omega))⟩
            case measure => simp [intOf] <;> omega
        · have hlkz : ¬ (k : Int) < (i : Int) - 1 := by omega
          obtain rfl : i = k + 1 := by omega
          go_wp2
          all_goals
            first
            | go_end0
            | refine bodyPost_ret (results_none rfl _ _ _) rfl ?_
          all_goals exact ⟨rfl, dk, HS.out, sym_A swo_ltE hb H2.out hmi hjb HL.out HH.out HP.out HX.out⟩
set_option maxRecDepth 100000 in
set_option maxHeartbeats 2000000 in
theorem symMerge_B {w0 w : World} {q o : Nat} {d : Array El} (a m cap : Nat) {ai mi bi : Int} (hai : ai = (a : Int)) (hmi : mi = (m : Int)) (hbi : bi = (m : Int) + 1) (h : SS w0 q o d w) (ham : a < m) (hne : m ≠ a + 1) (hb : m + 1 ≤ d.size) (hsz : d.size ≤ 100000) (h1 : Sort.SortedIn ltE a m d) :
    Calls Try.prog 184 #[.slice (some ⟨q, o, none⟩) d.size cap, .int .i64 ai, .int .i64 mi, .int .i64 bi, .func (.func 112) #[] #[]] w fun e w' => e = .returned (.tuple #[]) ∧ ∃ d', SS w0 q o d' w' ∧ Sort.PermIn a (m + 1) d d' ∧ Sort.SortedIn ltE a (m + 1) d' := by
  subst hai; subst hmi; subst hbi
  have H := Lib.hid h
  have H1 := Lib.hid h1
  clear h h1
  have e1 : ((m : Int) - (a : Int) == 1) = false := by rw [beq_eq_false_iff_ne]; omega
  have e2 : IntKind.i64.wrap ((m : Int) - (a : Int)) = (m : Int) - (a : Int) := by rw [IntKind.wrap_i64]; omega
  have e3 : (((m : Int) + 1 - (m : Int)) == 1) = true := by rw [beq_iff_eq]; omega
  have e4 : IntKind.i64.wrap ((m : Int) + 1 - (m : Int)) = 1 := by rw [IntKind.wrap_i64]; omega
  go_enter Try.func184, Try.ntmps184
  go_wp2
  go_loopw [14, 15] (fun vi vj wr => ∃ (i j : Nat), vi = .int .i64 i ∧ vj = .int .i64 j ∧ a ≤ i ∧ i ≤ j ∧ j ≤ m ∧ Hid (SS w0 q o d wr) ∧ Hid (i = a ∨ ltE d[m]! d[i - 1]! = false) ∧ Hid (j = m ∨ ltE d[m]! d[j]! = true)) (fun vi vj _ => (intOf vj - intOf vi).toNat)
  case atStart => exact ⟨a, m, rfl, rfl, Nat.le_refl _, by omega, Nat.le_refl _, H.out, .inl rfl, .inl rfl⟩
  case round =>
    obtain ⟨i, j, rfl, rfl, hai, hij, hjm, HS, HL, HH⟩ := hrel
    by_cases hlt : i < j
    · have hltz : (i : Int) < (j : Int) := by omega
      obtain ⟨h, hh⟩ : ∃ h : Nat, ((i : Int) + (j : Int)) / 2 = (h : Int) := ⟨(i + j) / 2, by omega⟩
      have hih : i ≤ h := by omega
      have hhj : h < j := by omega
      have hz1 : (h : Int) < (d.size : Int) := by omega
      have hz2 : (m : Int) < (d.size : Int) := by omega
      obtain ⟨ex, hex⟩ : ∃ x, d[m]! = x := ⟨_, rfl⟩
      obtain ⟨ey, hey⟩ : ∃ x, d[h]! = x := ⟨_, rfl⟩
      have hx1 : m < d.size := by omega
      have hy1 : h < d.size := by omega
      have XJ := Lib.hid hex
      have XP := Lib.hid hey
      clear hex hey
      obtain ⟨x0, x1, x2, x3⟩ := HS.out.row.c4 hx1 XJ.out
      obtain ⟨y0, y1, y2, y3⟩ := HS.out.row.c4 hy1 XP.out
      have MX := Lib.hid (HS.out.drew.mem hx1 XJ.out)
      have MY := Lib.hid (HS.out.drew.mem hy1 XP.out)
      by_cases hc : cmpT ex.t ey.t < 0
      · have HF : Hid (ltE d[m]! d[h]! = true) := Lib.hid (by rw [XJ.out, XP.out]; exact decide_eq_true hc)
        go_wp2
        go_still_tail 9, (by kernel_rfl)
        change wpList _ _ _ _ _ wr.drew
        go_wp2_with (first | (go_at_call 112 ; refine (cmpE ex ey _ MX.out MY.out).mono ?_; rintro e w2 ⟨rfl, hb⟩; have HB2 := Lib.hid hb; clear hb))
        go_roundw
        case rel => exact ⟨i, h, rfl, rfl, hai, hih, by omega, HS.out.drew.keep HB2.out, HL.out, Lib.hid (.inr HF.out)⟩
        case measure => simp [intOf] <;> omega
      · have HF : Hid (ltE d[m]! d[h]! = false) := Lib.hid (by rw [XJ.out, XP.out]; exact decide_eq_false hc)
        have hd : decide (cmpT ex.t ey.t < 0) = false := decide_eq_false hc
        clear hc
        go_wp2
        go_still_tail 9, (by kernel_rfl)
        change wpList _ _ _ _ _ wr.drew
        go_wp2_with (first | (go_at_call 112 ; refine (cmpE ex ey _ MX.out MY.out).mono ?_; rintro e w2 ⟨rfl, hb⟩; have HB2 := Lib.hid hb; clear hb))
        go_roundw
        case rel => exact ⟨h + 1, j, by go_num, rfl, by omega, by omega, hjm, HS.out.drew.keep HB2.out, Lib.hid (.inr HF.out), HH.out⟩
        case measure => simp [intOf] <;> omega
    · obtain rfl : i = j := by omega
      have hltz : ¬ (i : Int) < (i : Int) := by omega
      go_wp2
      go_loopw [17] (fun vk wr => ∃ (k : Nat) (dk : Array El), vk = .int .i64 k ∧ i ≤ k ∧ k ≤ m ∧ dk.size = d.size ∧ Hid (SS w0 q o dk wr) ∧ Hid (Sort.PermIn a (m + 1) d dk) ∧ Hid (∀ x, dk[x]! = rot (fun x => d[x]!) k m (m + 1) x)) (fun vk _ => (intOf vk).toNat)
      case atStart => exact ⟨m, d, rfl, hjm, Nat.le_refl _, rfl, HS.out, Sort.permIn_refl _ _ _, Lib.hid fun x => (rot_start _ (by omega) x).symm⟩
      case round =>
        clear HS
        obtain ⟨k, dk, rfl, hik, hkm, hsk, HS, HP, HX⟩ := hrel
        by_cases hlk : i < k
        · obtain ⟨kp, rfl⟩ : ∃ kp, k = kp + 1 := ⟨k - 1, by omega⟩
          have hlkz : (i : Int) < (kp : Int) + 1 := by omega
          have p0 : (0 : Int) ≤ (kp : Int) + 1 := by omega
          have jz : (kp : Int) + 1 < (d.size : Int) := by omega
          have jz1 : (kp : Int) < (d.size : Int) := by omega
          have e0 : ((kp : Int) + 1).toNat = kp + 1 := by omega
          have w1 : IntKind.i64.wrap ((kp : Int) + 1 - 1) = (kp : Int) := by rw [IntKind.wrap_i64]; omega
          have w2 : IntKind.i64.wrap (kp : Int) = (kp : Int) := by rw [IntKind.wrap_i64]; omega
          obtain ⟨ex, hex⟩ : ∃ x, dk[kp + 1]! = x := ⟨_, rfl⟩
          obtain ⟨ey, hey⟩ : ∃ x, dk[kp]! = x := ⟨_, rfl⟩
          have hx1 : kp + 1 < dk.size := by omega
          have hy1 : kp < dk.size := by omega
          have XJ := Lib.hid hex
          have XP := Lib.hid hey
          clear hex hey
          obtain ⟨x0, x1, x2, x3⟩ := HS.out.row.c4 hx1 XJ.out
          obtain ⟨y0, y1, y2, y3⟩ := HS.out.row.c4 hy1 XP.out
          have v0 := HS.out.drew.row.wr hx1
          have v1 := HS.out.drew.row.wr hy1
          go_wp2
          go_region
          all_goals
            go_wp2
            go_roundw
            case rel => exact ⟨kp, Sort.swp dk (kp + 1) kp, by go_num, by omega, by omega, by rw [Sort.size_swp]; exact hsk, HS.out.drew.swp hx1 hy1 XJ.out XP.out, Sort.permIn_trans _ _ _ _ _ HP.out (Sort.swp_permIn _ _ _ _ _ (by omega) (by omega) (by omega) (by omega) (by omega)), Lib.hid (rot_last HX.out hsk (by omega) (by omega))⟩
            case measure => simp [intOf] <;> omega
        · have hlkz : ¬ (i : Int) < (k : Int) := by omega
          obtain rfl : i = k := by omega
          go_wp2
          all_goals
            first
            | go_end0
            | refine bodyPost_ret (results_none rfl _ _ _) rfl ?_
          all_goals exact ⟨rfl, dk, HS.out, sym_B swo_ltE hb H1.out hai hkm HL.out HH.out HP.out HX.out⟩
end Go.Proofs.Ytppejoccljfblaa
