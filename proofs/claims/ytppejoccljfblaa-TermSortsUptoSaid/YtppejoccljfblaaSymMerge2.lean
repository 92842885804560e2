/-
  slices.symMergeCmpFunc at terms, whole: two sorted stretches, side by side, become one. No condition but how they lie.
-/
import Derived.Test.YtppejoccljfblaaSymMerge
namespace Go.Proofs.Ytppejoccljfblaa
open Go.RowKit
attribute [local go_sem ↓] wp_store_O
attribute [local go_sem] stO_eq stB_eq stC_eq stF_eq wrO_set

theorem sorted_off {d d' : Array El} {a b x y : Nat} (h : Sort.PermIn a b d d') (hs : Sort.SortedIn ltE x y d) (ho : b ≤ x ∨ y ≤ a) : Sort.SortedIn ltE x y d' := fun i j hi hij hj => by
  rw [h.2.1 i (by omega), h.2.1 j (by omega)]; exact hs i j hi hij hj

/-- What a merge of [a, m) and [m, b) does. -/
def MergeAt (w0 : World) (q o cap N : Nat) : Prop := ∀ (a m b : Nat) (d : Array El) (w : World) (ai mi bi : Int), ai = (a : Int) → mi = (m : Int) → bi = (b : Int) → SS w0 q o d w → a < m → m < b → b ≤ d.size → d.size ≤ 100000 → b - a ≤ N → Sort.SortedIn ltE a m d → Sort.SortedIn ltE m b d →
    Calls Try.prog 184 #[.slice (some ⟨q, o, none⟩) d.size cap, .int .i64 ai, .int .i64 mi, .int .i64 bi, .func (.func 112) #[] #[]] w fun e w' => e = .returned (.tuple #[]) ∧ ∃ d', SS w0 q o d' w' ∧ Sort.PermIn a b d d' ∧ Sort.SortedIn ltE a b d'

set_option maxRecDepth 100000 in
set_option maxHeartbeats 20000000 in
theorem symMerge_C {w0 : World} {q o cap N : Nat} (ih : MergeAt w0 q o cap N) (a m b : Nat) (d : Array El) (w : World) (h : SS w0 q o d w) (ham : a < m) (hmb : m < b) (hna : m ≠ a + 1) (hnb : b ≠ m + 1) (hb : b ≤ d.size) (hsz : d.size ≤ 100000) (hN : b - a ≤ N + 1) (h1 : Sort.SortedIn ltE a m d) (h2 : Sort.SortedIn ltE m b d) :
    Calls Try.prog 184 #[.slice (some ⟨q, o, none⟩) d.size cap, .int .i64 a, .int .i64 m, .int .i64 b, .func (.func 112) #[] #[]] w fun e w' => e = .returned (.tuple #[]) ∧ ∃ d', SS w0 q o d' w' ∧ Sort.PermIn a b d d' ∧ Sort.SortedIn ltE a b d' := by
  have H := Lib.hid h
  have H1 := Lib.hid h1
  have H2 := Lib.hid h2
  have IH := Lib.hid ih
  clear h h1 h2 ih
  have e1 : ((m : Int) - (a : Int) == 1) = false := by rw [beq_eq_false_iff_ne]; omega
  have e2 : IntKind.i64.wrap ((m : Int) - (a : Int)) = (m : Int) - (a : Int) := by rw [IntKind.wrap_i64]; omega
  have e3 : ((b : Int) - (m : Int) == 1) = false := by rw [beq_eq_false_iff_ne]; omega
  have e4 : IntKind.i64.wrap ((b : Int) - (m : Int)) = (b : Int) - (m : Int) := by rw [IntKind.wrap_i64]; omega
  obtain ⟨mid, hmid, hmidn⟩ : ∃ mid : Nat, ((a : Int) + (b : Int)) / 2 = (mid : Int) ∧ mid = (a + b) / 2 := ⟨(a + b) / 2, by omega, rfl⟩
  have ham2 : a < mid := by omega
  have hmb2 : mid < b := by omega
  have HMID := Lib.hid hmidn
  clear hmidn
  go_enter Try.func184, Try.ntmps184
  by_cases hway : mid < m
  · have hmm : (mid : Int) < (m : Int) := by omega
    obtain ⟨s0, hs0, hs0n⟩ : ∃ s0 : Nat, (mid : Int) + (m : Int) - (b : Int) = (s0 : Int) ∧ s0 = mid + m - b := ⟨mid + m - b, by have := HMID.out; omega, rfl⟩
    have HW : Hid ((mid < m ∧ s0 = mid + m - b ∧ mid = mid) ∨ (m ≤ mid ∧ s0 = a ∧ mid = m)) := Lib.hid (.inl ⟨by omega, hs0n, rfl⟩)
    have hsa : a ≤ s0 ∧ s0 < mid ∧ mid + m = s0 + b := by have := HMID.out; omega
    clear hs0n
    go_wp2
    go_loopw [20, 21] (fun vs vr wr => ∃ (st r : Nat), vs = .int .i64 st ∧ vr = .int .i64 r ∧ s0 ≤ st ∧ st ≤ r ∧ r ≤ mid ∧ Hid (SS w0 q o d wr) ∧ Hid (st = s0 ∨ ltE d[mid + m - 1 - (st - 1)]! d[st - 1]! = false) ∧ Hid (r = mid ∨ ltE d[mid + m - 1 - r]! d[r]! = true)) (fun vs vr _ => (intOf vr - intOf vs).toNat)
    case atStart => exact ⟨s0, mid, by go_num, rfl, Nat.le_refl _, by omega, Nat.le_refl _, H.out, .inl rfl, .inl rfl⟩
    case round =>
      obtain ⟨st, r, rfl, rfl, hs0s, hsr, hrr, HS, HL, HH⟩ := hrel
      by_cases hlt : st < r
      · have hltz : (st : Int) < (r : Int) := by omega
        obtain ⟨c, hc, hcn⟩ : ∃ c : Nat, ((st : Int) + (r : Int)) / 2 = (c : Int) ∧ c = (st + r) / 2 := ⟨(st + r) / 2, by omega, rfl⟩
        have hsc : st ≤ c := by omega
        have hcr : c < r := by omega
        clear hcn
        obtain ⟨g, hg, hgn⟩ : ∃ g : Nat, (mid : Int) + (m : Int) - 1 - (c : Int) = (g : Int) ∧ g = mid + m - 1 - c := ⟨mid + m - 1 - c, by omega, rfl⟩
        have hgz : (g : Int) < (d.size : Int) := by omega
        have hcz : (c : Int) < (d.size : Int) := by omega
        have hwg : IntKind.i64.wrap ((mid : Int) + (m : Int) - 1 - (c : Int)) = (g : Int) := by rw [IntKind.wrap_i64]; omega
        have hwg2 : IntKind.i64.wrap (g : Int) = (g : Int) := by rw [IntKind.wrap_i64]; omega
        obtain ⟨ex, hex⟩ : ∃ x, d[g]! = x := ⟨_, rfl⟩
        obtain ⟨ey, hey⟩ : ∃ x, d[c]! = x := ⟨_, rfl⟩
        have hx1 : g < d.size := by omega
        have hy1 : c < d.size := by omega
        have XJ := Lib.hid hex
        have XP := Lib.hid hey
        clear hex hey
        obtain ⟨x0, x1, x2, x3⟩ := HS.out.row.c4 hx1 XJ.out
        obtain ⟨y0, y1, y2, y3⟩ := HS.out.row.c4 hy1 XP.out
        have MX := Lib.hid (HS.out.drew.mem hx1 XJ.out)
        have MY := Lib.hid (HS.out.drew.mem hy1 XP.out)
        by_cases hq : cmpT ex.t ey.t < 0
        · have HF : Hid (ltE d[mid + m - 1 - c]! d[c]! = true) := Lib.hid (by rw [← hgn, XJ.out, XP.out]; exact decide_eq_true hq)
          have hd : decide (cmpT ex.t ey.t < 0) = true := decide_eq_true hq
          clear hq hgn
          go_wp2
          go_still_tail 11, (by kernel_rfl)
          change wpList _ _ _ _ _ wr.drew
          go_wp2_with (first | (go_at_call 112 ; refine (cmpE ex ey _ MX.out MY.out).mono ?_; rintro e w2 ⟨rfl, hb⟩; have HB2 := Lib.hid hb; clear hb))
          go_roundw
          case rel => exact ⟨st, c, rfl, rfl, hs0s, hsc, by omega, HS.out.drew.keep HB2.out, HL.out, Lib.hid (.inr HF.out)⟩
          case measure => simp [intOf] <;> omega
        · have HF : Hid (ltE d[mid + m - 1 - c]! d[c]! = false) := Lib.hid (by rw [← hgn, XJ.out, XP.out]; exact decide_eq_false hq)
          have hd : decide (cmpT ex.t ey.t < 0) = false := decide_eq_false hq
          clear hq hgn
          go_wp2
          go_still_tail 11, (by kernel_rfl)
          change wpList _ _ _ _ _ wr.drew
          go_wp2_with (first | (go_at_call 112 ; refine (cmpE ex ey _ MX.out MY.out).mono ?_; rintro e w2 ⟨rfl, hb⟩; have HB2 := Lib.hid hb; clear hb))
          go_roundw
          case rel => exact ⟨c + 1, r, by go_num, rfl, by omega, by omega, hrr, HS.out.drew.keep HB2.out, Lib.hid (.inr HF.out), HH.out⟩
          case measure => simp [intOf] <;> omega
      · obtain rfl : st = r := by omega
        have hltz : ¬ (st : Int) < (st : Int) := by omega
        obtain ⟨en, hen, henn⟩ : ∃ en : Nat, (mid : Int) + (m : Int) - (st : Int) = (en : Int) ∧ st + en = mid + m := ⟨mid + m - st, by omega, by omega⟩
        have hen2 : mid + m - st = en := by omega
        have hwe : IntKind.i64.wrap ((mid : Int) + (m : Int) - (st : Int)) = (en : Int) := by rw [IntKind.wrap_i64]; omega
        have hwe2 : IntKind.i64.wrap (en : Int) = (en : Int) := by rw [IntKind.wrap_i64]; omega
        obtain ⟨hx, hy⟩ := sym_C swo_ltE H1.out H2.out (by have := HW.out; omega) ham hmb HMID.out hs0s hrr HL.out HH.out
        rw [hen2] at hx hy
        have HX := Lib.hid hx
        have HY := Lib.hid hy
        have hsm : st ≤ m := by have := HW.out; omega
        have hsd : st ≤ mid := by have := HW.out; omega
        have hme : m ≤ en := by omega
        have heb : en ≤ b := by have := HW.out; omega
        have hde : mid ≤ en := by omega
        clear hx hy HL HH hen2 hmid hs0
        by_cases hA : st < mid
        · skip
          by_cases hB : a < st
          · skip
            by_cases hC : en < b
            · skip
              have zt0 : decide ((st : Int) < (m : Int)) = true := decide_eq_true (by omega)
              have zt1 : decide ((m : Int) < (en : Int)) = true := decide_eq_true (by omega)
              have zt2 : decide ((a : Int) < (st : Int)) = true := decide_eq_true (by omega)
              have zt3 : decide ((st : Int) < (mid : Int)) = true := decide_eq_true (by omega)
              have zt4 : decide ((mid : Int) < (en : Int)) = true := decide_eq_true (by omega)
              have zt5 : decide ((en : Int) < (b : Int)) = true := decide_eq_true (by omega)
              go_wp2_with fail
              refine (rotate_any st m en cap rfl rfl rfl HS.out (by omega) (by omega) (by omega) hsz).mono ?_
              rintro e w1 ⟨rfl, d1, hs, hp, hx⟩
              have HS1 := Lib.hid hs
              have HP1 := Lib.hid (Sort.permIn_mono _ _ _ _ a b (by omega) heb hb hp)
              have HR1 := Lib.hid hx
              clear hs hp hx
              have hz1 : d1.size = d.size := HP1.out.1
              obtain ⟨q1, q2, q3, q4⟩ := sym_halves H1.out H2.out (by omega) hsm hme heb henn HR1.out
              have Q1 := Lib.hid q1
              have Q2 := Lib.hid q2
              have Q3 := Lib.hid q3
              have Q4 := Lib.hid q4
              clear q1 q2 q3 q4
              go_wp2_with fail
              rw [← hz1]
              refine (IH.out a st mid d1 _ _ _ _ rfl rfl rfl HS1.out (by omega) (by omega) (by omega) (by omega) (by omega) Q1.out Q2.out).mono ?_
              rintro e w2 ⟨rfl, d2, hs, hp, hx⟩
              have HS2 := Lib.hid hs
              have HP2 := Lib.hid hp
              have HO2 := Lib.hid hx
              clear hs hp hx
              have hz2 : d2.size = d.size := HP2.out.1.trans hz1
              have Q5 := Lib.hid (sorted_off HP2.out Q3.out (.inl (Nat.le_refl _)))
              have Q6 := Lib.hid (sorted_off HP2.out Q4.out (.inl hde))
              go_wp2_with fail
              rw [← hz2]
              refine (IH.out mid en b d2 _ _ _ _ rfl rfl rfl HS2.out (by omega) (by omega) (by omega) (by omega) (by omega) Q5.out Q6.out).mono ?_
              rintro e w3 ⟨rfl, d3, hs, hp, hx⟩
              have HS3 := Lib.hid hs
              have HP3 := Lib.hid hp
              have HO3 := Lib.hid hx
              clear hs hp hx
              try go_wp2
              go_end0
              exact ⟨rfl, d3, HS3.out, sym_join swo_ltE hb H1.out H2.out (by omega) hsm hme heb henn (by omega) (by omega) HX.out HY.out HP1.out HR1.out HP2.out HO2.out HP3.out HO3.out⟩
            · skip
              have zt0 : decide ((st : Int) < (m : Int)) = true := decide_eq_true (by omega)
              have zt1 : decide ((m : Int) < (en : Int)) = true := decide_eq_true (by omega)
              have zt2 : decide ((a : Int) < (st : Int)) = true := decide_eq_true (by omega)
              have zt3 : decide ((st : Int) < (mid : Int)) = true := decide_eq_true (by omega)
              have zt4 : decide ((mid : Int) < (en : Int)) = true := decide_eq_true (by omega)
              have zt5 : decide ((en : Int) < (b : Int)) = false := decide_eq_false (by omega)
              go_wp2_with fail
              refine (rotate_any st m en cap rfl rfl rfl HS.out (by omega) (by omega) (by omega) hsz).mono ?_
              rintro e w1 ⟨rfl, d1, hs, hp, hx⟩
              have HS1 := Lib.hid hs
              have HP1 := Lib.hid (Sort.permIn_mono _ _ _ _ a b (by omega) heb hb hp)
              have HR1 := Lib.hid hx
              clear hs hp hx
              have hz1 : d1.size = d.size := HP1.out.1
              obtain ⟨q1, q2, q3, q4⟩ := sym_halves H1.out H2.out (by omega) hsm hme heb henn HR1.out
              have Q1 := Lib.hid q1
              have Q2 := Lib.hid q2
              have Q3 := Lib.hid q3
              have Q4 := Lib.hid q4
              clear q1 q2 q3 q4
              go_wp2_with fail
              rw [← hz1]
              refine (IH.out a st mid d1 _ _ _ _ rfl rfl rfl HS1.out (by omega) (by omega) (by omega) (by omega) (by omega) Q1.out Q2.out).mono ?_
              rintro e w2 ⟨rfl, d2, hs, hp, hx⟩
              have HS2 := Lib.hid hs
              have HP2 := Lib.hid hp
              have HO2 := Lib.hid hx
              clear hs hp hx
              have hz2 : d2.size = d.size := HP2.out.1.trans hz1
              have Q5 := Lib.hid (sorted_off HP2.out Q3.out (.inl (Nat.le_refl _)))
              have Q6 := Lib.hid (sorted_off HP2.out Q4.out (.inl hde))
              obtain ⟨d3, hd3⟩ : ∃ d3, d3 = d2 := ⟨_, rfl⟩
              have HS3 : Hid (SS w0 q o d3 _) := Lib.hid (hd3 ▸ HS2.out)
              have HP3 : Hid (Sort.PermIn mid b d2 d3) := Lib.hid (hd3 ▸ Sort.permIn_refl _ _ _)
              have HO3 : Hid (Sort.SortedIn ltE mid b d3) := Lib.hid (by
                subst hd3
                have e : en = b := by omega
                rw [← e]
                exact Q5.out)
              clear hd3
              try go_wp2
              go_end0
              exact ⟨rfl, d3, HS3.out, sym_join swo_ltE hb H1.out H2.out (by omega) hsm hme heb henn (by omega) (by omega) HX.out HY.out HP1.out HR1.out HP2.out HO2.out HP3.out HO3.out⟩
          · skip
            by_cases hC : en < b
            · skip
              exfalso
              omega
            · skip
              have zt0 : decide ((st : Int) < (m : Int)) = true := decide_eq_true (by omega)
              have zt1 : decide ((m : Int) < (en : Int)) = true := decide_eq_true (by omega)
              have zt2 : decide ((a : Int) < (st : Int)) = false := decide_eq_false (by omega)
              have zt3 : decide ((mid : Int) < (en : Int)) = true := decide_eq_true (by omega)
              have zt4 : decide ((en : Int) < (b : Int)) = false := decide_eq_false (by omega)
              go_wp2_with fail
              refine (rotate_any st m en cap rfl rfl rfl HS.out (by omega) (by omega) (by omega) hsz).mono ?_
              rintro e w1 ⟨rfl, d1, hs, hp, hx⟩
              have HS1 := Lib.hid hs
              have HP1 := Lib.hid (Sort.permIn_mono _ _ _ _ a b (by omega) heb hb hp)
              have HR1 := Lib.hid hx
              clear hs hp hx
              have hz1 : d1.size = d.size := HP1.out.1
              obtain ⟨q1, q2, q3, q4⟩ := sym_halves H1.out H2.out (by omega) hsm hme heb henn HR1.out
              have Q1 := Lib.hid q1
              have Q2 := Lib.hid q2
              have Q3 := Lib.hid q3
              have Q4 := Lib.hid q4
              clear q1 q2 q3 q4
              obtain ⟨d2, hd2⟩ : ∃ d2, d2 = d1 := ⟨_, rfl⟩
              have HS2 : Hid (SS w0 q o d2 _) := Lib.hid (hd2 ▸ HS1.out)
              have HP2 : Hid (Sort.PermIn a mid d1 d2) := Lib.hid (hd2 ▸ Sort.permIn_refl _ _ _)
              have HO2 : Hid (Sort.SortedIn ltE a mid d2) := Lib.hid (by
                subst hd2
                have e : a = st := by omega
                rw [e]
                exact Q2.out)
              clear hd2
              have hz2 : d2.size = d.size := HP2.out.1.trans hz1
              have Q5 := Lib.hid (sorted_off HP2.out Q3.out (.inl (Nat.le_refl _)))
              have Q6 := Lib.hid (sorted_off HP2.out Q4.out (.inl hde))
              obtain ⟨d3, hd3⟩ : ∃ d3, d3 = d2 := ⟨_, rfl⟩
              have HS3 : Hid (SS w0 q o d3 _) := Lib.hid (hd3 ▸ HS2.out)
              have HP3 : Hid (Sort.PermIn mid b d2 d3) := Lib.hid (hd3 ▸ Sort.permIn_refl _ _ _)
              have HO3 : Hid (Sort.SortedIn ltE mid b d3) := Lib.hid (by
                subst hd3
                have e : en = b := by omega
                rw [← e]
                exact Q5.out)
              clear hd3
              try go_wp2
              go_end0
              exact ⟨rfl, d3, HS3.out, sym_join swo_ltE hb H1.out H2.out (by omega) hsm hme heb henn (by omega) (by omega) HX.out HY.out HP1.out HR1.out HP2.out HO2.out HP3.out HO3.out⟩
        · skip
          have zt0 : decide ((st : Int) < (m : Int)) = true := decide_eq_true (by omega)
          have zt1 : decide ((m : Int) < (en : Int)) = false := decide_eq_false (by omega)
          have zt2 : decide ((a : Int) < (st : Int)) = true := decide_eq_true (by omega)
          have zt3 : decide ((st : Int) < (mid : Int)) = false := decide_eq_false (by omega)
          have zt4 : decide ((mid : Int) < (en : Int)) = true := decide_eq_true (by omega)
          have zt5 : decide ((en : Int) < (b : Int)) = true := decide_eq_true (by omega)
          obtain ⟨d1, hd1⟩ : ∃ d1, d1 = d := ⟨_, rfl⟩
          have HS1 : Hid (SS w0 q o d1 wr) := Lib.hid (hd1 ▸ HS.out)
          have HP1 : Hid (Sort.PermIn a b d d1) := Lib.hid (hd1 ▸ Sort.permIn_refl _ _ _)
          have HR1 : Hid (∀ k, d1[k]! = rot (fun k => d[k]!) st m en k) := Lib.hid (fun k => by
            subst hd1
            have e : m = en := by omega
            subst e
            exact (rot_end _ hsm k).symm)
          clear hd1
          have hz1 : d1.size = d.size := HP1.out.1
          obtain ⟨q1, q2, q3, q4⟩ := sym_halves H1.out H2.out (by omega) hsm hme heb henn HR1.out
          have Q1 := Lib.hid q1
          have Q2 := Lib.hid q2
          have Q3 := Lib.hid q3
          have Q4 := Lib.hid q4
          clear q1 q2 q3 q4
          obtain ⟨d2, hd2⟩ : ∃ d2, d2 = d1 := ⟨_, rfl⟩
          have HS2 : Hid (SS w0 q o d2 _) := Lib.hid (hd2 ▸ HS1.out)
          have HP2 : Hid (Sort.PermIn a mid d1 d2) := Lib.hid (hd2 ▸ Sort.permIn_refl _ _ _)
          have HO2 : Hid (Sort.SortedIn ltE a mid d2) := Lib.hid (by
            subst hd2
            have e : st = mid := by omega
            rw [← e]
            exact Q1.out)
          clear hd2
          have hz2 : d2.size = d.size := HP2.out.1.trans hz1
          have Q5 := Lib.hid (sorted_off HP2.out Q3.out (.inl (Nat.le_refl _)))
          have Q6 := Lib.hid (sorted_off HP2.out Q4.out (.inl hde))
          go_wp2_with fail
          rw [← hz2]
          refine (IH.out mid en b d2 _ _ _ _ rfl rfl rfl HS2.out (by omega) (by omega) (by omega) (by omega) (by omega) Q5.out Q6.out).mono ?_
          rintro e w3 ⟨rfl, d3, hs, hp, hx⟩
          have HS3 := Lib.hid hs
          have HP3 := Lib.hid hp
          have HO3 := Lib.hid hx
          clear hs hp hx
          try go_wp2
          go_end0
          exact ⟨rfl, d3, HS3.out, sym_join swo_ltE hb H1.out H2.out (by omega) hsm hme heb henn (by omega) (by omega) HX.out HY.out HP1.out HR1.out HP2.out HO2.out HP3.out HO3.out⟩
  · have hmm : ¬ (mid : Int) < (m : Int) := by omega
    obtain ⟨s0, hs0, hs0n⟩ : ∃ s0 : Nat, s0 = a ∧ s0 = a := ⟨a, rfl, rfl⟩
    have HW : Hid ((mid < m ∧ s0 = mid + m - b ∧ m = mid) ∨ (m ≤ mid ∧ s0 = a ∧ m = m)) := Lib.hid (.inr ⟨by omega, hs0n, rfl⟩)
    have hsa : a ≤ s0 ∧ s0 < m ∧ mid + m ≤ s0 + b := by have := HMID.out; omega
    clear hs0n
    go_wp2
    go_loopw [20, 21] (fun vs vr wr => ∃ (st r : Nat), vs = .int .i64 st ∧ vr = .int .i64 r ∧ s0 ≤ st ∧ st ≤ r ∧ r ≤ m ∧ Hid (SS w0 q o d wr) ∧ Hid (st = s0 ∨ ltE d[mid + m - 1 - (st - 1)]! d[st - 1]! = false) ∧ Hid (r = m ∨ ltE d[mid + m - 1 - r]! d[r]! = true)) (fun vs vr _ => (intOf vr - intOf vs).toNat)
    case atStart => exact ⟨s0, m, by rw [hs0], rfl, Nat.le_refl _, by omega, Nat.le_refl _, H.out, .inl rfl, .inl rfl⟩
    case round =>
      obtain ⟨st, r, rfl, rfl, hs0s, hsr, hrr, HS, HL, HH⟩ := hrel
      by_cases hlt : st < r
      · have hltz : (st : Int) < (r : Int) := by omega
        obtain ⟨c, hc, hcn⟩ : ∃ c : Nat, ((st : Int) + (r : Int)) / 2 = (c : Int) ∧ c = (st + r) / 2 := ⟨(st + r) / 2, by omega, rfl⟩
        have hsc : st ≤ c := by omega
        have hcr : c < r := by omega
        clear hcn
        obtain ⟨g, hg, hgn⟩ : ∃ g : Nat, (mid : Int) + (m : Int) - 1 - (c : Int) = (g : Int) ∧ g = mid + m - 1 - c := ⟨mid + m - 1 - c, by omega, rfl⟩
        have hgz : (g : Int) < (d.size : Int) := by omega
        have hcz : (c : Int) < (d.size : Int) := by omega
        have hwg : IntKind.i64.wrap ((mid : Int) + (m : Int) - 1 - (c : Int)) = (g : Int) := by rw [IntKind.wrap_i64]; omega
        have hwg2 : IntKind.i64.wrap (g : Int) = (g : Int) := by rw [IntKind.wrap_i64]; omega
        obtain ⟨ex, hex⟩ : ∃ x, d[g]! = x := ⟨_, rfl⟩
        obtain ⟨ey, hey⟩ : ∃ x, d[c]! = x := ⟨_, rfl⟩
        have hx1 : g < d.size := by omega
        have hy1 : c < d.size := by omega
        have XJ := Lib.hid hex
        have XP := Lib.hid hey
        clear hex hey
        obtain ⟨x0, x1, x2, x3⟩ := HS.out.row.c4 hx1 XJ.out
        obtain ⟨y0, y1, y2, y3⟩ := HS.out.row.c4 hy1 XP.out
        have MX := Lib.hid (HS.out.drew.mem hx1 XJ.out)
        have MY := Lib.hid (HS.out.drew.mem hy1 XP.out)
        by_cases hq : cmpT ex.t ey.t < 0
        · have HF : Hid (ltE d[mid + m - 1 - c]! d[c]! = true) := Lib.hid (by rw [← hgn, XJ.out, XP.out]; exact decide_eq_true hq)
          have hd : decide (cmpT ex.t ey.t < 0) = true := decide_eq_true hq
          clear hq hgn
          go_wp2
          go_still_tail 11, (by kernel_rfl)
          change wpList _ _ _ _ _ wr.drew
          go_wp2_with (first | (go_at_call 112 ; refine (cmpE ex ey _ MX.out MY.out).mono ?_; rintro e w2 ⟨rfl, hb⟩; have HB2 := Lib.hid hb; clear hb))
          go_roundw
          case rel => exact ⟨st, c, rfl, rfl, hs0s, hsc, by omega, HS.out.drew.keep HB2.out, HL.out, Lib.hid (.inr HF.out)⟩
          case measure => simp [intOf] <;> omega
        · have HF : Hid (ltE d[mid + m - 1 - c]! d[c]! = false) := Lib.hid (by rw [← hgn, XJ.out, XP.out]; exact decide_eq_false hq)
          have hd : decide (cmpT ex.t ey.t < 0) = false := decide_eq_false hq
          clear hq hgn
          go_wp2
          go_still_tail 11, (by kernel_rfl)
          change wpList _ _ _ _ _ wr.drew
          go_wp2_with (first | (go_at_call 112 ; refine (cmpE ex ey _ MX.out MY.out).mono ?_; rintro e w2 ⟨rfl, hb⟩; have HB2 := Lib.hid hb; clear hb))
          go_roundw
          case rel => exact ⟨c + 1, r, by go_num, rfl, by omega, by omega, hrr, HS.out.drew.keep HB2.out, Lib.hid (.inr HF.out), HH.out⟩
          case measure => simp [intOf] <;> omega
      · obtain rfl : st = r := by omega
        have hltz : ¬ (st : Int) < (st : Int) := by omega
        obtain ⟨en, hen, henn⟩ : ∃ en : Nat, (mid : Int) + (m : Int) - (st : Int) = (en : Int) ∧ st + en = mid + m := ⟨mid + m - st, by omega, by omega⟩
        have hen2 : mid + m - st = en := by omega
        have hwe : IntKind.i64.wrap ((mid : Int) + (m : Int) - (st : Int)) = (en : Int) := by rw [IntKind.wrap_i64]; omega
        have hwe2 : IntKind.i64.wrap (en : Int) = (en : Int) := by rw [IntKind.wrap_i64]; omega
        obtain ⟨hx, hy⟩ := sym_C swo_ltE H1.out H2.out (by have := HW.out; omega) ham hmb HMID.out hs0s hrr HL.out HH.out
        rw [hen2] at hx hy
        have HX := Lib.hid hx
        have HY := Lib.hid hy
        have hsm : st ≤ m := by have := HW.out; omega
        have hsd : st ≤ mid := by have := HW.out; omega
        have hme : m ≤ en := by omega
        have heb : en ≤ b := by have := HW.out; omega
        have hde : mid ≤ en := by omega
        clear hx hy HL HH hen2 hmid hs0
        by_cases hA : st < m
        · skip
          by_cases hB : a < st
          · skip
            by_cases hC : en < b
            · skip
              have zt0 : decide ((st : Int) < (m : Int)) = true := decide_eq_true (by omega)
              have zt1 : decide ((m : Int) < (en : Int)) = true := decide_eq_true (by omega)
              have zt2 : decide ((a : Int) < (st : Int)) = true := decide_eq_true (by omega)
              have zt3 : decide ((st : Int) < (mid : Int)) = true := decide_eq_true (by omega)
              have zt4 : decide ((mid : Int) < (en : Int)) = true := decide_eq_true (by omega)
              have zt5 : decide ((en : Int) < (b : Int)) = true := decide_eq_true (by omega)
              go_wp2_with fail
              refine (rotate_any st m en cap rfl rfl rfl HS.out (by omega) (by omega) (by omega) hsz).mono ?_
              rintro e w1 ⟨rfl, d1, hs, hp, hx⟩
              have HS1 := Lib.hid hs
              have HP1 := Lib.hid (Sort.permIn_mono _ _ _ _ a b (by omega) heb hb hp)
              have HR1 := Lib.hid hx
              clear hs hp hx
              have hz1 : d1.size = d.size := HP1.out.1
              obtain ⟨q1, q2, q3, q4⟩ := sym_halves H1.out H2.out (by omega) hsm hme heb henn HR1.out
              have Q1 := Lib.hid q1
              have Q2 := Lib.hid q2
              have Q3 := Lib.hid q3
              have Q4 := Lib.hid q4
              clear q1 q2 q3 q4
              go_wp2_with fail
              rw [← hz1]
              refine (IH.out a st mid d1 _ _ _ _ rfl rfl rfl HS1.out (by omega) (by omega) (by omega) (by omega) (by omega) Q1.out Q2.out).mono ?_
              rintro e w2 ⟨rfl, d2, hs, hp, hx⟩
              have HS2 := Lib.hid hs
              have HP2 := Lib.hid hp
              have HO2 := Lib.hid hx
              clear hs hp hx
              have hz2 : d2.size = d.size := HP2.out.1.trans hz1
              have Q5 := Lib.hid (sorted_off HP2.out Q3.out (.inl (Nat.le_refl _)))
              have Q6 := Lib.hid (sorted_off HP2.out Q4.out (.inl hde))
              go_wp2_with fail
              rw [← hz2]
              refine (IH.out mid en b d2 _ _ _ _ rfl rfl rfl HS2.out (by omega) (by omega) (by omega) (by omega) (by omega) Q5.out Q6.out).mono ?_
              rintro e w3 ⟨rfl, d3, hs, hp, hx⟩
              have HS3 := Lib.hid hs
              have HP3 := Lib.hid hp
              have HO3 := Lib.hid hx
              clear hs hp hx
              try go_wp2
              go_end0
              exact ⟨rfl, d3, HS3.out, sym_join swo_ltE hb H1.out H2.out (by omega) hsm hme heb henn (by omega) (by omega) HX.out HY.out HP1.out HR1.out HP2.out HO2.out HP3.out HO3.out⟩
            · skip
              have zt0 : decide ((st : Int) < (m : Int)) = true := decide_eq_true (by omega)
              have zt1 : decide ((m : Int) < (en : Int)) = true := decide_eq_true (by omega)
              have zt2 : decide ((a : Int) < (st : Int)) = true := decide_eq_true (by omega)
              have zt3 : decide ((st : Int) < (mid : Int)) = true := decide_eq_true (by omega)
              have zt4 : decide ((mid : Int) < (en : Int)) = true := decide_eq_true (by omega)
              have zt5 : decide ((en : Int) < (b : Int)) = false := decide_eq_false (by omega)
              go_wp2_with fail
              refine (rotate_any st m en cap rfl rfl rfl HS.out (by omega) (by omega) (by omega) hsz).mono ?_
              rintro e w1 ⟨rfl, d1, hs, hp, hx⟩
              have HS1 := Lib.hid hs
              have HP1 := Lib.hid (Sort.permIn_mono _ _ _ _ a b (by omega) heb hb hp)
              have HR1 := Lib.hid hx
              clear hs hp hx
              have hz1 : d1.size = d.size := HP1.out.1
              obtain ⟨q1, q2, q3, q4⟩ := sym_halves H1.out H2.out (by omega) hsm hme heb henn HR1.out
              have Q1 := Lib.hid q1
              have Q2 := Lib.hid q2
              have Q3 := Lib.hid q3
              have Q4 := Lib.hid q4
              clear q1 q2 q3 q4
              go_wp2_with fail
              rw [← hz1]
              refine (IH.out a st mid d1 _ _ _ _ rfl rfl rfl HS1.out (by omega) (by omega) (by omega) (by omega) (by omega) Q1.out Q2.out).mono ?_
              rintro e w2 ⟨rfl, d2, hs, hp, hx⟩
              have HS2 := Lib.hid hs
              have HP2 := Lib.hid hp
              have HO2 := Lib.hid hx
              clear hs hp hx
              have hz2 : d2.size = d.size := HP2.out.1.trans hz1
              have Q5 := Lib.hid (sorted_off HP2.out Q3.out (.inl (Nat.le_refl _)))
              have Q6 := Lib.hid (sorted_off HP2.out Q4.out (.inl hde))
              obtain ⟨d3, hd3⟩ : ∃ d3, d3 = d2 := ⟨_, rfl⟩
              have HS3 : Hid (SS w0 q o d3 _) := Lib.hid (hd3 ▸ HS2.out)
              have HP3 : Hid (Sort.PermIn mid b d2 d3) := Lib.hid (hd3 ▸ Sort.permIn_refl _ _ _)
              have HO3 : Hid (Sort.SortedIn ltE mid b d3) := Lib.hid (by
                subst hd3
                have e : en = b := by omega
                rw [← e]
                exact Q5.out)
              clear hd3
              try go_wp2
              go_end0
              exact ⟨rfl, d3, HS3.out, sym_join swo_ltE hb H1.out H2.out (by omega) hsm hme heb henn (by omega) (by omega) HX.out HY.out HP1.out HR1.out HP2.out HO2.out HP3.out HO3.out⟩
          · skip
            by_cases hC : en < b
            · skip
              have zt0 : decide ((st : Int) < (m : Int)) = true := decide_eq_true (by omega)
              have zt1 : decide ((m : Int) < (en : Int)) = true := decide_eq_true (by omega)
              have zt2 : decide ((a : Int) < (st : Int)) = false := decide_eq_false (by omega)
              have zt3 : decide ((mid : Int) < (en : Int)) = true := decide_eq_true (by omega)
              have zt4 : decide ((en : Int) < (b : Int)) = true := decide_eq_true (by omega)
              go_wp2_with fail
              refine (rotate_any st m en cap rfl rfl rfl HS.out (by omega) (by omega) (by omega) hsz).mono ?_
              rintro e w1 ⟨rfl, d1, hs, hp, hx⟩
              have HS1 := Lib.hid hs
              have HP1 := Lib.hid (Sort.permIn_mono _ _ _ _ a b (by omega) heb hb hp)
              have HR1 := Lib.hid hx
              clear hs hp hx
              have hz1 : d1.size = d.size := HP1.out.1
              obtain ⟨q1, q2, q3, q4⟩ := sym_halves H1.out H2.out (by omega) hsm hme heb henn HR1.out
              have Q1 := Lib.hid q1
              have Q2 := Lib.hid q2
              have Q3 := Lib.hid q3
              have Q4 := Lib.hid q4
              clear q1 q2 q3 q4
              obtain ⟨d2, hd2⟩ : ∃ d2, d2 = d1 := ⟨_, rfl⟩
              have HS2 : Hid (SS w0 q o d2 _) := Lib.hid (hd2 ▸ HS1.out)
              have HP2 : Hid (Sort.PermIn a mid d1 d2) := Lib.hid (hd2 ▸ Sort.permIn_refl _ _ _)
              have HO2 : Hid (Sort.SortedIn ltE a mid d2) := Lib.hid (by
                subst hd2
                have e : a = st := by omega
                rw [e]
                exact Q2.out)
              clear hd2
              have hz2 : d2.size = d.size := HP2.out.1.trans hz1
              have Q5 := Lib.hid (sorted_off HP2.out Q3.out (.inl (Nat.le_refl _)))
              have Q6 := Lib.hid (sorted_off HP2.out Q4.out (.inl hde))
              go_wp2_with fail
              rw [← hz2]
              refine (IH.out mid en b d2 _ _ _ _ rfl rfl rfl HS2.out (by omega) (by omega) (by omega) (by omega) (by omega) Q5.out Q6.out).mono ?_
              rintro e w3 ⟨rfl, d3, hs, hp, hx⟩
              have HS3 := Lib.hid hs
              have HP3 := Lib.hid hp
              have HO3 := Lib.hid hx
              clear hs hp hx
              try go_wp2
              go_end0
              exact ⟨rfl, d3, HS3.out, sym_join swo_ltE hb H1.out H2.out (by omega) hsm hme heb henn (by omega) (by omega) HX.out HY.out HP1.out HR1.out HP2.out HO2.out HP3.out HO3.out⟩
            · skip
              have zt0 : decide ((st : Int) < (m : Int)) = true := decide_eq_true (by omega)
              have zt1 : decide ((m : Int) < (en : Int)) = true := decide_eq_true (by omega)
              have zt2 : decide ((a : Int) < (st : Int)) = false := decide_eq_false (by omega)
              have zt3 : decide ((mid : Int) < (en : Int)) = true := decide_eq_true (by omega)
              have zt4 : decide ((en : Int) < (b : Int)) = false := decide_eq_false (by omega)
              go_wp2_with fail
              refine (rotate_any st m en cap rfl rfl rfl HS.out (by omega) (by omega) (by omega) hsz).mono ?_
              rintro e w1 ⟨rfl, d1, hs, hp, hx⟩
              have HS1 := Lib.hid hs
              have HP1 := Lib.hid (Sort.permIn_mono _ _ _ _ a b (by omega) heb hb hp)
              have HR1 := Lib.hid hx
              clear hs hp hx
              have hz1 : d1.size = d.size := HP1.out.1
              obtain ⟨q1, q2, q3, q4⟩ := sym_halves H1.out H2.out (by omega) hsm hme heb henn HR1.out
              have Q1 := Lib.hid q1
              have Q2 := Lib.hid q2
              have Q3 := Lib.hid q3
              have Q4 := Lib.hid q4
              clear q1 q2 q3 q4
              obtain ⟨d2, hd2⟩ : ∃ d2, d2 = d1 := ⟨_, rfl⟩
              have HS2 : Hid (SS w0 q o d2 _) := Lib.hid (hd2 ▸ HS1.out)
              have HP2 : Hid (Sort.PermIn a mid d1 d2) := Lib.hid (hd2 ▸ Sort.permIn_refl _ _ _)
              have HO2 : Hid (Sort.SortedIn ltE a mid d2) := Lib.hid (by
                subst hd2
                have e : a = st := by omega
                rw [e]
                exact Q2.out)
              clear hd2
              have hz2 : d2.size = d.size := HP2.out.1.trans hz1
              have Q5 := Lib.hid (sorted_off HP2.out Q3.out (.inl (Nat.le_refl _)))
              have Q6 := Lib.hid (sorted_off HP2.out Q4.out (.inl hde))
              obtain ⟨d3, hd3⟩ : ∃ d3, d3 = d2 := ⟨_, rfl⟩
              have HS3 : Hid (SS w0 q o d3 _) := Lib.hid (hd3 ▸ HS2.out)
              have HP3 : Hid (Sort.PermIn mid b d2 d3) := Lib.hid (hd3 ▸ Sort.permIn_refl _ _ _)
              have HO3 : Hid (Sort.SortedIn ltE mid b d3) := Lib.hid (by
                subst hd3
                have e : en = b := by omega
                rw [← e]
                exact Q5.out)
              clear hd3
              try go_wp2
              go_end0
              exact ⟨rfl, d3, HS3.out, sym_join swo_ltE hb H1.out H2.out (by omega) hsm hme heb henn (by omega) (by omega) HX.out HY.out HP1.out HR1.out HP2.out HO2.out HP3.out HO3.out⟩
        · skip
          by_cases hB : m < mid
          · skip
            have zt0 : decide ((st : Int) < (m : Int)) = false := decide_eq_false (by omega)
            have zt1 : decide ((a : Int) < (st : Int)) = true := decide_eq_true (by omega)
            have zt2 : decide ((st : Int) < (mid : Int)) = true := decide_eq_true (by omega)
            have zt3 : decide ((mid : Int) < (en : Int)) = false := decide_eq_false (by omega)
            obtain ⟨d1, hd1⟩ : ∃ d1, d1 = d := ⟨_, rfl⟩
            have HS1 : Hid (SS w0 q o d1 wr) := Lib.hid (hd1 ▸ HS.out)
            have HP1 : Hid (Sort.PermIn a b d d1) := Lib.hid (hd1 ▸ Sort.permIn_refl _ _ _)
            have HR1 : Hid (∀ k, d1[k]! = rot (fun k => d[k]!) st m en k) := Lib.hid (fun k => by
              subst hd1
              have e : st = m := by omega
              subst e
              exact (rot_start _ hme k).symm)
            clear hd1
            have hz1 : d1.size = d.size := HP1.out.1
            obtain ⟨q1, q2, q3, q4⟩ := sym_halves H1.out H2.out (by omega) hsm hme heb henn HR1.out
            have Q1 := Lib.hid q1
            have Q2 := Lib.hid q2
            have Q3 := Lib.hid q3
            have Q4 := Lib.hid q4
            clear q1 q2 q3 q4
            go_wp2_with fail
            rw [← hz1]
            refine (IH.out a st mid d1 _ _ _ _ rfl rfl rfl HS1.out (by omega) (by omega) (by omega) (by omega) (by omega) Q1.out Q2.out).mono ?_
            rintro e w2 ⟨rfl, d2, hs, hp, hx⟩
            have HS2 := Lib.hid hs
            have HP2 := Lib.hid hp
            have HO2 := Lib.hid hx
            clear hs hp hx
            have hz2 : d2.size = d.size := HP2.out.1.trans hz1
            have Q5 := Lib.hid (sorted_off HP2.out Q3.out (.inl (Nat.le_refl _)))
            have Q6 := Lib.hid (sorted_off HP2.out Q4.out (.inl hde))
            obtain ⟨d3, hd3⟩ : ∃ d3, d3 = d2 := ⟨_, rfl⟩
            have HS3 : Hid (SS w0 q o d3 _) := Lib.hid (hd3 ▸ HS2.out)
            have HP3 : Hid (Sort.PermIn mid b d2 d3) := Lib.hid (hd3 ▸ Sort.permIn_refl _ _ _)
            have HO3 : Hid (Sort.SortedIn ltE mid b d3) := Lib.hid (by
              subst hd3
              have e : mid = en := by omega
              rw [e]
              exact Q6.out)
            clear hd3
            try go_wp2
            go_end0
            exact ⟨rfl, d3, HS3.out, sym_join swo_ltE hb H1.out H2.out (by omega) hsm hme heb henn (by omega) (by omega) HX.out HY.out HP1.out HR1.out HP2.out HO2.out HP3.out HO3.out⟩
          · skip
            have zt0 : decide ((st : Int) < (m : Int)) = false := decide_eq_false (by omega)
            have zt1 : decide ((a : Int) < (st : Int)) = true := decide_eq_true (by omega)
            have zt2 : decide ((st : Int) < (mid : Int)) = false := decide_eq_false (by omega)
            have zt3 : decide ((mid : Int) < (en : Int)) = false := decide_eq_false (by omega)
            obtain ⟨d1, hd1⟩ : ∃ d1, d1 = d := ⟨_, rfl⟩
            have HS1 : Hid (SS w0 q o d1 wr) := Lib.hid (hd1 ▸ HS.out)
            have HP1 : Hid (Sort.PermIn a b d d1) := Lib.hid (hd1 ▸ Sort.permIn_refl _ _ _)
            have HR1 : Hid (∀ k, d1[k]! = rot (fun k => d[k]!) st m en k) := Lib.hid (fun k => by
              subst hd1
              have e : st = m := by omega
              subst e
              exact (rot_start _ hme k).symm)
            clear hd1
            have hz1 : d1.size = d.size := HP1.out.1
            obtain ⟨q1, q2, q3, q4⟩ := sym_halves H1.out H2.out (by omega) hsm hme heb henn HR1.out
            have Q1 := Lib.hid q1
            have Q2 := Lib.hid q2
            have Q3 := Lib.hid q3
            have Q4 := Lib.hid q4
            clear q1 q2 q3 q4
            obtain ⟨d2, hd2⟩ : ∃ d2, d2 = d1 := ⟨_, rfl⟩
            have HS2 : Hid (SS w0 q o d2 _) := Lib.hid (hd2 ▸ HS1.out)
            have HP2 : Hid (Sort.PermIn a mid d1 d2) := Lib.hid (hd2 ▸ Sort.permIn_refl _ _ _)
            have HO2 : Hid (Sort.SortedIn ltE a mid d2) := Lib.hid (by
              subst hd2
              have e : st = mid := by omega
              rw [← e]
              exact Q1.out)
            clear hd2
            have hz2 : d2.size = d.size := HP2.out.1.trans hz1
            have Q5 := Lib.hid (sorted_off HP2.out Q3.out (.inl (Nat.le_refl _)))
            have Q6 := Lib.hid (sorted_off HP2.out Q4.out (.inl hde))
            obtain ⟨d3, hd3⟩ : ∃ d3, d3 = d2 := ⟨_, rfl⟩
            have HS3 : Hid (SS w0 q o d3 _) := Lib.hid (hd3 ▸ HS2.out)
            have HP3 : Hid (Sort.PermIn mid b d2 d3) := Lib.hid (hd3 ▸ Sort.permIn_refl _ _ _)
            have HO3 : Hid (Sort.SortedIn ltE mid b d3) := Lib.hid (by
              subst hd3
              have e : mid = en := by omega
              rw [e]
              exact Q6.out)
            clear hd3
            try go_wp2
            go_end0
            exact ⟨rfl, d3, HS3.out, sym_join swo_ltE hb H1.out H2.out (by omega) hsm hme heb henn (by omega) (by omega) HX.out HY.out HP1.out HR1.out HP2.out HO2.out HP3.out HO3.out⟩
theorem symMerge_any {w0 : World} {q o cap : Nat} : ∀ N, MergeAt w0 q o cap N := by
  intro N
  induction N with
  | zero => intro a m b d w ai mi bi _ _ _ _ h1 h2 _ _ h3; omega
  | succ N ih =>
    intro a m b d w ai mi bi hai hmi hbi h ham hmb hb hsz hN h1 h2
    by_cases ha : m = a + 1
    · subst ha
      exact symMerge_A a b cap hai (by omega) hbi h hmb hb hsz h2
    · by_cases hb1 : b = m + 1
      · subst hb1
        exact symMerge_B a m cap hai hmi (by omega) h ham ha hb hsz h1
      · subst hai; subst hmi; subst hbi
        exact symMerge_C ih a m b d w h ham hmb ha hb1 hb hsz hN h1 h2
end Go.Proofs.Ytppejoccljfblaa
