/-
  slices.CompactFunc at terms and Same. No condition but how they lie.
-/
import Derived.Test.YtppejoccljfblaaCompact0
import Derived.Test.YtppejoccljfblaaSameTm
import Derived.Test.YtppejoccljfblaaCompare3
namespace Go.Proofs.Ytppejoccljfblaa
open Go.RowKit
attribute [local go_sem ↓] wp_store_O
attribute [local go_sem] stO_eq stB_eq stC_eq stF_eq wrO_set

theorem zeros4_eq (n : Nat) : (Builtin.zeroCells #[.int .i64 0, .string .empty, .int .i64 0, .slice none 0 0] n).toList = zeros4 n := by
  have key : ∀ n, (List.range (n * 4)).map (fun i => (#[Value.int .i64 0, .string .empty, .int .i64 0, .slice none 0 0])[i % 4]!) = zeros4 n := by
    intro n
    induction n with
    | zero => rfl
    | succ n ih =>
      rw [show (n + 1) * 4 = 4 + n * 4 by omega, List.range_add, List.map_append, List.map_map, zeros4, ← ih]
      congr 1
      refine List.map_congr_left fun i _ => ?_
      simp only [Function.comp_apply, Nat.add_mod_left]
  rw [← key n]
  unfold Builtin.zeroCells
  simp
theorem zeros4_one : ∀ (n : Nat), ∀ v ∈ zeros4 n, v.oneCell' = true
  | 0, v, hv => by cases hv
  | n + 1, v, hv => by
    rw [zeros4] at hv
    rcases List.mem_append.1 hv with h | h
    · simp only [List.mem_cons, List.not_mem_nil, or_false] at h
      rcases h with rfl | rfl | rfl | rfl <;> rfl
    · exact zeros4_one n v h
theorem zeros4_len : ∀ n : Nat, (zeros4 n).length = n * 4
  | 0 => rfl
  | n + 1 => by rw [zeros4, List.length_append, zeros4_len n]; show 4 + n * 4 = _; omega
theorem run_clear_terms (ty : TypeId) (w : World) (q p m c : Nat) (hm : 0 < m) (h : ∀ j, j < m * 4 → (w.cell? ⟨q, p + j, none⟩).isSome = true ∧ w.frozen? ⟨q, p + j, none⟩ = false) :
    (Builtin.clear_ #[89] ty #[.slice (some ⟨q, p, none⟩) m c]).run Try.prog w = .ok (.tuple #[]) (w.setCells q p (zeros4 m)) := by
  have hz : (zeroValue 96).run Try.prog w = .ok (.agg #[.int .i64 0, .string .empty, .int .i64 0, .slice none 0 0]) w := Try.zeroValue96 w
  have hs := run_storeCells_cells (P := Try.prog) q p (zeros4 m) 0 w (fun j hj => (h j (by rw [zeros4_len] at hj; omega)).1) (fun j hj => (h j (by rw [zeros4_len] at hj; omega)).2) (zeros4_one m)
  obtain ⟨m', rfl⟩ : ∃ m', m = m' + 1 := ⟨m - 1, by omega⟩
  simp only [Nat.add_zero] at hs
  simp [Builtin.clear_, run_underlying Try.underlying89, hz, Value.cells, zeros4_eq, hs]
/-- The first k terms of a row. -/
def TL (d : Array El) (k : Nat) : List Tm := (d.toList.take k).map (·.t)
theorem get_lt {d : Array El} {k : Nat} (h : k < d.size) : d.toList[k]? = some d[k]! := by
  rw [Array.getElem?_toList]; simp [h]
theorem TL_succ {d : Array El} {k : Nat} (h : k < d.size) : TL d (k + 1) = TL d k ++ [d[k]!.t] := by
  unfold TL
  rw [take_at (get_lt h), List.map_append]; rfl
theorem TL_set {d : Array El} {k : Nat} (h : k < d.size) (x : El) : TL (d.setIfInBounds k x) (k + 1) = TL d k ++ [x.t] := by
  rw [TL_succ (by rw [Array.size_setIfInBounds]; exact h)]
  have e : (d.setIfInBounds k x)[k]! = x := by simp [h]
  rw [e]
  congr 1
  unfold TL
  rw [Array.toList_setIfInBounds, List.take_set_of_le (Nat.le_refl _)]
theorem TL_all (d : Array El) : TL d d.size = d.toList.map (·.t) := by unfold TL; rw [List.take_of_length_le (by simp)]
theorem TL_congr {d d' : Array El} (hs : d'.size = d.size) : ∀ {k : Nat}, k ≤ d.size → (∀ i, i < k → d'[i]! = d[i]!) → TL d' k = TL d k := by
  intro k
  induction k with
  | zero => intro _ _; rfl
  | succ k ih =>
    intro hk h
    rw [TL_succ (by omega), TL_succ (by omega), ih (by omega) (fun i hi => h i (by omega)), h k (by omega)]
theorem cT_step {d : Array El} {p : Nat} (h1 : 1 ≤ p) (h : p < d.size) : cT (TL d (p + 1)) = if d[p]!.t = d[p - 1]!.t then cT (TL d p) else cT (TL d p) ++ [d[p]!.t] := by
  obtain ⟨r, rfl⟩ : ∃ r, p = r + 1 := ⟨p - 1, by omega⟩
  rw [TL_succ h, TL_succ (show r < d.size by omega)]
  exact cT_snoc _ _ _
theorem cT_fresh {d : Array El} : ∀ {k : Nat}, k ≤ d.size → (∀ i, 1 ≤ i → i < k → d[i]!.t ≠ d[i - 1]!.t) → cT (TL d k) = TL d k := by
  intro k
  induction k with
  | zero => intro _ _; rfl
  | succ k ih =>
    intro hk h
    by_cases h0 : k = 0
    · subst h0; rw [TL_succ (by omega)]; rfl
    · rw [cT_step (by omega) (by omega), if_neg (h k (by omega) (by omega)), ih (by omega) (fun i h1 h2 => h i h1 (by omega)), TL_succ (by omega)]
theorem Row.c4' {w : World} {q o : Nat} {d : Array El} (h : Row w q o d) {i p : Nat} (hi : i < d.size) {e : El} (he : d[i]! = e) (hp : p = o + i * 4) : w.cell? ⟨q, p, none⟩ = some (.int .i64 e.t.kind) ∧ w.cell? ⟨q, p + 1, none⟩ = some (.string e.t.name) ∧ w.cell? ⟨q, p + 2, none⟩ = some (.int .i64 e.t.n) ∧ w.cell? ⟨q, p + 3, none⟩ = some (.slice e.a e.n e.cap) := by
  subst hp; exact h.c4 hi he
/-- What stands behind the call. -/
structure Cut (w0 : World) (q o : Nat) (d : Array El) (k : Nat) (d' : Array El) (w : World) : Prop where
  ss : SS w0 q o d' w
  size : d'.size = d.size
  le : k ≤ d.size
  tl : TL d' k = cT (TL d d.size)

set_option maxRecDepth 100000 in
set_option maxHeartbeats 2000000 in
theorem compact_any {w0 w : World} {q o cap : Nat} {d : Array El} (h : SS w0 q o d w) (h2 : 2 ≤ d.size) (hsz : d.size ≤ 100000) (hcap : d.size ≤ cap) (hmx : cap ≤ 9223372036854775807) :
    Calls Try.prog 113 #[.slice (some ⟨q, o, none⟩) d.size cap, .func (.func 114) #[] #[]] w fun e w' => ∃ k d', e = .returned (.slice (some ⟨q, o, none⟩) k cap) ∧ Cut w0 q o d k d' w' := by
  have H := Lib.hid h
  clear h
  obtain ⟨n, hn⟩ : ∃ n, d.size = n := ⟨_, rfl⟩
  rw [hn] at h2 hsz hcap ⊢
  have hn2 : ¬ (n : Int) < 2 := by omega
  go_enter Try.func113, Try.ntmps113
  go_wp2
  go_loopw [5] (fun v wr => ∃ k : Nat, v = .int .i64 k ∧ 1 ≤ k ∧ k ≤ n ∧ Hid (SS w0 q o d wr) ∧ Hid (∀ i, 1 ≤ i → i < k → d[i]!.t ≠ d[i - 1]!.t)) (fun v _ => n - (intOf v).toNat)
  case atStart => exact ⟨1, rfl, Nat.le_refl _, by omega, H.out, fun i h1 h2 => by omega⟩
  case round =>
    obtain ⟨k, rfl, hk1, hkn, HS, HD⟩ := hrel
    by_cases hlt : k < n
    · have hltz : (k : Int) < (n : Int) := by omega
      obtain ⟨kp, rfl⟩ : ∃ kp, k = kp + 1 := ⟨k - 1, by omega⟩
      obtain ⟨ex, hex⟩ : ∃ x, d[kp + 1]! = x := ⟨_, rfl⟩
      obtain ⟨ey, hey⟩ : ∃ x, d[kp]! = x := ⟨_, rfl⟩
      have hx1 : kp + 1 < d.size := by omega
      have hy1 : kp < d.size := by omega
      have XJ := Lib.hid hex
      have XP := Lib.hid hey
      clear hex hey
      obtain ⟨x0, x1, x2, x3⟩ := HS.out.row.c4 hx1 XJ.out
      obtain ⟨y0, y1, y2, y3⟩ := HS.out.row.c4 hy1 XP.out
      have MX := Lib.hid (HS.out.drew.mem hx1 XJ.out)
      have MY := Lib.hid (HS.out.drew.mem hy1 XP.out)
      have p0 : (0 : Int) ≤ (kp : Int) + 1 := by omega
      have jz : (kp : Int) + 1 < (n : Int) := by omega
      have jz1 : (kp : Int) < (n : Int) := by omega
      have e0 : ((kp : Int) + 1).toNat = kp + 1 := by omega
      have w1 : IntKind.i64.wrap ((kp : Int) + 1 - 1) = (kp : Int) := by rw [IntKind.wrap_i64]; omega
      have w2 : IntKind.i64.wrap (kp : Int) = (kp : Int) := by rw [IntKind.wrap_i64]; omega
      by_cases hc : cmpT ex.t ey.t = 0
      · have hd : (cmpT ex.t ey.t == 0) = true := by rw [beq_iff_eq]; exact hc
        have HE : Hid (d[kp + 1]!.t = d[kp]!.t) := Lib.hid (by rw [XJ.out, XP.out]; exact (cmpT_zero _ _).1 hc)
        clear hc
        have hkc : ¬ cap = kp + 1 := by omega
        have hkc2 : (kp : Int) + 1 ≤ (cap : Int) := by omega
        go_wp2
        go_still_tail 10, (by kernel_rfl)
        change wpList _ _ _ _ _ wr.drew
        go_wp2_with (first | (go_at_call 114 ; refine (sameTm2 _ MX.out MY.out).mono ?_; rintro e w2 ⟨rfl, hb⟩; have HB2 := Lib.hid hb; clear hb))
        have HS0 := Lib.hid (HS.out.drew.keep HB2.out)
        have HF0 := Lib.hid (cT_fresh (d := d) (k := kp + 1) (by omega) HD.out)
        clear x0 x1 x2 x3 y0 y1 y2 y3 MX MY HB2 HS hd
        obtain ⟨m2, hm2⟩ : ∃ m2, n - (kp + 1) = m2 := ⟨_, rfl⟩
        obtain ⟨c2, hc2⟩ : ∃ c2, cap - (kp + 1) = c2 := ⟨_, rfl⟩
        have hmc : m2 ≤ c2 := by omega
        have hmn : kp + 1 + m2 = n := by omega
        simp only [hm2, hc2]
        go_loopw [5, 7] (fun v v2 wr => ∃ (k k2 : Nat) (dk : Array El), v = .int .i64 k ∧ v2 = .int .i64 k2 ∧ 1 ≤ k2 ∧ k2 ≤ m2 ∧ 1 ≤ k ∧ k + 1 ≤ kp + 1 + k2 ∧ dk.size = n ∧ Hid (SS w0 q o dk wr) ∧ Hid (∀ i, kp + k2 ≤ i → dk[i]! = d[i]!) ∧ Hid (TL dk k = cT (TL d (kp + 1 + k2)))) (fun _ v2 _ => m2 - (intOf v2).toNat)
        case atStart => exact ⟨kp + 1, 1, d, by go_num, rfl, Nat.le_refl _, by omega, by omega, by omega, hn, HS0.out, fun i _ => rfl, Lib.hid (by have h := cT_step (d := d) (p := kp + 1) (by omega) hx1; rw [Nat.add_sub_cancel, if_pos HE.out] at h; rw [h, HF0.out])⟩
        case round =>
          obtain ⟨k, k2, dk, rfl, rfl, hk21, hk2m, hk1', hkk, hsk, HS, HI, HT⟩ := hrel
          by_cases hlt2 : k2 < m2
          · have hltz2 : (k2 : Int) < (m2 : Int) := by omega
            obtain ⟨kq, rfl⟩ : ∃ kq, k2 = kq + 1 := ⟨k2 - 1, by omega⟩
            obtain ⟨fx, hfx⟩ : ∃ x, dk[kp + 1 + (kq + 1)]! = x := ⟨_, rfl⟩
            obtain ⟨fy, hfy⟩ : ∃ x, dk[kp + 1 + kq]! = x := ⟨_, rfl⟩
            have hx2 : kp + 1 + (kq + 1) < dk.size := by omega
            have hy2 : kp + 1 + kq < dk.size := by omega
            have hw2 : k < dk.size := by omega
            have EX : Hid (d[kp + 1 + (kq + 1)]! = fx) := Lib.hid (by rw [← hfx, HI.out _ (by omega)])
            have EY : Hid (d[kp + 1 + kq]! = fy) := Lib.hid (by rw [← hfy, HI.out _ (by omega)])
            have FX := Lib.hid hfx
            have FY := Lib.hid hfy
            clear hfx hfy
            obtain ⟨x0, x1, x2, x3⟩ := HS.out.row.c4' (p := o + (kp + 1) * 4 + (kq + 1) * 4) hx2 FX.out (by omega)
            obtain ⟨y0, y1, y2, y3⟩ := HS.out.row.c4' (p := o + (kp + 1) * 4 + kq * 4) hy2 FY.out (by omega)
            have MX := Lib.hid (HS.out.drew.mem hx2 FX.out)
            have MY := Lib.hid (HS.out.drew.mem hy2 FY.out)
            have q0 : (0 : Int) ≤ (kq : Int) + 1 := by omega
            have qz : (kq : Int) + 1 < (m2 : Int) := by omega
            have qz1 : (kq : Int) < (m2 : Int) := by omega
            have f0 : ((kq : Int) + 1).toNat = kq + 1 := by omega
            have u1 : IntKind.i64.wrap ((kq : Int) + 1 - 1) = (kq : Int) := by rw [IntKind.wrap_i64]; omega
            have u2 : IntKind.i64.wrap (kq : Int) = (kq : Int) := by rw [IntKind.wrap_i64]; omega
            have kz : (k : Int) < (n : Int) := by omega
            have HCS := Lib.hid (cT_step (d := d) (p := kp + 1 + (kq + 1)) (by omega) (by omega))
            by_cases hc : cmpT fx.t fy.t = 0
            · have hd : (cmpT fx.t fy.t == 0) = true := by rw [beq_iff_eq]; exact hc
              have HT2 : Hid (TL dk k = cT (TL d (kp + 1 + (kq + 1) + 1))) := Lib.hid (by
                have h1 := HCS.out
                rw [show kp + 1 + (kq + 1) - 1 = kp + 1 + kq by omega, EX.out, EY.out, if_pos ((cmpT_zero _ _).1 hc)] at h1
                rw [h1]; exact HT.out)
              clear hc
              go_wp2
              go_still_tail 10, (by kernel_rfl)
              change wpList _ _ _ _ _ wr.drew
              go_wp2_with (first | (go_at_call 114 ; refine (sameTm2 _ MX.out MY.out).mono ?_; rintro e w2 ⟨rfl, hb⟩; have HB2 := Lib.hid hb; clear hb))
              go_roundw
              case rel => exact ⟨k, kq + 1 + 1, dk, rfl, by go_num, by omega, by omega, hk1', by omega, hsk, HS.out.drew.keep HB2.out, fun i hi => HI.out i (by omega), HT2.out⟩
              case measure => simp [intOf] <;> omega
            · have hd : (cmpT fx.t fy.t == 0) = false := by rw [beq_eq_false_iff_ne]; exact hc
              have HT2 : Hid (TL (dk.setIfInBounds k fx) (k + 1) = cT (TL d (kp + 1 + (kq + 1) + 1))) := Lib.hid (by
                have h1 := HCS.out
                rw [show kp + 1 + (kq + 1) - 1 = kp + 1 + kq by omega, EX.out, EY.out, if_neg (fun e => hc ((cmpT_zero _ _).2 e))] at h1
                rw [h1, TL_set hw2, HT.out])
              clear hc
              go_wp2
              go_still_tail 10, (by kernel_rfl)
              change wpList _ _ _ _ _ wr.drew
              go_wp2_with (first | (go_at_call 114 ; refine (sameTm2 _ MX.out MY.out).mono ?_; rintro e w2 ⟨rfl, hb⟩; have HB2 := Lib.hid hb; have HS2 := Lib.hid (HS.out.drew.keep hb); have v0 := HS2.out.row.wr hw2; clear x0 x1 x2 x3; obtain ⟨x0, x1, x2, x3⟩ := HS2.out.row.c4' (p := o + (kp + 1) * 4 + (kq + 1) * 4) hx2 FX.out (by omega); clear hb))
              go_roundw
              case rel =>
                refine ⟨k + 1, kq + 1 + 1, dk.setIfInBounds k fx, by go_num, by go_num, by omega, by omega, by omega, by omega, by rw [Array.size_setIfInBounds]; exact hsk, HS2.out.put hw2 fx (by have := HS2.out.ok _ hx2; rw [FX.out] at this; exact this), fun i hi => ?_, HT2.out⟩
                rw [← HI.out i (by omega)]
                by_cases hi2 : i < dk.size
                · simp [hi2, show ¬ k = i by omega]
                · simp [hi2]
              case measure => simp [intOf] <;> omega
          · obtain rfl : k2 = m2 := by omega
            have hltz2 : ¬ (k2 : Int) < (k2 : Int) := by omega
            have hkn2 : k < n := by omega
            have hkc3 : ¬ cap = k := by omega
            have hkc4 : (k : Int) ≤ (cap : Int) := by omega
            have hkn4 : (k : Int) ≤ (n : Int) := by omega
            obtain ⟨d', hs', hz', hk'⟩ := SS.clear (n - k) k HS.out (by omega)
            have HS9 := Lib.hid hs'
            have HT9 : Hid (TL d' k = cT (TL d d.size)) := Lib.hid (by rw [TL_congr hz' (by omega) hk', HT.out, hn]; congr 2)
            have hzz : d'.size = d.size := by omega
            have HCL := Lib.hid (run_clear_terms 0 wr q (o + k * 4) (n - k) (cap - k) (by omega) (fun j hj => by
              have := HS.out.row.wr (i := k + j / 4) (by omega) (j % 4) (by omega)
              rw [show o + (k + j / 4) * 4 + j % 4 = o + k * 4 + j by omega] at this
              exact this))
            clear hs' hk' hz'
            have hcl := HCL.out
            go_wp2
            go_ret
            exact ⟨k, rfl, d', HS9.out, hzz, by omega, HT9.out⟩
      · have hd : (cmpT ex.t ey.t == 0) = false := by rw [beq_eq_false_iff_ne]; exact hc
        have HE : Hid (d[kp + 1]!.t ≠ d[kp]!.t) := Lib.hid (by rw [XJ.out, XP.out]; exact fun e => hc ((cmpT_zero _ _).2 e))
        clear hc
        go_wp2
        go_still_tail 10, (by kernel_rfl)
        change wpList _ _ _ _ _ wr.drew
        go_wp2_with (first | (go_at_call 114 ; refine (sameTm2 _ MX.out MY.out).mono ?_; rintro e w2 ⟨rfl, hb⟩; have HB2 := Lib.hid hb; clear hb))
        go_roundw
        case rel =>
          refine ⟨kp + 1 + 1, by go_num, by omega, by omega, HS.out.drew.keep HB2.out, fun i h1 h2 => ?_⟩
          by_cases e : i = kp + 1
          · subst e; exact HE.out
          · exact HD.out i h1 (by omega)
        case measure => simp [intOf] <;> omega
    · have hltz : ¬ (k : Int) < (n : Int) := by omega
      obtain rfl : k = n := by omega
      go_wp2
      go_ret
      exact ⟨k, rfl, d, HS.out, rfl, by omega, by rw [cT_fresh (Nat.le_refl _) (fun i h1 h2 => HD.out i h1 (by omega)), hn]⟩
end Go.Proofs.Ytppejoccljfblaa
