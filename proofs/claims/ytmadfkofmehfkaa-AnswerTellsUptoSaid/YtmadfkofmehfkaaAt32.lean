/-
  The law's plain of chapter 4: whether variables and numbers of a term have nothing besides. No condition but how it lies, and how great it is.
-/
import Derived.Test.YtmadfkofmehfkaaAt18
import Derived.Test.YtmadfkofmehfkaaAt19
namespace Go.Proofs.Ytmadfkofmehfkaa
open Go.RowKit Go.Maps

/-- A variable or a number that has something besides. -/
def oddB (x : Tm) : Bool := (x.kind == 3 || x.kind == 2) && (decide (0 < x.args.length) || !(x.name == ⟨#[]⟩))
def plainB (t : Tm) : Bool := t.all.all fun x => !oddB x
theorem plain_of {t : Tm} (h : plainB t = true) : Plain t := by
  intro x hx hk
  have h1 := List.all_eq_true.1 h x hx
  have h2 : oddB x = false := by simpa using h1
  unfold oddB at h2
  have hk' : (x.kind == 3 || x.kind == 2) = true := by rcases hk with hk | hk <;> simp [hk]
  rw [hk', Bool.true_and, Bool.or_eq_false_iff] at h2
  refine ⟨List.length_eq_zero_iff.1 (by have := of_decide_eq_false h2.1; omega), ?_⟩
  have := h2.2
  simpa using this

set_option maxRecDepth 100000 in
set_option maxHeartbeats 20000000 in
theorem plain4_any {t : Tm} {ta : Option Addr} {tn tc : Nat} (w : World) (ht : MemW w (.s 4 (Tm.rows t.args)) (.slice ta tn tc)) (hs : t.size ≤ 1048576) :
    Calls Try.prog 9 #[.agg #[.int .i64 t.kind, .string t.name, .int .i64 t.n, .slice ta tn tc]] w fun e w' => e = .returned (.bool (plainB t)) ∧ Below w.heap.size w w' := by
  have HB0 := Lib.hid (below_new w (.cells #[.int .i64 t.kind, .string t.name, .int .i64 t.n, .slice ta tn tc] 24))
  have HX := Lib.hid (Bo.new w 24 #[.int .i64 t.kind, .string t.name, .int .i64 t.n, .slice ta tn tc])
  have HT := Lib.hid (MemW.keep ht HB0.out)
  have HS := Lib.hid hs
  obtain ⟨x0, x1, x2, x3⟩ := HX.out.c4
  clear ht hs
  go_enter Try.func9, Try.ntmps9
  go_wp2_with fail
  refine (all03 HS.out HT.out (Nat.le_refl _)).mono ?_
  rintro e w2 ⟨aa, n, ca, rfl, hb, hm⟩
  have HB2 := Lib.hid (HB0.out.trans (hb.mono HB0.out.size))
  have HM : Hid (Tms w2 t.all aa n ca) := Lib.hid (hm.mono (fun _ hb => hb.2) fun _ _ => rfl)
  have hcap := HM.out.len.2.1
  have hmx := HM.out.len.2.2
  have HL := Lib.hid HM.out.len.1
  clear hb hm x0 x1 x2 x3
  go_wp2_with fail
  go_loopw [8] (fun i wr => ∃ k : Nat, k ≤ n ∧ i = .int .i64 k ∧ Hid ((t.all.take k).all (fun x => !oddB x) = true) ∧ Hid (Below w2.heap.size w2 wr)) (fun i _ => n - (intOf i).toNat)
  case atStart => exact ⟨0, Nat.zero_le _, rfl, Lib.hid (by rw [List.take_zero]; rfl), Lib.hid (Below.refl _ _)⟩
  case round =>
    obtain ⟨k, hk, rfl, HA, HB⟩ := hrel
    by_cases hlt : k < n
    · have hltz : (k : Int) < (n : Int) := by omega
      obtain ⟨b, o, x, ax, nx, capx, rfl, hbB, Hx, x0, x1, x2, x3, GX⟩ := Tms.at (HM.out.keep HB.out) k hlt
      have HBA := Lib.hid (HB.out.alloc HB.out.size (.cells #[.int .i64 x.kind, .string x.name, .int .i64 x.n, .slice ax nx capx] 24))
      have HNX : Hid (x.args.length = nx) := Lib.hid GX.out.len.1
      have HT1 : Hid ((t.all.take (k + 1)).all (fun x => !oddB x) = !oddB x) := Lib.hid (by rw [take_at Hx.out, List.all_append, HA.out]; simp)
      have HBF : Hid (oddB x = true → (t.all.all fun x => !oddB x) = false) := Lib.hid (fun h => by
        rw [Bool.eq_false_iff]
        intro hall
        have := List.all_eq_true.1 hall x (mem_of_at Hx.out)
        rw [h] at this
        cases this)
      have HBW := Lib.hid (HB2.out.trans (HBA.out.mono HB2.out.size))
      by_cases h3 : x.kind = 3
      · have e1 : (x.kind == 3) = true := by rw [beq_iff_eq]; exact h3
        clear h3
        by_cases h0 : 0 < nx
        · have e3 : decide (0 < nx) = true := decide_eq_true h0
          have HBX : Hid (oddB x = true) := Lib.hid (by rw [oddB, e1, Bool.true_or, Bool.true_and, HNX.out, e3]; rfl)
          have h0z : (0 : Int) < (nx : Int) := by omega
          clear h0
          go_wp2
          go_ret
          exact ⟨ret_bool (by rw [plainB, HBF.out HBX.out]), HBW.out⟩
        · obtain rfl : nx = 0 := by omega
          have e3 : decide (0 < 0) = false := rfl
          by_cases hs : x.name = ⟨#[]⟩
          · have HBX : Hid (oddB x = false) := Lib.hid (by rw [oddB, e1, Bool.true_or, Bool.true_and, HNX.out, e3, hs]; rfl)
            have e4 : (x.name.toList == []) = true := by rw [hs, ByteArray.toList_eq]; rfl
            have e5 : (x.name == ⟨#[]⟩) = true := by rw [beq_iff_eq]; exact hs
            clear hs h0
            go_wp2
            go_roundw
            case rel => exact ⟨k + 1, by omega, by go_num, Lib.hid (by rw [HT1.out, HBX.out]; rfl), HBA⟩
            case measure => simp [intOf]; omega
          · have HBX : Hid (oddB x = true) := Lib.hid (by rw [oddB, e1, Bool.true_or, Bool.true_and, HNX.out, e3, (beq_eq_false_iff_ne.2 hs : (x.name == ⟨#[]⟩) = false)]; rfl)
            have e4 : (x.name.toList == []) = false := by rw [beq_eq_false_iff_ne]; intro e; rw [ByteArray.toList_eq] at e; exact hs (congrArg ByteArray.mk (Array.toList_inj.1 e))
            have e5 : (x.name == ⟨#[]⟩) = false := beq_eq_false_iff_ne.2 hs
            clear hs h0
            go_wp2
            go_ret
            exact ⟨ret_bool (by rw [plainB, HBF.out HBX.out]), HBW.out⟩
      · have e1 : (x.kind == 3) = false := by rw [beq_eq_false_iff_ne]; exact h3
        by_cases h2 : x.kind = 2
        · have e2 : (x.kind == 2) = true := by rw [beq_iff_eq]; exact h2
          clear h3 h2
          by_cases h0 : 0 < nx
          · have e3 : decide (0 < nx) = true := decide_eq_true h0
            have HBX : Hid (oddB x = true) := Lib.hid (by rw [oddB, e1, e2, Bool.false_or, Bool.true_and, HNX.out, e3]; rfl)
            have h0z : (0 : Int) < (nx : Int) := by omega
            clear h0
            go_wp2
            go_ret
            exact ⟨ret_bool (by rw [plainB, HBF.out HBX.out]), HBW.out⟩
          · obtain rfl : nx = 0 := by omega
            have e3 : decide (0 < 0) = false := rfl
            by_cases hs : x.name = ⟨#[]⟩
            · have HBX : Hid (oddB x = false) := Lib.hid (by rw [oddB, e1, e2, Bool.false_or, Bool.true_and, HNX.out, e3, hs]; rfl)
              have e4 : (x.name.toList == []) = true := by rw [hs, ByteArray.toList_eq]; rfl
              have e5 : (x.name == ⟨#[]⟩) = true := by rw [beq_iff_eq]; exact hs
              clear hs h0
              go_wp2
              go_roundw
              case rel => exact ⟨k + 1, by omega, by go_num, Lib.hid (by rw [HT1.out, HBX.out]; rfl), HBA⟩
              case measure => simp [intOf]; omega
            · have HBX : Hid (oddB x = true) := Lib.hid (by rw [oddB, e1, e2, Bool.false_or, Bool.true_and, HNX.out, e3, (beq_eq_false_iff_ne.2 hs : (x.name == ⟨#[]⟩) = false)]; rfl)
              have e4 : (x.name.toList == []) = false := by rw [beq_eq_false_iff_ne]; intro e; rw [ByteArray.toList_eq] at e; exact hs (congrArg ByteArray.mk (Array.toList_inj.1 e))
              have e5 : (x.name == ⟨#[]⟩) = false := beq_eq_false_iff_ne.2 hs
              clear hs h0
              go_wp2
              go_ret
              exact ⟨ret_bool (by rw [plainB, HBF.out HBX.out]), HBW.out⟩
        · have e2 : (x.kind == 2) = false := by rw [beq_eq_false_iff_ne]; exact h2
          have HBX : Hid (oddB x = false) := Lib.hid (by rw [oddB, e1, e2]; rfl)
          clear h3 h2
          go_wp2
          go_roundw
          case rel => exact ⟨k + 1, by omega, by go_num, Lib.hid (by rw [HT1.out, HBX.out]; rfl), HBA⟩
          case measure => simp [intOf]; omega
    · obtain rfl : k = n := by omega
      have hltz : ¬ (k : Int) < (k : Int) := by omega
      have h1 := HA.out
      rw [List.take_of_length_le (by rw [HL.out]; exact Nat.le_refl _)] at h1
      have HF : Hid (plainB t = true) := Lib.hid h1
      clear h1
      go_wp2
      go_ret
      exact ⟨ret_bool HF.out.symm, HB2.out.trans (HB.out.mono HB2.out.size)⟩
end Go.Proofs.Ytmadfkofmehfkaa
