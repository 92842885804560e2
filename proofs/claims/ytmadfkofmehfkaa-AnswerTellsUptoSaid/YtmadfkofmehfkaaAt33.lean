/-
  The law's plain of chapter 30: whether variables and numbers of answers have nothing besides. No condition but how they lie, and how great they are.
-/
import Derived.Test.YtmadfkofmehfkaaAt32
import Derived.Test.YtmadfkofmehfkaaAt24
namespace Go.Proofs.Ytmadfkofmehfkaa
open Go.RowKit Go.Maps

def plainA (l : List Ans) : Bool := l.all fun x => plainB (tupT x)
set_option maxRecDepth 100000 in
set_option maxHeartbeats 20000000 in
theorem plain30_any {l : List Ans} {n cap : Nat} {a : Option Addr} (w : World) (h : MemW w (.s 5 (ansRows l)) (.slice a n cap)) (hs : ∀ y ∈ l, y.fit) :
    Calls Try.prog 18 #[.slice a n cap] w fun e w' => e = .returned (.bool (plainA l)) ∧ Below w.heap.size w w' := by
  have hl := ans_len h
  have HLN := Lib.hid hl.1
  have hcap0 := hl.2.1
  have hmx0 := hl.2.2
  have H := Lib.hid h
  have HS := Lib.hid hs
  clear hl h hs
  go_enter Try.func18, Try.ntmps18
  go_wp2
  go_loopw [9] (fun i wr => ∃ k : Nat, k ≤ n ∧ i = .int .i64 k ∧ Hid ((l.take k).all (fun x => plainB (tupT x)) = true) ∧ Hid (Below w.heap.size w wr)) (fun i _ => n - (intOf i).toNat)
  case atStart => exact ⟨0, Nat.zero_le _, rfl, Lib.hid (by rw [List.take_zero]; rfl), Lib.hid (Below.refl _ _)⟩
  case round =>
    obtain ⟨ko, hko, rfl, HAO, HBO⟩ := hrel
    rename World => wo
    by_cases hlto : ko < n
    · have hltoz : (ko : Int) < (n : Int) := by omega
      obtain ⟨bo, oo, y, ab, nb, cb, ay, ny, capy, rfl, hbBo, Hy, y0, y1, y2, y3, y4, GB, GV⟩ := ans_at (MemW.keep H.out HBO.out) ko hlto
      have HF := Lib.hid (HS.out y (mem_of_at Hy.out))
      have HW1 := Lib.hid (below_new wo (.cells #[.slice ab nb cb, .int .i64 y.value.kind, .string y.value.name, .int .i64 y.value.n, .slice ay ny capy] 48))
      have HYW : Hid (AnsW (wo.alloc (.cells #[.slice ab nb cb, .int .i64 y.value.kind, .string y.value.name, .int .i64 y.value.n, .slice ay ny capy] 48)) y ab nb cb ay ny capy) := Lib.hid (AnsW.keep ⟨GB.out, GV.out⟩ HW1.out)
      have HT := Lib.hid (show (l.take (ko + 1)).all (fun x => plainB (tupT x)) = plainB (tupT y) by rw [take_at Hy.out, List.all_append, HAO.out]; simp)
      have HFA : Hid (plainB (tupT y) = false → plainA l = false) := Lib.hid fun h => by
        rw [Bool.eq_false_iff]
        intro hall
        have := List.all_eq_true.1 hall y (mem_of_at Hy.out)
        simp only [h] at this
        cases this
      go_wp2_with fail
      refine (tuple3_any _ HYW.out (HF.out.binds HYW.out)).mono ?_
      rintro e w1 ⟨a1, n1, c1, rfl, hb1, hm1⟩
      have HM1 := Lib.hid hm1
      have HB1 := Lib.hid (HBO.out.trans ((HW1.out.trans (hb1.mono HW1.out.size)).mono HBO.out.size))
      clear hb1 hm1 y0 y1 y2 y3 y4
      go_wp2_with fail
      refine (all03 (t := tupT y) HF.out.big HM1.out (Nat.le_refl _)).mono ?_
      rintro e w2 ⟨aa, m, ca, rfl, hb, hm⟩
      have HB2 := Lib.hid (HB1.out.trans (hb.mono HB1.out.size))
      have HM : Hid (Tms w2 (tupT y).all aa m ca) := Lib.hid (hm.mono (fun _ hb => hb.2) fun _ _ => rfl)
      have hcap := HM.out.len.2.1
      have hmx := HM.out.len.2.2
      have HL := Lib.hid HM.out.len.1
      clear hb hm
      go_wp2_with fail
      go_loopw [17] (fun i wr => ∃ k : Nat, k ≤ m ∧ i = .int .i64 k ∧ Hid (((tupT y).all.take k).all (fun x => !oddB x) = true) ∧ Hid (Below w2.heap.size w2 wr)) (fun i _ => m - (intOf i).toNat)
      case atStart => exact ⟨0, Nat.zero_le _, rfl, Lib.hid (by rw [List.take_zero]; rfl), Lib.hid (Below.refl _ _)⟩
      case round =>
        obtain ⟨k, hk, rfl, HA, HB⟩ := hrel
        by_cases hlt : k < m
        · have hltz : (k : Int) < (m : Int) := by omega
          obtain ⟨b, o, x, ax, nx, capx, rfl, hbB, Hx, x0, x1, x2, x3, GX⟩ := Tms.at (HM.out.keep HB.out) k hlt
          have HBA := Lib.hid (HB.out.alloc HB.out.size (.cells #[.int .i64 x.kind, .string x.name, .int .i64 x.n, .slice ax nx capx] 24))
          have HNX : Hid (x.args.length = nx) := Lib.hid GX.out.len.1
          have HT1 : Hid (((tupT y).all.take (k + 1)).all (fun x => !oddB x) = !oddB x) := Lib.hid (by rw [take_at Hx.out, List.all_append, HA.out]; simp)
          have HBF : Hid (oddB x = true → ((tupT y).all.all fun x => !oddB x) = false) := Lib.hid (fun h => by
            rw [Bool.eq_false_iff]
            intro hall
            have := List.all_eq_true.1 hall x (mem_of_at Hx.out)
            rw [h] at this
            cases this)
          have HBW := Lib.hid (HB2.out.trans (HBA.out.mono HB2.out.size))
          by_cases h3 : x.kind = 3
          · have e1 : (x.kind == 3) = true := by rw [beq_iff_eq]; exact h3
            clear h3
            by_cases h0 : 0 < nx
            · have e3 : decide (0 < nx) = true := decide_eq_true h0
              have HBX : Hid (oddB x = true) := Lib.hid (by rw [oddB, e1, Bool.true_or, Bool.true_and, HNX.out, e3]; rfl)
              have h0z : (0 : Int) < (nx : Int) := by omega
              clear h0
              go_wp2
              go_ret
              exact ⟨ret_bool (HFA.out (by rw [plainB, HBF.out HBX.out])).symm, HBW.out⟩
            · obtain rfl : nx = 0 := by omega
              have e3 : decide (0 < 0) = false := rfl
              by_cases hs : x.name = ⟨#[]⟩
              · have HBX : Hid (oddB x = false) := Lib.hid (by rw [oddB, e1, Bool.true_or, Bool.true_and, HNX.out, e3, hs]; rfl)
                have e4 : (x.name.toList == []) = true := by rw [hs, ByteArray.toList_eq]; rfl
                have e5 : (x.name == ⟨#[]⟩) = true := by rw [beq_iff_eq]; exact hs
                clear hs h0
                go_wp2
                go_roundw
                case rel => exact ⟨k + 1, by omega, by go_num, Lib.hid (by rw [HT1.out, HBX.out]; rfl), HBA⟩
                case measure => simp [intOf]; omega
              · have HBX : Hid (oddB x = true) := Lib.hid (by rw [oddB, e1, Bool.true_or, Bool.true_and, HNX.out, e3, (beq_eq_false_iff_ne.2 hs : (x.name == ⟨#[]⟩) = false)]; rfl)
                have e4 : (x.name.toList == []) = false := by rw [beq_eq_false_iff_ne]; intro e; rw [ByteArray.toList_eq] at e; exact hs (congrArg ByteArray.mk (Array.toList_inj.1 e))
                have e5 : (x.name == ⟨#[]⟩) = false := beq_eq_false_iff_ne.2 hs
                clear hs h0
                go_wp2
                go_ret
                exact ⟨ret_bool (HFA.out (by rw [plainB, HBF.out HBX.out])).symm, HBW.out⟩
          · have e1 : (x.kind == 3) = false := by rw [beq_eq_false_iff_ne]; exact h3
            by_cases h2 : x.kind = 2
            · have e2 : (x.kind == 2) = true := by rw [beq_iff_eq]; exact h2
              clear h3 h2
              by_cases h0 : 0 < nx
              · have e3 : decide (0 < nx) = true := decide_eq_true h0
                have HBX : Hid (oddB x = true) := Lib.hid (by rw [oddB, e1, e2, Bool.false_or, Bool.true_and, HNX.out, e3]; rfl)
                have h0z : (0 : Int) < (nx : Int) := by omega
                clear h0
                go_wp2
                go_ret
                exact ⟨ret_bool (HFA.out (by rw [plainB, HBF.out HBX.out])).symm, HBW.out⟩
              · obtain rfl : nx = 0 := by omega
                have e3 : decide (0 < 0) = false := rfl
                by_cases hs : x.name = ⟨#[]⟩
                · have HBX : Hid (oddB x = false) := Lib.hid (by rw [oddB, e1, e2, Bool.false_or, Bool.true_and, HNX.out, e3, hs]; rfl)
                  have e4 : (x.name.toList == []) = true := by rw [hs, ByteArray.toList_eq]; rfl
                  have e5 : (x.name == ⟨#[]⟩) = true := by rw [beq_iff_eq]; exact hs
                  clear hs h0
                  go_wp2
                  go_roundw
                  case rel => exact ⟨k + 1, by omega, by go_num, Lib.hid (by rw [HT1.out, HBX.out]; rfl), HBA⟩
                  case measure => simp [intOf]; omega
                · have HBX : Hid (oddB x = true) := Lib.hid (by rw [oddB, e1, e2, Bool.false_or, Bool.true_and, HNX.out, e3, (beq_eq_false_iff_ne.2 hs : (x.name == ⟨#[]⟩) = false)]; rfl)
                  have e4 : (x.name.toList == []) = false := by rw [beq_eq_false_iff_ne]; intro e; rw [ByteArray.toList_eq] at e; exact hs (congrArg ByteArray.mk (Array.toList_inj.1 e))
                  have e5 : (x.name == ⟨#[]⟩) = false := beq_eq_false_iff_ne.2 hs
                  clear hs h0
                  go_wp2
                  go_ret
                  exact ⟨ret_bool (HFA.out (by rw [plainB, HBF.out HBX.out])).symm, HBW.out⟩
            · have e2 : (x.kind == 2) = false := by rw [beq_eq_false_iff_ne]; exact h2
              have HBX : Hid (oddB x = false) := Lib.hid (by rw [oddB, e1, e2]; rfl)
              clear h3 h2
              go_wp2
              go_roundw
              case rel => exact ⟨k + 1, by omega, by go_num, Lib.hid (by rw [HT1.out, HBX.out]; rfl), HBA⟩
              case measure => simp [intOf]; omega
        · obtain rfl : k = m := by omega
          have hltz : ¬ (k : Int) < (k : Int) := by omega
          have h1 := HA.out
          rw [List.take_of_length_le (by rw [HL.out]; exact Nat.le_refl _)] at h1
          have HPY : Hid (plainB (tupT y) = true) := Lib.hid h1
          clear h1
          go_wp2
          go_roundw
          case rel => exact ⟨ko + 1, by omega, by go_num, Lib.hid (by rw [HT.out]; exact HPY.out), Lib.hid (HB2.out.trans (HB.out.mono HB2.out.size))⟩
          case measure => simp [intOf]; omega
    · obtain rfl : ko = n := by omega
      have hltoz : ¬ (ko : Int) < (ko : Int) := by omega
      have h1 := HAO.out
      rw [List.take_of_length_le (by rw [HLN.out]; exact Nat.le_refl _)] at h1
      have HF : Hid (plainA l = true) := Lib.hid h1
      clear h1
      go_wp2
      go_ret
      exact ⟨ret_bool HF.out.symm, HBO.out⟩
end Go.Proofs.Ytmadfkofmehfkaa
