/-
  script.Pack: a session as bytes. No condition but sizes.
-/
import Derived.Test.YtppejoccljfblaaLaid
import Derived.Test.YtppejoccljfblaaAppStr
import Derived.Test.YtppejoccljfblaaRaw
import Derived.StillTailTactics
namespace Go.Proofs.Ytppejoccljfblaa
open Go.RowKit

/-- Three bytes for each of the numbers that fit. -/
def packN (L : List UInt8) : List Int → List UInt8
  | [] => L
  | n :: r => packN (if fitsB n 3 then L ++ laidL n.toNat 3 else L) r
theorem packN_app (L : List UInt8) : ∀ ns : List Int, ns.all (fitsB · 3) = true → packN L ns = L ++ (ns.map fun n => laidL n.toNat 3).flatten
  | [], _ => by simp [packN]
  | n :: r, h => by
    rw [List.all_cons, Bool.and_eq_true] at h
    rw [packN, if_pos h.1, packN_app _ r h.2]; simp
def fitsP (a0 a1 a2 a3 : Int) : Bool := fitsB a0 1 && (fitsB a1 3 && (fitsB a2 3 && fitsB a3 3))
def packL (s g : ByteArray) (a0 a1 a2 a3 : Int) : List UInt8 :=
  laidL a0.toNat 1 ++ laidL a1.toNat 3 ++ laidL a2.toNat 3 ++ laidL a3.toNat 3 ++ laidL s.size 2 ++ s.data.toList ++ g.data.toList
def inI (n : Int) : Prop := -9223372036854775808 ≤ n ∧ n ≤ 9223372036854775807

theorem OwnB.base {b b' : Nat} {w : World} {y : Value} {l : List UInt8} (h : OwnB b w y l) (hb : b' ≤ b) : OwnB b' w y l := by
  refine ⟨h.1, ?_⟩
  rcases h.2 with hn | ⟨g, cap, cur, rfl, hg, rest⟩
  · exact .inl hn
  · exact .inr ⟨g, cap, cur, rfl, by omega, rest⟩
set_option maxRecDepth 100000 in
set_option maxHeartbeats 2000000 in
theorem pack_any (s g : ByteArray) (a0 a1 a2 a3 : Int) (w : World) (h0 : inI a0) (h1 : inI a1) (h2 : inI a2) (h3 : inI a3) (hs : s.size ≤ 20000) (hg : g.size ≤ 20000) :
    Calls Try.prog 24 #[.agg #[.string s, .string g, .int .i64 a0, .int .i64 a1, .int .i64 a2, .int .i64 a3]] w fun e w' => ∃ y', e = .returned (.tuple #[y', .bool (fitsP a0 a1 a2 a3)]) ∧ OwnB w.heap.size w' y' (if fitsP a0 a1 a2 a3 then packL s g a0 a1 a2 a3 else []) ∧ Below w.heap.size w w' := by
  obtain ⟨F, hF⟩ : ∃ F, fitsP a0 a1 a2 a3 = F := ⟨_, rfl⟩
  obtain ⟨R, hR⟩ : ∃ R, (if fitsP a0 a1 a2 a3 then packL s g a0 a1 a2 a3 else []) = R := ⟨_, rfl⟩
  have HF := Lib.hid hF
  have HR := Lib.hid hR
  rw [hR, hF]
  clear hF hR
  have H0 := Lib.hid h0
  have H1 := Lib.hid h1
  have H2 := Lib.hid h2
  have H3 := Lib.hid h3
  clear h0 h1 h2 h3
  have HB := Lib.hid (Bo.new w 27 #[.string s, .string g, .int .i64 a0, .int .i64 a1, .int .i64 a2, .int .i64 a3])
  obtain ⟨x0, x1, x2, x3, x4, x5⟩ := HB.out.c6
  obtain ⟨F0, hF0⟩ : ∃ F0, fitsB a0 1 = F0 := ⟨_, rfl⟩
  obtain ⟨L0, hL0⟩ : ∃ L0, (if fitsB a0 1 then [] ++ laidL a0.toNat 1 else []) = L0 := ⟨_, rfl⟩
  have HF0 := Lib.hid hF0
  have HL0 := Lib.hid hL0
  clear hF0 hL0
  go_enter Try.func24, Try.ntmps24
  go_wp2_with (first
    | (go_at_call 79
       refine (laid_any (base := w.heap.size + 1) a0 1 _ (OwnB.nil _ _) (by omega) H0.out (by simp) (by simp)).mono ?_
       rintro e w1 ⟨y1, rfl, ho, hst⟩
       rw [HL0.out] at ho
       rw [HF0.out]
       have HO1 := Lib.hid ho
       have HS1 := Lib.hid hst
       have HB1 := Lib.hid ((hst.bel.block _ (Nat.lt_succ_self _)).trans HB.out)
       clear ho hst x0 x1 x2 x3 x4 x5
       obtain ⟨x0, x1, x2, x3, x4, x5⟩ := Bo.c6 HB1.out))
  obtain ⟨ns, hns⟩ : ∃ ns : List Int, [a1, a2, a3] = ns := ⟨_, rfl⟩
  obtain ⟨PL, hPL⟩ : ∃ PL, packN L0 ns = PL := ⟨_, rfl⟩
  have HNS := Lib.hid hns
  have HPL := Lib.hid hPL
  clear hns hPL
  have HL1 : Hid (L0.length ≤ 1) := Lib.hid (by rw [← HL0.out]; split <;> simp [laidL_length])
  have HBS := Lib.hid (Bo.new w1 3 #[.int .i64 a1, .int .i64 a2, .int .i64 a3])
  have HNE : Hid (y1.ownBlock ≠ some w1.heap.size) := Lib.hid (fun e => by have := (HO1.out.lt _ e).2; omega)
  have HSZ : Hid (w.heap.size + 1 ≤ w1.heap.size) := Lib.hid (by have := HS1.out.bel.size; rw [World.size_alloc] at this; exact this)
  clear x0 x1 x2 x3 x4 x5
  go_loopw [4, 5, 7, 8, 27] (fun v b _ _ j wr => ∃ (k : Nat) (f : Bool) (L : List UInt8), k ≤ 3 ∧ j = .int .i64 k ∧ b = .bool f ∧ Hid (packN L (ns.drop k) = PL) ∧ Hid ((f && (ns.drop k).all (fitsB · 3)) = F) ∧ Hid (L.length ≤ 1 + 3 * k) ∧ Hid (OwnB (w.heap.size + 1) wr v L) ∧ Hid (Stay (w.heap.size + 1) y1 (w1.alloc (.cells #[.int .i64 a1, .int .i64 a2, .int .i64 a3] 3)) v wr)) (fun _ _ _ _ j _ => 3 - (intOf j).toNat)
  case atStart =>
    refine ⟨0, F0, L0, by omega, rfl, rfl, HPL.out, Lib.hid (by rw [← HNS.out, ← HF.out, ← HF0.out]; simp [fitsP]), by have := HL1.out; omega, HO1.out.keep (below_new _ _), Stay.refl _ _ _⟩
  case round =>
    obtain ⟨k, f, L, hk, rfl, rfl, HP, HA, HL, HO, HS⟩ := hrel
    have HBW : Hid (Bo wr w1.heap.size 3 #[.int .i64 a1, .int .i64 a2, .int .i64 a3]) := Lib.hid ((HS.out.oth _ (by rw [World.size_alloc]; omega) HNE.out).1.trans HBS.out)
    have HWZ : Hid (w.heap.size + 1 ≤ wr.heap.size) := Lib.hid (by have := HS.out.bel.size; rw [World.size_alloc] at this; have := HSZ.out; omega)
    by_cases hlt : k < 3
    · obtain ⟨x, hd, hin, hc⟩ : ∃ x, ns.drop k = x :: ns.drop (k + 1) ∧ inI x ∧ wr.cell? ⟨w1.heap.size, k, none⟩ = some (.int .i64 x) := by
        rw [← HNS.out]
        rcases (show k = 0 ∨ k = 1 ∨ k = 2 by omega) with rfl | rfl | rfl
        · exact ⟨a1, rfl, H1.out, HBW.out.cell (j := 0) rfl⟩
        · exact ⟨a2, rfl, H2.out, HBW.out.cell (j := 1) rfl⟩
        · exact ⟨a3, rfl, H3.out, HBW.out.cell (j := 2) rfl⟩
      have HD := Lib.hid hd
      have HIN := Lib.hid hin
      clear hd hin
      obtain ⟨fx, hfx⟩ : ∃ fx, fitsB x 3 = fx := ⟨_, rfl⟩
      obtain ⟨Lx, hLx⟩ : ∃ Lx, (if fitsB x 3 then L ++ laidL x.toNat 3 else L) = Lx := ⟨_, rfl⟩
      have HFX := Lib.hid hfx
      have HLX := Lib.hid hLx
      clear hfx hLx
      have HPX : Hid (packN Lx (ns.drop (k + 1)) = PL) := Lib.hid (by
        have := HP.out
        rw [HD.out, packN, HLX.out] at this
        exact this)
      have HAX : Hid ((f && fx && (ns.drop (k + 1)).all (fitsB · 3)) = F) := Lib.hid (by
        have := HA.out
        rw [HD.out, List.all_cons, HFX.out, ← Bool.and_assoc] at this
        exact this)
      have HLL : Hid (Lx.length ≤ 1 + 3 * (k + 1)) := Lib.hid (by
        have h1 := HL.out
        rw [← HLX.out]
        split
        · rw [List.length_append, laidL_length]; omega
        · omega)
      cases f
      all_goals
        go_wp2_with (first
          | (go_at_call 79
             refine (laid_any (base := w.heap.size + 1) x 3 _ HO.out (by omega) HIN.out (by have := HL.out; omega) HWZ.out).mono ?_
             rintro e w2 ⟨y2, rfl, ho, hst⟩
             rw [HLX.out] at ho
             rw [HFX.out]
             have HO2 := Lib.hid ho
             have HS2 := Lib.hid hst
             clear ho hst))
      · go_roundw
        case rel => exact ⟨k + 1, false, Lx, by omega, by go_num, rfl, HPX.out, HAX.out, HLL.out, HO2.out, HS.out.trans HS2.out⟩
        case measure => simp [intOf]; omega
      · go_roundw
        case rel => exact ⟨k + 1, fx, Lx, by omega, by go_num, rfl, HPX.out, HAX.out, HLL.out, HO2.out, HS.out.trans HS2.out⟩
        case measure => simp [intOf]; omega
    · have hk3 : k = 3 := by omega
      subst hk3
      have h3 : ns.drop 3 = [] := by rw [← HNS.out]; rfl
      have hp := HP.out
      have ha := HA.out
      rw [h3, packN] at hp
      rw [h3, List.all_nil, Bool.and_true] at ha
      subst hp
      subst ha
      clear h3
      have HBX : Hid (Bo wr w.heap.size 27 #[.string s, .string g, .int .i64 a0, .int .i64 a1, .int .i64 a2, .int .i64 a3]) := Lib.hid ((HS.out.bel.block _ (Nat.lt_succ_self _)).trans ((below_new w1 _).block _ (by have := HSZ.out; omega) |>.trans HB1.out))
      obtain ⟨x0, x1, x2, x3, x4, x5⟩ := HBX.out.c6
      have HFS : fitsB (s.size : Int) 2 = true := by simp [fitsB]; omega
      cases f
      all_goals
        go_wp2_with (first
          | (go_at_call 79
             refine (laid_any (base := w.heap.size + 1) (s.size : Int) 2 _ HO.out (by omega) (by omega) (by have := HL.out; omega) HWZ.out).mono ?_
             rintro e w2 ⟨y2, rfl, ho, hst⟩
             rw [HFS] at ho ⊢
             simp only [if_true, Int.toNat_natCast] at ho
             have HO2 := Lib.hid ho
             have HS2 := Lib.hid hst
             have HB2 := Lib.hid ((hst.bel.block _ (Nat.lt_succ_self _)).trans HBX.out)
             clear ho hst x0 x1 x2 x3 x4 x5
             obtain ⟨x0, x1, x2, x3, x4, x5⟩ := Bo.c6 HB2.out))
      all_goals
        have HBL : Hid (Below w.heap.size w w2) := Lib.hid ((below_new w _).trans ((HS1.out.bel.mono (Nat.le_succ _)).trans (((below_new w1 _).mono (by have := HSZ.out; omega)).trans ((HS.out.bel.mono (Nat.le_succ _)).trans (HS2.out.bel.mono (Nat.le_succ _))))))
      · exact bodyPost_ret (v := .tuple #[.slice none 0 0, .bool false]) (by simp [results, Try.results24, go_sem]) rfl ⟨_, rfl, by rw [← HR.out, HF.out]; exact OwnB.nil _ _, HBL.out⟩
      · have HL2 : Hid ((L ++ laidL s.size 2).length + s.size ≤ 100000) := Lib.hid (by have := HL.out; rw [List.length_append, laidL_length]; omega)
        have HWZ2 : Hid (w.heap.size + 1 ≤ w2.heap.size) := Lib.hid (Nat.le_trans HWZ.out HS2.out.bel.size)
        have HLG : Hid ((L ++ laidL s.size 2 ++ s.data.toList).length + g.size ≤ 100000) := Lib.hid (by have := HL.out; rw [List.length_append, List.length_append, laidL_length]; have : s.data.toList.length = s.size := Array.length_toList; omega)
        go_region_law (first | (refine stepx_app (by rfl) (.tmp 56) (.tmp 58) (by rfl) (by rfl) (by rfl) (app_str _ s HO2.out HL2.out HWZ2.out) ?_; rintro v5 w5 ⟨ho, hst⟩; have HO5 := Lib.hid ho; have HS5 := Lib.hid hst; have HWZ5 : Hid (w.heap.size + 1 ≤ w5.heap.size) := Lib.hid (Nat.le_trans HWZ2.out hst.bel.size); have HB5 := Lib.hid ((hst.bel.block _ (Nat.lt_succ_self _)).trans HB2.out); have z1 := Bo.cell (j := 1) HB5.out rfl; clear ho hst) | (refine stepx_app (by rfl) (.tmp 59) (.tmp 61) (by rfl) (by rfl) (by rfl) (app_str _ g HO5.out HLG.out HWZ5.out) ?_; rintro v6 w6 ⟨ho, hst⟩; have HO6 := Lib.hid ho; have HS6 := Lib.hid hst; clear ho hst))
        all_goals
          have HRR : Hid (L ++ laidL s.size 2 ++ s.data.toList ++ g.data.toList = R) := Lib.hid (by
            have hf := HF.out
            rw [← HR.out, if_pos hf, ← HPL.out, ← HNS.out, ← HL0.out]
            simp only [fitsP, Bool.and_eq_true] at hf
            obtain ⟨f0, f1, f2, f3⟩ := hf
            rw [if_pos f0, packN_app _ _ (by simp [f1, f2, f3])]
            simp [packL])
          go_wp2
        all_goals exact bodyPost_ret (v := .tuple #[v6, .bool true]) (by simp [results, Try.results24, go_sem]) rfl ⟨_, rfl, by rw [← HRR.out]; exact HO6.out.base (Nat.le_succ _), HBL.out.drew.trans ((HS5.out.bel.mono (Nat.le_succ _)).trans (HS6.out.bel.mono (Nat.le_succ _)))⟩
end Go.Proofs.Ytppejoccljfblaa
