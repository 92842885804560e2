/-
  The reference's Show of any type. No condition but how it lies, its numbers, and how long its names are.
-/
import Derived.Test.YtemkpecagflafaaShowG
namespace Go.Proofs.Ytemkpecagflafaa
open Go.RowKit
attribute [local go_sem] toList_beq conv_one

/-- What is known of the reference's Show at a type. -/
def Show9At (x : Tm) : Prop := ∀ (w : World) (a : Option Addr) (n cap : Nat), MemW w (.s 4 (Tm.rows x.args)) (.slice a n cap) →
  Calls Try.prog 54 #[.agg #[.int .i64 x.kind, .string x.name, .int .i64 x.n, .slice a n cap]] w fun e w' => e = .returned (.string (showT x)) ∧ Below w.heap.size w w'

set_option maxRecDepth 100000 in
set_option maxHeartbeats 2000000 in
theorem show9_letter {t : Tm} {n cap : Nat} {a : Option Addr} (w : World) (hk : t.kind = 1) (h0 : 0 ≤ t.n) (h1 : t.n < 26) :
    Calls Try.prog 54 #[.agg #[.int .i64 t.kind, .string t.name, .int .i64 t.n, .slice a n cap]] w fun e w' => e = .returned (.string (showT t)) ∧ Below w.heap.size w w' := by
  have HF : Hid (showT t = ⟨#[UInt8.ofNat (97 + t.n).toNat]⟩) := Lib.hid (by rw [showT_eq, if_pos hk, if_pos ⟨h0, h1⟩])
  have e1 : (t.kind == 1) = true := by rw [beq_iff_eq]; exact hk
  clear hk
  generalize t.n = m at *
  generalize showT t = s at *
  have hconv := conv_one (w.alloc (.cells #[.int .i64 t.kind, .string t.name, .int .i64 m, .slice a n cap] 52)) (97 + m)
  rw [World.size_alloc] at hconv
  go_enter Try.func54, Try.ntmps54
  go_wp2
  go_ret
  exact ⟨ret_str (by rw [HF.out]), (below_new _ _).alloc (by simp) _⟩

set_option maxRecDepth 100000 in
set_option maxHeartbeats 2000000 in
theorem show9_con {t : Tm} {n cap : Nat} {a : Option Addr} (w : World) (hk : t.kind = 2) (hx : ∀ x ∈ t.args, Show9At x) (hok : t.ok) (hw : t.wt ≤ 1048576) (h : MemW w (.s 4 (Tm.rows t.args)) (.slice a n cap)) :
    Calls Try.prog 54 #[.agg #[.int .i64 t.kind, .string t.name, .int .i64 t.n, .slice a n cap]] w fun e w' => e = .returned (.string (showT t)) ∧ Below w.heap.size w w' := by
  have HF0 : Hid (showT t = t.name ++ showArgs t.args) := Lib.hid (by rw [showT_eq, hk, if_neg (by decide), if_pos rfl])
  have e1 : (t.kind == 1) = false := by rw [hk]; rfl
  have e2 : (t.kind == 2) = true := by rw [hk]; rfl
  have hl := Tms.len h
  have HL := Lib.hid hl.1
  have hcap := hl.2.1
  have hmx := hl.2.2
  have H := Lib.hid h
  have HX := Lib.hid hx
  have HS : Hid (∀ k, (t.name ++ showArgs (t.args.take k)).size ≤ 31457280) := fun k => by
    have h1 := showArgs_size (t.args.take k) fun x hx => showT_size (Tm.ok_arg' hok (List.mem_of_mem_take hx))
    have h2 : Tm.wts (t.args.take k) ≤ Tm.wts t.args := by
      conv => rhs; rw [← List.take_append_drop k t.args, Tm.wts_app]
      omega
    have h3 := t.wt_eq
    rw [ByteArray.size_append]; omega
  have HXS : Hid (∀ x ∈ t.args, (showT x).size ≤ 31457280) := fun x hx => by
    have h1 := showT_size (Tm.ok_arg' hok hx)
    have h2 := Tm.wts_mem hx
    have h3 := t.wt_eq
    omega
  clear hl h hx hok hw hk
  go_enter Try.func54, Try.ntmps54
  go_wp2
  go_loopw [3, 37] (fun v i wr => ∃ k : Nat, k ≤ n ∧ i = .int .i64 k ∧ v = .string (t.name ++ showArgs (t.args.take k)) ∧ Hid (Below w.heap.size w wr)) (fun _ i _ => n - (intOf i).toNat)
  case atStart => exact ⟨0, Nat.zero_le _, rfl, by rw [List.take_zero, showArgs]; show _ = Value.string (t.name ++ ByteArray.empty); rw [ByteArray.append_empty], (below_new _ _)⟩
  case round =>
    obtain ⟨k, hk, rfl, rfl, HB⟩ := hrel
    by_cases hlt : k < n
    · obtain ⟨b, o, x, ax, nx, capx, rfl, hbB, Hx, x0, x1, x2, x3, GX⟩ := (Tms.keep H.out HB.out).at k hlt
      have hm := mem_of_at Hx.out
      have hs1 := HXS.out x hm
      have hs2 := HS.out k
      have hs3 := brk_size (tightT x) (showT x)
      have HSX := Lib.hid (HX.out x hm)
      have HN := Lib.hid (show t.name ++ showArgs (t.args.take (k + 1)) = t.name ++ showArgs (t.args.take k) ++ (⟨#[32]⟩ ++ brk (tightT x) (showT x)) by rw [take_at Hx.out, showArgs_snoc, ByteArray.append_assoc])
      have hcs := tight_cases x nx (Tms.len GX.out).1
      have HC := Lib.hid (Bo.new wr 52 #[.int .i64 x.kind, .string x.name, .int .i64 x.n, .slice ax nx capx])
      have iz3 : ((showT x).size : Int) ≤ 1000000000 := by omega
      clear hm hs3
      generalize hs : t.name ++ showArgs (t.args.take k) = s at *
      have iz1 : (s.size : Int) ≤ 1000000000 := by omega
      have iq1 : ¬ (9223372036854775807 < 1 + (showT x).size) := by omega
      have iq2 : ¬ (9223372036854775807 < s.size + (1 + (showT x).size)) := by omega
      have iq3 : ¬ (9223372036854775807 < 1 + (showT x).size + 1) := by omega
      have iq4 : ¬ (9223372036854775807 < 1 + (1 + (showT x).size + 1)) := by omega
      have iq5 : ¬ (9223372036854775807 < s.size + (1 + (1 + (showT x).size + 1))) := by omega
      clear hs hs1 hs2
      rcases hcs with ⟨k3, hT⟩ | ⟨k3, k2, kn, hT⟩ | ⟨k3, k2, rfl, hT⟩ | ⟨k3, k2, hT⟩
      · have e3 : (x.kind == 3) = true := by rw [beq_iff_eq]; exact k3
        clear k3
        rw [hT] at HN
        clear hT
        go_wp2_with (first
          | (go_at_call 54
             refine (HSX.out _ ax nx capx (MemW.alloc GX.out _)).mono ?_
             rintro e w2 ⟨rfl, hb⟩
             have HB2 := Lib.hid hb
             obtain ⟨g0, g1, g2, g3⟩ := (HC.out.keep hb).c4
             clear hb))
        go_roundw
        case rel => exact ⟨k + 1, by omega, by go_num, by rw [HN.out]; rfl, Below.toA HB.out HB2.out⟩
        case measure => simp [intOf]; omega
      · have e3 : (x.kind == 3) = false := by rw [beq_eq_false_iff_ne]; exact k3
        have e4 : (x.kind == 2) = true := by rw [beq_iff_eq]; exact k2
        have e5 : (0 : Int) < (nx : Int) := by omega
        clear k3 k2
        rw [hT] at HN
        clear hT
        go_wp2_with (first
          | (go_at_call 54
             refine (HSX.out _ ax nx capx (MemW.alloc GX.out _)).mono ?_
             rintro e w2 ⟨rfl, hb⟩
             have HB2 := Lib.hid hb
             obtain ⟨g0, g1, g2, g3⟩ := (HC.out.keep hb).c4
             clear hb))
        go_roundw
        case rel => exact ⟨k + 1, by omega, by go_num, by rw [HN.out]; rfl, Below.toA HB.out HB2.out⟩
        case measure => simp [intOf]; omega
      · have e3 : (x.kind == 3) = false := by rw [beq_eq_false_iff_ne]; exact k3
        have e4 : (x.kind == 2) = true := by rw [beq_iff_eq]; exact k2
        clear k3 k2
        rw [hT] at HN
        clear hT
        go_wp2_with (first
          | (go_at_call 54
             refine (HSX.out _ ax 0 capx (MemW.alloc GX.out _)).mono ?_
             rintro e w2 ⟨rfl, hb⟩
             have HB2 := Lib.hid hb
             obtain ⟨g0, g1, g2, g3⟩ := (HC.out.keep hb).c4
             clear hb))
        go_roundw
        case rel => exact ⟨k + 1, by omega, by go_num, by rw [HN.out]; rfl, Below.toA HB.out HB2.out⟩
        case measure => simp [intOf]; omega
      · have e3 : (x.kind == 3) = false := by rw [beq_eq_false_iff_ne]; exact k3
        have e4 : (x.kind == 2) = false := by rw [beq_eq_false_iff_ne]; exact k2
        clear k3 k2
        rw [hT] at HN
        clear hT
        go_wp2_with (first
          | (go_at_call 54
             refine (HSX.out _ ax nx capx (MemW.alloc GX.out _)).mono ?_
             rintro e w2 ⟨rfl, hb⟩
             have HB2 := Lib.hid hb
             obtain ⟨g0, g1, g2, g3⟩ := (HC.out.keep hb).c4
             clear hb))
        go_roundw
        case rel => exact ⟨k + 1, by omega, by go_num, by rw [HN.out]; rfl, Below.toA HB.out HB2.out⟩
        case measure => simp [intOf]; omega
    · have HF := Lib.hid (show t.args.take k = t.args from List.take_of_length_le (by rw [HL.out]; omega))
      go_wp2
      go_ret
      exact ⟨ret_str (by rw [HF0.out, HF.out]), HB.out⟩

set_option maxRecDepth 100000 in
set_option maxHeartbeats 2000000 in
theorem show9_fun {t x y : Tm} {n cap : Nat} {a : Option Addr} (w : World) (hk : t.kind = 3) (ha : t.args = [x, y]) (h : MemW w (.s 4 (Tm.rows t.args)) (.slice a n cap)) (hx : Show9At x) (hy : Show9At y) (sx : (showT x).size ≤ 100000000) (sy : (showT y).size ≤ 100000000) :
    Calls Try.prog 54 #[.agg #[.int .i64 t.kind, .string t.name, .int .i64 t.n, .slice a n cap]] w fun e w' => e = .returned (.string (showT t)) ∧ Below w.heap.size w w' := by
  have HF : Hid (showT t = brk (x.kind == 3) (showT x) ++ (⟨#[32, 45, 62, 32]⟩ ++ showT y)) := Lib.hid (by rw [← t.eta, showT, hk, ha, if_neg (by decide), if_neg (by decide), if_pos ⟨rfl, rfl⟩, showFun, showTo])
  have e1 : (t.kind == 1) = false := by rw [hk]; rfl
  have e2 : (t.kind == 2) = false := by rw [hk]; rfl
  have e3 : (t.kind == 3) = true := by rw [hk]; rfl
  rw [ha] at h
  obtain rfl : n = 2 := (Tms.len h).1.symm
  obtain ⟨b, o, x', ax, nx, capx, rfl, hbB, Hx, x0, x1, x2, x3, GX⟩ := tm_at h 0 (by omega)
  obtain rfl : x = x' := by have := Hx.out; simpa using this
  obtain ⟨b', o', y', ay, ny, capy, e', hbB', Hy, y0, y1, y2, y3, GY⟩ := tm_at h 1 (by omega)
  cases e'
  obtain rfl : y = y' := by have := Hy.out; simpa using this
  rw [Nat.zero_mul, Nat.add_zero] at x0 x1 x2 x3
  rw [Nat.one_mul] at y0 y1 y2 y3
  have SX := Lib.hid hx
  have SY := Lib.hid hy
  have hcap := (Tms.len h).2
  clear hk ha hx hy h Hx Hy
  generalize hc : (x.kind == 3) = c at *
  have iz2 : ((showT y).size : Int) ≤ 1000000000 := by omega
  have iz3 : ((showT x).size : Int) ≤ 1000000000 := by omega
  have iq1 : ¬ (9223372036854775807 < (showT x).size + 4) := by omega
  have iq2 : ¬ (9223372036854775807 < (showT x).size + 4 + (showT y).size) := by omega
  have iq3 : ¬ (9223372036854775807 < 1 + (showT x).size) := by omega
  have iq4 : ¬ (9223372036854775807 < 1 + (showT x).size + 1) := by omega
  have iq5 : ¬ (9223372036854775807 < 1 + (showT x).size + 1 + 4) := by omega
  have iq6 : ¬ (9223372036854775807 < 1 + (showT x).size + 1 + 4 + (showT y).size) := by omega
  clear sx sy
  generalize showT t = s at *
  have HW := Lib.hid (below_new w (.cells #[.int .i64 t.kind, .string t.name, .int .i64 t.n, .slice (some ⟨b, o, none⟩) 2 cap] 52))
  have HX := Lib.hid (Bo.new w 52 #[.int .i64 t.kind, .string t.name, .int .i64 t.n, .slice (some ⟨b, o, none⟩) 2 cap])
  have p0 := cell_below x0 HW.out
  have p1 := cell_below x1 HW.out
  have p2 := cell_below x2 HW.out
  have p3 := cell_below x3 HW.out
  have HY0 := Lib.hid y0
  have HY1 := Lib.hid y1
  have HY2 := Lib.hid y2
  have HY3 := Lib.hid y3
  have HX0 := Lib.hid x0
  have tok1 : True := trivial
  clear x0 x1 x2 x3 y0 y1 y2 y3
  cases c
  all_goals
    go_enter Try.func54, Try.ntmps54
    go_wp2_with (first
      | (go_at_call 54
         have _t := tok1
         refine (SX.out _ ax nx capx (MemW.keep GX.out HW.out)).mono ?_
         rintro e w2 ⟨rfl, hb⟩
         have HB2 : Hid (Below w.heap.size w w2) := Lib.hid (Below.to HW.out hb)
         obtain ⟨g0, g1, g2, g3⟩ := (HX.out.keep hb).c4
         have q0 := cell_below HX0.out HB2.out
         have r0 := cell_below HY0.out HB2.out
         have r1 := cell_below HY1.out HB2.out
         have r2 := cell_below HY2.out HB2.out
         have r3 := cell_below HY3.out HB2.out
         clear hb tok1 _t)
      | (go_at_call 54
         refine (SY.out _ ay ny capy (MemW.keep GY.out HB2.out)).mono ?_
         rintro e w3 ⟨rfl, hb⟩
         have HB3 := Lib.hid hb
         clear hb))
    go_ret
    exact ⟨ret_str (by rw [HF.out]; simp only [brk, if_true, if_false, Bool.false_eq_true, ByteArray.append_assoc]), Below.to HB2.out HB3.out⟩

set_option maxRecDepth 100000 in
set_option maxHeartbeats 2000000 in
theorem show9_of {t : Tm} (hx : ∀ x ∈ t.args, Show9At x) (hok : t.ok) (hw : t.wt ≤ 1048576) : Show9At t := by
  intro w a n cap h
  have hn := (hok t (Tm.mem_all t)).2
  unfold inI64 at hn
  have hsz := showT_size hok
  have hl := Tms.len h
  have HE := Lib.hid (showT_eq t)
  have hds := digB_size t.n (hok t (Tm.mem_all t)).2
  have HD := Lib.hid (fun (w' : World) => rDigits_any t.n w' hn.1 hn.2)
  have id1 : (((⟨(digs t.n).toArray⟩ : ByteArray)).size : Int) ≤ 1000000000 := by show ((digB t.n).size : Int) ≤ _; omega
  have idl : (digs t.n).length ≤ 21 := by
    have e : (digB t.n).size = (digs t.n).length := by unfold digB; exact List.size_toArray ..
    omega
  have id2 : ((digs t.n).length : Int) ≤ 1000000000 := by omega
  have id3 : ¬ (9223372036854775807 < 1 + (digs t.n).length) := by omega
  by_cases k1 : t.kind = 1
  · by_cases kl : 0 ≤ t.n ∧ t.n < 26
    · exact show9_letter w k1 kl.1 kl.2
    · have e1 : (t.kind == 1) = true := by rw [beq_iff_eq]; exact k1
      have HF := Lib.hid (HE.out.trans ((if_pos k1).trans (if_neg kl)))
      by_cases k0 : 0 ≤ t.n
      · have k26 : ¬ t.n < 26 := fun h => kl ⟨k0, h⟩
        clear k1 kl hx hok hw h hsz hl
        go_enter Try.func54, Try.ntmps54
        go_wp2_with (first | (go_at_call 27 ; refine (HD.out _).mono ?_; rintro e w2 ⟨rfl, hb⟩; have HB2 := Lib.hid hb; clear hb))
        go_ret
        exact ⟨ret_str HF.out.symm, Below.toA (Below.refl _ _) HB2.out⟩
      · clear k1 kl hx hok hw h hsz hl
        go_enter Try.func54, Try.ntmps54
        go_wp2_with (first | (go_at_call 27 ; refine (HD.out _).mono ?_; rintro e w2 ⟨rfl, hb⟩; have HB2 := Lib.hid hb; clear hb))
        go_ret
        exact ⟨ret_str HF.out.symm, Below.toA (Below.refl _ _) HB2.out⟩
  by_cases k2 : t.kind = 2
  · exact show9_con w k2 hx hok hw h
  have e1 : (t.kind == 1) = false := by rw [beq_eq_false_iff_ne]; exact k1
  have e2 : (t.kind == 2) = false := by rw [beq_eq_false_iff_ne]; exact k2
  by_cases k3 : t.kind = 3
  · by_cases kl : t.args.length = 2
    · obtain ⟨x, y, ha⟩ : ∃ x y, t.args = [x, y] := by
        match hq : t.args, kl with
        | [x, y], _ => exact ⟨x, y, rfl⟩
      have hxm : x ∈ t.args := by rw [ha]; simp
      have hym : y ∈ t.args := by rw [ha]; simp
      have h1 := showT_size (Tm.ok_arg' hok hxm)
      have h2 := showT_size (Tm.ok_arg' hok hym)
      have h3 := Tm.wts_mem hxm
      have h4 := Tm.wts_mem hym
      have h5 := t.wt_eq
      exact show9_fun w k3 ha h (hx x hxm) (hx y hym) (by omega) (by omega)
    · have e3 : (t.kind == 3) = true := by rw [beq_iff_eq]; exact k3
      have HF := Lib.hid (HE.out.trans ((if_neg k1).trans ((if_neg k2).trans (if_neg (fun h => kl h.2)))))
      have e4 : ((n : Int) == 2) = false := by rw [beq_eq_false_iff_ne]; omega
      have e5 : ((n : Int) != 2) = true := by rw [bne_iff_ne]; omega
      clear k1 k2 k3 kl hx hok hw h hsz hl
      go_enter Try.func54, Try.ntmps54
      go_wp2
      go_ret
      exact ⟨ret_str HF.out.symm, below_new _ _⟩
  · have e3 : (t.kind == 3) = false := by rw [beq_eq_false_iff_ne]; exact k3
    have HF := Lib.hid (HE.out.trans ((if_neg k1).trans ((if_neg k2).trans (if_neg (fun h => k3 h.1)))))
    clear k1 k2 k3 hx hok hw h hsz hl
    go_enter Try.func54, Try.ntmps54
    go_wp2
    go_ret
    exact ⟨ret_str HF.out.symm, below_new _ _⟩
theorem show9_any (m : Nat) : ∀ t : Tm, t.size ≤ m → t.ok → t.wt ≤ 1048576 → Show9At t := by
  induction m with
  | zero => intro t h; have := t.size_pos; omega
  | succ m ih => intro t h hok hw; exact show9_of (fun x hx => ih x (by have := Tm.size_arg hx; omega) (Tm.ok_arg' hok hx) (Nat.le_trans (Tm.wt_arg' hx) hw)) hok hw
theorem show9t {t : Tm} (hok : t.ok) (hw : t.wt ≤ 1048576) : Show9At t := show9_any t.size t (Nat.le_refl _) hok hw
end Go.Proofs.Ytemkpecagflafaa
