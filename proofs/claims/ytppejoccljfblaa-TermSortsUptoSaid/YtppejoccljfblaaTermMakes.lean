/-
  The walk of the law TermMakes: it answers true at every input. No condition but how the terms lie, and how great they are.
-/
import Derived.Test.YtppejoccljfblaaSortT
import Derived.Test.YtppejoccljfblaaTermVars
import Derived.Test.YtppejoccljfblaaFew
import Derived.Test.YtppejoccljfblaaAwake03
import Derived.Test.YtppejoccljfblaaSizes
import Derived.Test.YtppejoccljfblaaGround
import Derived.Test.YtppejoccljfblaaIntsEq
import Derived.Test.YtppejoccljfblaaOpenTm
namespace Go.Proofs.Ytppejoccljfblaa
open Go.RowKit

theorem Tm.alls_wts (ts : List Tm) : (Tm.alls ts).length ≤ Tm.wts ts := by
  unfold Tm.wts
  generalize Tm.alls ts = l
  induction l with
  | nil => exact Nat.le_refl _
  | cons x l ih => rw [List.map_cons, List.sum_cons, List.length_cons]; omega
theorem groundB_eq (t : Tm) : groundB t = (t.kind != 3 && t.args.all groundB) := by
  have h : ∀ ts : List Tm, (Tm.alls ts).all (fun x => x.kind != 3) = ts.all groundB := by
    intro ts
    induction ts with
    | nil => rw [Tm.alls]; rfl
    | cons t ts ih => rw [Tm.alls, List.all_append, ih, List.all_cons]; rfl
  show (t.all.all fun x => x.kind != 3) = _
  rw [Tm.all_eq, List.all_cons, h]
theorem vrs_con {nm : ByteArray} {ts : List Tm} : vrs 3 [] (Tm.alls [Tm.mk 1 nm 0 ts]) = vrs 3 [] (Tm.alls ts) := by
  rw [Tm.alls, Tm.alls, List.append_nil, Tm.all]
  unfold vrs
  rw [List.foldl_cons, if_neg (by show ¬ (1 : Int) = 3; decide)]

set_option maxRecDepth 100000 in
set_option maxHeartbeats 2000000 in
theorem termMakes_far {ts : List Tm} {a : Option Addr} {n cap : Nat} (nm : ByteArray) (w : World) (h : Tms w ts a n cap) (hs : (Tm.alls ts).length ≤ 1048576) (hf : fewB ts = false ∨ 30 < nm.size) :
    Calls Try.prog 12 #[.slice a n cap, .string nm] w fun e w' => e = .returned (.bool true) ∧ Below w.heap.size w w' := by
  have H := Lib.hid h
  have HS := Lib.hid hs
  obtain rfl := h.len.1
  clear h hs
  by_cases hfe : fewB ts = false
  · go_enter Try.func12, Try.ntmps12
    go_wp2_with fail
    refine (awake03_any w).mono ?_
    rintro e w1 ⟨rfl, hb1⟩
    have HB1 := Lib.hid hb1
    clear hb1
    go_wp2_with fail
    refine (few_any w1 (H.out.keep HB1.out) HS.out).mono ?_
    rintro e w2 ⟨rfl, hb2⟩
    have HB2 := Lib.hid (HB1.out.trans (hb2.mono HB1.out.size))
    rw [hfe]
    clear hb2
    go_wp2_with fail
    go_ret
    exact ⟨rfl, HB2.out⟩
  · have hft : fewB ts = true := by simpa using hfe
    have hnm : decide ((30 : Int) < (nm.size : Int)) = true := by
      rcases hf with h | h
      · exact absurd h hfe
      · simp; omega
    clear hfe hf
    go_enter Try.func12, Try.ntmps12
    go_wp2_with fail
    refine (awake03_any w).mono ?_
    rintro e w1 ⟨rfl, hb1⟩
    have HB1 := Lib.hid hb1
    clear hb1
    go_wp2_with fail
    refine (few_any w1 (H.out.keep HB1.out) HS.out).mono ?_
    rintro e w2 ⟨rfl, hb2⟩
    have HB2 := Lib.hid (HB1.out.trans (hb2.mono HB1.out.size))
    rw [hft]
    clear hb2
    go_wp2_with fail
    go_ret
    exact ⟨rfl, HB2.out⟩

set_option maxRecDepth 100000 in
set_option maxHeartbeats 20000000 in
theorem termMakes_main {ts : List Tm} {a : Option Addr} {n cap : Nat} (nm : ByteArray) (w : World) (h : Tms w ts a n cap) (hs : (Tm.alls ts).length ≤ 1048576) (hft : fewB ts = true) (hnm : nm.size ≤ 30) :
    Calls Try.prog 12 #[.slice a n cap, .string nm] w fun e w' => e = .returned (.bool true) ∧ Below w.heap.size w w' := by
  have hcap := h.len.2.1
  have hmx := h.len.2.2
  have H := Lib.hid h
  have HS := Lib.hid hs
  have hn : decide ((30 : Int) < (nm.size : Int)) = false := by simp; omega
  have h200 : (Tm.alls ts).length ≤ 200 := by simp [fewB] at hft; exact hft.1
  have h30 : n ≤ 30 := by have := h.len.1; simp [fewB] at hft; omega
  have HL := Lib.hid h.len.1
  have H200 := Lib.hid h200
  clear h hs h200
  go_enter Try.func12, Try.ntmps12
  go_wp2_with fail
  refine (awake03_any w).mono ?_
  rintro e w1 ⟨rfl, hb1⟩
  have HB1 := Lib.hid hb1
  clear hb1
  go_wp2_with fail
  refine (few_any w1 (H.out.keep HB1.out) HS.out).mono ?_
  rintro e w2 ⟨rfl, hb2⟩
  have HB2 := Lib.hid (HB1.out.trans (hb2.mono HB1.out.size))
  rw [hft]
  clear hb2 HB1
  have HX := Lib.hid (Bo.new w2 96 #[.int .i64 1, .string nm, .int .i64 0, .slice a n cap])
  have HB3 := Lib.hid (HB2.out.alloc HB2.out.size (.cells #[.int .i64 1, .string nm, .int .i64 0, .slice a n cap] 96))
  go_wp2_with fail
  go_loopw [6, 7, 8, 26] (fun v6 v7 v8 v26 wr => ∃ (k s dp : Nat) (g : Bool), v6 = .int .i64 s ∧ v7 = .int .i64 dp ∧ v8 = .bool g ∧ v26 = .int .i64 k ∧ k ≤ n ∧ s ≤ 201 ∧ dp ≤ 200 ∧ Hid (s = 1 + (Tm.alls (ts.take k)).length) ∧ Hid (dp = depTs (ts.take k)) ∧ Hid (g = (ts.take k).all groundB) ∧ Hid (Below w.heap.size w wr) ∧ Hid (Bo wr w2.heap.size 96 #[.int .i64 1, .string nm, .int .i64 0, .slice a n cap])) (fun _ _ _ v26 _ => n - (intOf v26).toNat)
  case atStart => exact ⟨0, 1, 0, true, rfl, rfl, rfl, rfl, Nat.zero_le _, by omega, by omega, Lib.hid (by rw [List.take_zero, Tm.alls]; rfl), Lib.hid (by rw [List.take_zero, depTs]), Lib.hid (by rw [List.take_zero]; rfl), HB3.out, HX.out⟩
  case round =>
    obtain ⟨k, s, dp, g, rfl, rfl, rfl, rfl, hk, hs201, hd200, HS1, HD1, HG1, HB, HX5⟩ := hrel
    by_cases hlt : k < n
    · have hltz : (k : Int) < (n : Int) := by omega
      obtain ⟨b, o, x, ax, nx, capx, rfl, hbB, Hx, x0, x1, x2, x3, GX⟩ := tm_at (Mem.keep H.out (Nat.le_refl _) HB.out) k hlt
      have hxs : x.size ≤ 200 := Nat.le_trans (Tm.size_mem (mem_of_at Hx.out)) H200.out
      have HS2 : Hid (s + x.size = 1 + (Tm.alls (ts.take (k + 1))).length) := Lib.hid (by rw [HS1.out, Tm.alls_at Hx.out, List.length_append]; have : x.all.length = x.size := rfl; omega)
      have hs2 : s + x.size ≤ 201 := by
        have h1 := HS2.out
        have h2 := Tm.alls_le (ts := ts) (k + 1)
        have h3 := H200.out
        omega
      have HD2 : Hid (max dp (depT x) = depTs (ts.take (k + 1))) := Lib.hid (by rw [HD1.out, take_at Hx.out, depTs_snoc])
      have hdx : depT x ≤ 200 := Nat.le_trans (depT_le x) hxs
      obtain ⟨mx, hmx2, hmx3⟩ : ∃ mx : Nat, max (dp : Int) (depT x : Int) = (mx : Int) ∧ mx = max dp (depT x) := ⟨max dp (depT x), by omega, rfl⟩
      have hmx4 : mx ≤ 200 := by omega
      have HMX := Lib.hid hmx3
      have HG2 : Hid ((g && groundB x) = (ts.take (k + 1)).all groundB) := Lib.hid (by rw [HG1.out, take_at Hx.out, List.all_append]; simp)
      have HXB := Lib.hid ((Bo.new wr 96 #[.int .i64 x.kind, .string x.name, .int .i64 x.n, .slice ax nx capx]).c4)
      have HB4 := Lib.hid (HB.out.alloc HB.out.size (.cells #[.int .i64 x.kind, .string x.name, .int .i64 x.n, .slice ax nx capx] 96))
      have HGX : Hid (MemW (wr.alloc (.cells #[.int .i64 x.kind, .string x.name, .int .i64 x.n, .slice ax nx capx] 96)) (.s 4 (Tm.rows x.args)) (.slice ax nx capx)) := Lib.hid (MemW.alloc (GX.out.mono (fun b hb => Nat.lt_of_lt_of_le hb HB.out.size) fun _ _ => rfl) _)
      clear hmx3
      go_wp2_with fail
      refine (size_any 200 x nx capx ax _ hxs (by omega) HGX.out).mono ?_
      rintro e w5 ⟨rfl, hb5⟩
      have HB5 := Lib.hid hb5
      have HXB5 := Lib.hid (((Bo.new wr 96 #[.int .i64 x.kind, .string x.name, .int .i64 x.n, .slice ax nx capx]).keep hb5).c4)
      obtain ⟨y0, y1, y2, y3⟩ := HXB5.out
      clear hb5
      go_wp2_with fail
      refine (depth_any 200 x nx capx ax _ hxs (by omega) (HGX.out.keep HB5.out)).mono ?_
      rintro e w6 ⟨rfl, hb6⟩
      have HB6 := Lib.hid (HB5.out.trans (hb6.mono HB5.out.size))
      clear hb6 y0 y1 y2 y3
      obtain ⟨y0, y1, y2, y3⟩ := ((Bo.new wr 96 #[.int .i64 x.kind, .string x.name, .int .i64 x.n, .slice ax nx capx]).keep HB6.out).c4
      cases g
      · go_wp2_with fail
        go_roundw
        case rel => exact ⟨k + 1, s + x.size, mx, false, by go_num, rfl, rfl, by go_num, by omega, hs2, hmx4, HS2.out, Lib.hid (by rw [HMX.out]; exact HD2.out), HG2.out, HB4.out.trans (HB6.out.mono (Nat.le_trans HB.out.size (below_new wr _).size)), (HX5.out.alloc _).keep HB6.out⟩
        case measure => simp [intOf] <;> omega
      · go_wp2_with fail
        refine (ground_any _ (HGX.out.keep HB6.out)).mono ?_
        rintro e w7 ⟨rfl, hb7⟩
        have HB7 := Lib.hid (HB6.out.trans (hb7.mono HB6.out.size))
        clear hb7
        go_wp2_with fail
        go_roundw
        case rel => exact ⟨k + 1, s + x.size, mx, groundB x, by go_num, rfl, rfl, by go_num, by omega, hs2, hmx4, HS2.out, Lib.hid (by rw [HMX.out]; exact HD2.out), HG2.out, HB4.out.trans (HB7.out.mono (Nat.le_trans HB.out.size (below_new wr _).size)), (HX5.out.alloc _).keep HB7.out⟩
        case measure => simp [intOf] <;> omega
    · obtain rfl : k = n := by omega
      have hltz : ¬ (k : Int) < (k : Int) := by omega
      have htk : ts.take k = ts := List.take_of_length_le (by rw [HL.out]; exact Nat.le_refl _)
      have hTS : (Tm.mk 1 nm 0 ts).size = s := by rw [Tm.size_eq, HS1.out, htk]; rfl
      have hTD : depT (Tm.mk 1 nm 0 ts) = dp + 1 := by rw [depT, HD1.out, htk]
      have hTG : groundB (Tm.mk 1 nm 0 ts) = g := by rw [groundB_eq, HG1.out, htk]; rfl
      have HTS := Lib.hid hTS
      have HTD := Lib.hid hTD
      have HTG := Lib.hid hTG
      clear hTS hTD hTG htk HS1 HD1 HG1
      obtain ⟨y0, y1, y2, y3⟩ := HX5.out.c4
      have HM := Lib.hid (H.out.keep HB.out)
      go_wp2_with fail
      refine (size_any 201 (Tm.mk 1 nm 0 ts) k cap a wr (by rw [HTS.out]; omega) (by omega) HM.out).mono ?_
      rintro e w5 ⟨rfl, hb5⟩
      rw [HTS.out]
      have HB5 := Lib.hid hb5
      clear hb5 y0 y1 y2 y3
      obtain ⟨y0, y1, y2, y3⟩ := (HX5.out.keep HB5.out).c4
      go_wp2_with fail
      refine (depth_any 201 (Tm.mk 1 nm 0 ts) k cap a w5 (by rw [HTS.out]; omega) (by omega) (HM.out.keep HB5.out)).mono ?_
      rintro e w6 ⟨rfl, hb6⟩
      rw [HTD.out]
      have HB6 := Lib.hid (HB5.out.trans (hb6.mono HB5.out.size))
      clear hb6 y0 y1 y2 y3
      obtain ⟨y0, y1, y2, y3⟩ := (HX5.out.keep HB6.out).c4
      go_wp2_with fail
      refine (ground_any (t := Tm.mk 1 nm 0 ts) w6 (HM.out.keep HB6.out)).mono ?_
      rintro e w7 ⟨rfl, hb7⟩
      rw [HTG.out]
      have HB7 := Lib.hid (HB6.out.trans (hb7.mono HB6.out.size))
      clear hb7 y0 y1 y2 y3
      obtain ⟨y0, y1, y2, y3⟩ := (HX5.out.keep HB7.out).c4
      go_wp2_with fail
      have HA7 := Lib.hid (below_new w7 (.cells #[.int .i64 1, .string nm, .int .i64 0, .slice a k cap] 96))
      have HT7 : Hid (Tms (w7.alloc (.cells #[.int .i64 1, .string nm, .int .i64 0, .slice a k cap] 96)) [Tm.mk 1 nm 0 ts] (some ⟨w7.heap.size, 0, none⟩) 1 1) := Lib.hid (one_memW (Tm.mk 1 nm 0 ts) 96 _ rfl (HM.out.keep HB7.out))
      refine (termVars_any _ HT7.out (by rw [Tm.alls, Tm.alls, List.append_nil]; show (Tm.mk 1 nm 0 ts).size ≤ _; rw [HTS.out]; omega)).mono ?_
      rintro e w8 ⟨a8, n8, c8, rfl, hb8, hm8⟩
      have HB8 := Lib.hid (HB7.out.trans ((HA7.out.trans (hb8.mono HA7.out.size)).mono HB7.out.size))
      have HM8 : Hid (MemW w8 (.s 1 (intRows (vrs 3 [] (Tm.alls ts)))) (.slice a8 n8 c8)) := Lib.hid (by rw [vrs_con] at hm8; exact hm8.mono (fun _ hb => hb.2) fun _ _ => rfl)
      clear hb8 hm8 y0 y1 y2 y3 HT7 HA7
      go_wp2_with fail
      refine (termVars_any w8 (HM.out.keep HB8.out) HS.out).mono ?_
      rintro e w9 ⟨a9, n9, c9, rfl, hb9, hm9⟩
      have HB9 := Lib.hid (HB8.out.trans (hb9.mono HB8.out.size))
      have HM9 : Hid (MemW w9 (.s 1 (intRows (vrs 3 [] (Tm.alls ts)))) (.slice a9 n9 c9)) := Lib.hid (hm9.mono (fun _ hb => hb.2) fun _ _ => rfl)
      have HM8' := Lib.hid (HM8.out.keep hb9)
      clear hb9 hm9
      go_wp2_with fail
      refine (intsEq_any w9 HM8'.out HM9.out).mono ?_
      rintro e w10 ⟨rfl, hb10⟩
      rw [decide_eq_true (p := vrs 3 [] (Tm.alls ts) = vrs 3 [] (Tm.alls ts)) rfl]
      have HB10 := Lib.hid (HB9.out.trans (hb10.mono HB9.out.size))
      clear hb10
      go_wp2_with fail
      refine (setT_any w10 (HM.out.keep HB10.out) (by omega)).mono ?_
      rintro e w11 ⟨y, rfl, ⟨av, ks, cs, l, rfl, hks, _, _, _⟩, hb11⟩
      have HB11 := Lib.hid (HB.out.trans ((HB10.out.trans (hb11.mono HB10.out.size)).mono HB.out.size))
      clear hb11
      have hks2 : (ks : Int) ≤ (k : Int) := by omega
      go_wp2_with fail
      go_ret
      exact ⟨rfl, HB11.out⟩
theorem termMakes_any {ts : List Tm} {a : Option Addr} {n cap : Nat} (nm : ByteArray) (w : World) (h : Tms w ts a n cap) (hs : (Tm.alls ts).length ≤ 1048576) :
    Calls Try.prog 12 #[.slice a n cap, .string nm] w fun e w' => e = .returned (.bool true) ∧ Below w.heap.size w w' := by
  by_cases hf : fewB ts = false ∨ 30 < nm.size
  · exact termMakes_far nm w h hs hf
  · exact termMakes_main nm w h hs (by cases hb : fewB ts with | true => rfl | false => exact absurd (.inl hb) hf) (by omega)
end Go.Proofs.Ytppejoccljfblaa
