/-
  The reference's Set, over what its Sort gives. No condition but how the terms lie, and how many there are.
-/
import Derived.Test.YtppejoccljfblaaSort3
import Derived.Test.YtppejoccljfblaaCompact0
namespace Go.Proofs.Ytppejoccljfblaa
open Go.RowKit

theorem cT_last (y : Tm) : ∀ l : List Tm, (cT (l ++ [y])).getLast? = some y := by
  intro l
  rcases List.eq_nil_or_concat l with rfl | ⟨l', z, rfl⟩
  · rfl
  · rw [List.concat_eq_append, cT_snoc]
    split
    · rename_i h; subst h; exact cT_last y l'
    · simp
termination_by l => l.length
theorem cT_lastStep {L : List Tm} {k : Nat} {x : Tm} (h : L[k]? = some x) : cT (L.take (k + 1)) = if (cT (L.take k)).getLast? = some x then cT (L.take k) else cT (L.take k) ++ [x] := by
  rw [take_at h]
  rcases List.eq_nil_or_concat (L.take k) with e | ⟨l', z, e⟩
  · rw [e]; rfl
  · rw [e, List.concat_eq_append, cT_snoc, cT_last]
    by_cases hx : x = z
    · subst hx; simp
    · rw [if_neg hx, if_neg (fun e => hx (by injection e with e; exact e.symm))]

set_option maxRecDepth 100000 in
set_option maxHeartbeats 20000000 in
theorem set3_any {ts : List Tm} {a : Option Addr} {n cap : Nat} (w : World) (h : Tms w ts a n cap) (hn : n ≤ 1000) :
    Calls Try.prog 60 #[.slice a n cap] w fun e w' => ∃ y, e = .returned y ∧ Below w.heap.size w w' ∧ ∃ L : List Tm, L.Perm ts ∧ L.Pairwise leT ∧ MemW w' (.s 4 (Tm.rows (cT L))) y := by
  have hcap := h.len.2.1
  have hmx := h.len.2.2
  have HL := Lib.hid h.len.1
  have H := Lib.hid h
  clear h
  go_enter Try.func60, Try.ntmps60
  go_wp2_with fail
  refine (sort3_any w H.out hn).mono ?_
  rintro e w1 ⟨y, rfl, hb1, L, hp, hs, ho⟩
  obtain ⟨al, cl, rfl, hlc, hcm⟩ := ho.form
  have hLn : (Tm.rows L).length = n := by rw [Tm.rows_len, hp.length_eq, HL.out]
  have HLL : Hid (L.length = n) := Lib.hid (by rw [hp.length_eq, HL.out])
  have hm := ho.memW
  rw [hLn] at hm hlc ⊢
  have HM := Lib.hid hm
  have HB1 := Lib.hid hb1
  have HP := Lib.hid hp
  have HS := Lib.hid hs
  clear hm hb1 hp hs ho hLn
  go_wp2_with fail
  go_loopw [3, 9] (fun v vi wr => ∃ k : Nat, vi = .int .i64 k ∧ k ≤ n ∧ Hid (Below w1.heap.size w1 wr) ∧ Hid (OwnD w1.heap.size w1.heap.size 96 4 wr v (Tm.rows (cT (L.take k))))) (fun _ vi _ => n - (intOf vi).toNat)
  case atStart => exact ⟨0, rfl, Nat.zero_le _, Below.refl _ _, OwnD.nil _ _ _ _ _⟩
  case round =>
    obtain ⟨k, rfl, hk, HB, HO⟩ := hrel
    by_cases hlt : k < n
    · have hltz : (k : Int) < (n : Int) := by omega
      obtain ⟨b, o, x, ax, nx, capx, rfl, hbB, Hx, x0, x1, x2, x3, GX⟩ := tm_at (Mem.keep HM.out (Nat.le_refl _) HB.out) k hlt
      have HST0 := Lib.hid (cT_lastStep Hx.out)
      have HLN : Hid ((cT (L.take k)).length ≤ 1000) := Lib.hid (by have := cT_len (L.take k); rw [List.length_take] at this; omega)
      have HLN' := Lib.hid (cT_len (L.take k))
      have HX := Lib.hid GX
      have HWR := Lib.hid HB.out.size
      obtain ⟨C, hC⟩ : ∃ C, cT (L.take k) = C := ⟨_, rfl⟩
      rw [hC] at HO HST0 HLN
      obtain ⟨va, vc, rfl, hvk, hvc⟩ := HO.out.form
      obtain ⟨m, hm⟩ : ∃ m, C.length = m := ⟨_, rfl⟩
      rw [Tm.rows_len, hm] at HO hvk ⊢
      have HCM := Lib.hid hm
      clear GX HLN' hC hm
      have HBX := Lib.hid (Bo.new wr 96 #[.int .i64 x.kind, .string x.name, .int .i64 x.n, .slice ax nx capx])
      by_cases hm0 : m = 0
      · subst hm0
        have HST : Hid (cT (L.take (k + 1)) = C ++ [x]) := Lib.hid (by rw [HST0.out, List.eq_nil_of_length_eq_zero HCM.out]; rfl)
        clear HST0
        go_wp2
        go_quiet (fail)
        have HBQ : Hid (Below wr.heap.size wr ((wr.alloc (.cells #[.int .i64 x.kind, .string x.name, .int .i64 x.n, .slice ax nx capx] 96)).drewN nq)) := Lib.hid (below_drewN (below_new _ _) nq)
        have HBZ : Hid (Bo ((wr.alloc (.cells #[.int .i64 x.kind, .string x.name, .int .i64 x.n, .slice ax nx capx] 96)).drewN nq) wr.heap.size 96 #[.int .i64 x.kind, .string x.name, .int .i64 x.n, .slice ax nx capx]) := Lib.hid (HBX.out.keep (below_drewN (Below.refl _ _) nq))
        clear x0 x1 x2 x3 HBX
        generalize (wr.alloc (.cells #[.int .i64 x.kind, .string x.name, .int .i64 x.n, .slice ax nx capx] 96)).drewN nq = wz at HBQ HBZ ⊢
        have HBA : Hid (Below w1.heap.size w1 wz) := Lib.hid (HB.out.trans (HBQ.out.mono HB.out.size))
        have HOA := Lib.hid (HO.out.keep HBQ.out)
        have HWA : Hid (w1.heap.size ≤ wz.heap.size) := Lib.hid HBA.out.size
        have HXA := Lib.hid (HOA.out.old (Nat.le_refl _) HWA.out (Mem.keep HX.out (Nat.le_refl _) (HBQ.out.mono HWR.out)))
        obtain ⟨x0, x1, x2, x3⟩ := HBZ.out.c4
        go_wp2_with (first
          | (at_builtin
             refine wpList_append_D2 rfl _ _ rfl Try.underlying89 info_term5 rfl (by decide) rfl rfl (HOA.out.alloc _) (own_one x HOA.out HWA.out HXA.out) (by rw [Tm.rows_len]; have := HLN.out; simp only [Tm.rows, List.length_cons, List.length_nil]; omega) (by rw [Tm.rows_len]; have := HLN.out; simp only [Tm.rows, List.length_cons, List.length_nil]; omega) (by rw [World.size_alloc]; exact Nat.le_trans HWA.out (Nat.le_succ _)) ?_
             intro v' w6 ho hg _
             have HO6 := Lib.hid ho
             have HB6 : Hid (Below w1.heap.size w1 w6) := Lib.hid (grown_below (HBA.out.trans ((below_new _ _).mono HWA.out)) hg (Nat.le_refl _) (fun q hq => (HOA.out.lt q hq).1))
             clear ho hg))
        go_roundw
        case rel => exact ⟨k + 1, by go_num, by omega, HB6.out, Lib.hid (by have := HO6.out; rw [← Tm.rows_app] at this; rw [HST.out]; exact this)⟩
        case measure => simp [intOf] <;> omega
      · obtain ⟨c, rfl⟩ : ∃ c, m = c + 1 := ⟨m - 1, by omega⟩
        clear hm0
        obtain ⟨g, og, y, ay, ny, capy, rfl, hgS, Hy, z0, z1, z2, z3, GY⟩ := tm_at HO.out.mem c (by omega)
        have HLAST : Hid (C.getLast? = some y) := Lib.hid (by rw [List.getLast?_eq_getElem?, HCM.out]; exact Hy.out)
        obtain ⟨t0, t1, t2, t3⟩ := HBX.out.c4
        have HBW := Lib.hid (below_new wr (.cells #[.int .i64 x.kind, .string x.name, .int .i64 x.n, .slice ax nx capx] 96))
        have hs0 := cell_alloc (.cells #[.int .i64 x.kind, .string x.name, .int .i64 x.n, .slice ax nx capx] 96) z0
        have hs1 := cell_alloc (.cells #[.int .i64 x.kind, .string x.name, .int .i64 x.n, .slice ax nx capx] 96) z1
        have hs2 := cell_alloc (.cells #[.int .i64 x.kind, .string x.name, .int .i64 x.n, .slice ax nx capx] 96) z2
        have hs3 := cell_alloc (.cells #[.int .i64 x.kind, .string x.name, .int .i64 x.n, .slice ax nx capx] 96) z3
        have HWS : Hid (wr.heap.size < (wr.alloc (.cells #[.int .i64 x.kind, .string x.name, .int .i64 x.n, .slice ax nx capx] 96)).heap.size) := Lib.hid (by rw [World.size_alloc]; omega)
        have MX : Hid (MemW (wr.alloc (.cells #[.int .i64 x.kind, .string x.name, .int .i64 x.n, .slice ax nx capx] 96)).drew (.s 4 (Tm.rows x.args)) (.slice ax nx capx)) := Lib.hid (MemW.drew (MemW.alloc (HX.out.mono (fun q hq => Nat.lt_of_lt_of_le hq HWR.out) fun _ _ => rfl) _))
        have MY : Hid (MemW (wr.alloc (.cells #[.int .i64 x.kind, .string x.name, .int .i64 x.n, .slice ax nx capx] 96)).drew (.s 4 (Tm.rows y.args)) (.slice ay ny capy)) := Lib.hid (MemW.drew (MemW.alloc (GY.out.mono (fun q hq => hq.2) fun _ _ => rfl) _))
        have hne : ((c : Int) + 1 == 0) = false := by rw [beq_eq_false_iff_ne]; omega
        have hw1 : IntKind.i64.wrap ((c : Int) + 1 - 1) = (c : Int) := by rw [IntKind.wrap_i64]; omega
        have hw2 : IntKind.i64.wrap (c : Int) = (c : Int) := by rw [IntKind.wrap_i64]; omega
        have hcz : (c : Int) < (c : Int) + 1 := by omega
        by_cases hxy : y = x
        · have hd : (cmpT y x != 0) = false := by rw [bne_eq_false_iff_eq]; exact (cmpT_zero y x).2 hxy
          have HST : Hid (cT (L.take (k + 1)) = C) := Lib.hid (by rw [HST0.out, HLAST.out, hxy, if_pos rfl])
          clear HST0 hxy
          go_wp2
          clear x0 x1 x2 x3 z0 z1 z2 z3
          generalize wr.alloc (.cells #[.int .i64 x.kind, .string x.name, .int .i64 x.n, .slice ax nx capx] 96) = wa at *
          go_still_tail 11, (by kernel_rfl)
          change wpList _ _ _ _ _ wa.drew
          go_wp2_with fail
          refine (compare3_any y x _ ay ax ny nx capy capx MY.out MX.out).mono ?_
          rintro e w2 ⟨rfl, hb⟩
          have HB2 := Lib.hid hb
          clear hb t0 t1 t2 t3 hs0 hs1 hs2 hs3
          have HBQ : Hid (Below wr.heap.size wr w2) := Lib.hid (HBW.out.trans (((below_drew _).trans HB2.out).mono HBW.out.size))
          go_wp2_with fail
          go_roundw
          case rel => exact ⟨k + 1, by go_num, by omega, HB.out.trans (HBQ.out.mono HB.out.size), Lib.hid (by rw [HST.out]; exact HO.out.keep HBQ.out)⟩
          case measure => simp [intOf] <;> omega
        · have hd : (cmpT y x != 0) = true := by rw [bne_iff_ne]; exact fun e => hxy ((cmpT_zero y x).1 e)
          have HST : Hid (cT (L.take (k + 1)) = C ++ [x]) := Lib.hid (by rw [HST0.out, HLAST.out, if_neg (fun e => hxy (by injection e))])
          clear HST0 hxy
          go_wp2
          clear x0 x1 x2 x3 z0 z1 z2 z3
          generalize wr.alloc (.cells #[.int .i64 x.kind, .string x.name, .int .i64 x.n, .slice ax nx capx] 96) = wa at *
          go_still_tail 11, (by kernel_rfl)
          change wpList _ _ _ _ _ wa.drew
          go_wp2_with fail
          refine (compare3_any y x _ ay ax ny nx capy capx MY.out MX.out).mono ?_
          rintro e w2 ⟨rfl, hb⟩
          have HB2 := Lib.hid hb
          clear hb t0 t1 t2 t3 hs0 hs1 hs2 hs3
          have HBQ : Hid (Below wr.heap.size wr w2) := Lib.hid (HBW.out.trans (((below_drew _).trans HB2.out).mono HBW.out.size))
          have HBZ : Hid (Bo w2 wr.heap.size 96 #[.int .i64 x.kind, .string x.name, .int .i64 x.n, .slice ax nx capx]) := Lib.hid (HBX.out.below ((below_drew _).trans HB2.out) HWS.out)
          generalize w2 = wz at HBQ HBZ ⊢
          have HBA : Hid (Below w1.heap.size w1 wz) := Lib.hid (HB.out.trans (HBQ.out.mono HB.out.size))
          have HOA := Lib.hid (HO.out.keep HBQ.out)
          have HWA : Hid (w1.heap.size ≤ wz.heap.size) := Lib.hid HBA.out.size
          have HXA := Lib.hid (HOA.out.old (Nat.le_refl _) HWA.out (Mem.keep HX.out (Nat.le_refl _) (HBQ.out.mono HWR.out)))
          obtain ⟨x0, x1, x2, x3⟩ := HBZ.out.c4
          go_wp2_with (first
            | (at_builtin
               refine wpList_append_D2 rfl _ _ rfl Try.underlying89 info_term5 rfl (by decide) rfl rfl (HOA.out.alloc _) (own_one x HOA.out HWA.out HXA.out) (by rw [Tm.rows_len]; have := HLN.out; simp only [Tm.rows, List.length_cons, List.length_nil]; omega) (by rw [Tm.rows_len]; have := HLN.out; simp only [Tm.rows, List.length_cons, List.length_nil]; omega) (by rw [World.size_alloc]; exact Nat.le_trans HWA.out (Nat.le_succ _)) ?_
               intro v' w6 ho hg _
               have HO6 := Lib.hid ho
               have HB6 : Hid (Below w1.heap.size w1 w6) := Lib.hid (grown_below (HBA.out.trans ((below_new _ _).mono HWA.out)) hg (Nat.le_refl _) (fun q hq => (HOA.out.lt q hq).1))
               clear ho hg))
          go_roundw
          case rel => exact ⟨k + 1, by go_num, by omega, HB6.out, Lib.hid (by have := HO6.out; rw [← Tm.rows_app] at this; rw [HST.out]; exact this)⟩
          case measure => simp [intOf] <;> omega
    · obtain rfl : k = n := by omega
      have hltz : ¬ (k : Int) < (k : Int) := by omega
      rw [List.take_of_length_le (by rw [HLL.out]; exact Nat.le_refl _)] at HO
      obtain ⟨va, vc, rfl, hvk, hvc⟩ := HO.out.form
      go_wp2
      go_ret
      exact ⟨_, rfl, HB1.out.trans (HB.out.mono HB1.out.size), L, HP.out, HS.out, HO.out.memW⟩
end Go.Proofs.Ytppejoccljfblaa
