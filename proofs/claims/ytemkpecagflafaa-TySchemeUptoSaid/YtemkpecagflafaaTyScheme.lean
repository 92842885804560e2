/-
  The walk of the law TyScheme: it answers true at every input. No condition but how the argument lies and how great it is.
-/
import Derived.Test.YtemkpecagflafaaScheme
import Derived.Test.YtemkpecagflafaaRename
import Derived.Test.YtemkpecagflafaaSizeTy
namespace Go.Proofs.Ytemkpecagflafaa
open Go.RowKit

theorem Bo.c5 {w : World} {q : Nat} {t : TypeId} {c0 c1 c2 c3 c4 : Value} (h : Bo w q t #[c0, c1, c2, c3, c4]) : w.cell? ⟨q, 0, none⟩ = some c0 ∧ w.cell? ⟨q, 1, none⟩ = some c1 ∧ w.cell? ⟨q, 2, none⟩ = some c2 ∧ w.cell? ⟨q, 3, none⟩ = some c3 ∧ w.cell? ⟨q, 4, none⟩ = some c4 :=
  ⟨h.cell (j := 0) rfl, h.cell (j := 1) rfl, h.cell (j := 2) rfl, h.cell (j := 3) rfl, h.cell (j := 4) rfl⟩

set_option maxRecDepth 100000 in
set_option maxHeartbeats 2000000 in
theorem tyScheme_any {t : Tm} {a : Option Addr} {n cap : Nat} (w : World) (h : MemW w (.s 4 (Tm.rows t.args)) (.slice a n cap)) (hs : t.size ≤ 1048576) :
    Calls Try.prog 12 #[.agg #[.int .i64 t.kind, .string t.name, .int .i64 t.n, .slice a n cap]] w fun e w' => e = .returned (.bool true) ∧ Below w.heap.size w w' := by
  have HW0 := Lib.hid (below_new w (.cells #[.int .i64 t.kind, .string t.name, .int .i64 t.n, .slice a n cap] 52))
  have HB0 := Lib.hid (Bo.new w 52 #[.int .i64 t.kind, .string t.name, .int .i64 t.n, .slice a n cap])
  have HT := Lib.hid h
  have HGC := Lib.hid (fun (w' : World) (h' : MemW w' (.s 4 (Tm.rows t.args)) (.slice a n cap)) => good_any w' h' hs)
  by_cases hg : goodB t = true
  · rw [hg] at HGC
    obtain ⟨hgv, h60⟩ := good_gv hg
    have hna := hgv.na
    have HNA := Lib.hid hna
    have HZ : Hid (t.size ≤ 1048576) := Lib.hid hs
    have HSC : Hid (∀ (B : Nat) (w' : World), Mem (· < B) w' (.s 4 (Tm.rows t.args)) (.slice a n cap) → B ≤ w'.heap.size → Calls Try.prog 58 #[.agg #[.int .i64 t.kind, .string t.name, .int .i64 t.n, .slice a n cap]] w' (GivesSch B (vrs 1 [] t.all).length (numT (idxI (vrs 1 [] t.all)) t) w')) := Lib.hid fun B w' h1 h2 => scheme_any hs h1 h2
    have hz1 := numT_size (idxI (vrs 1 [] t.all)) t hna
    have HSC2 : Hid (∀ (B n cap : Nat) (a : Option Addr) (w' : World), Mem (· < B) w' (.s 4 (Tm.rows (numT (idxI (vrs 1 [] t.all)) t).args)) (.slice a n cap) → B ≤ w'.heap.size → Calls Try.prog 58 #[.agg #[.int .i64 (numT (idxI (vrs 1 [] t.all)) t).kind, .string (numT (idxI (vrs 1 [] t.all)) t).name, .int .i64 (numT (idxI (vrs 1 [] t.all)) t).n, .slice a n cap]] w' (GivesSch B (vrs 1 [] t.all).length (numT (idxI (vrs 1 [] t.all)) t) w')) := Lib.hid fun B n cap a w' h1 h2 => by
      have := scheme_any (by rw [hz1]; exact hs) h1 h2
      rw [scheme_again hna, scheme_vars hna, List.length_map] at this
      exact this
    have HV1 : Hid (∀ (n cap : Nat) (a : Option Addr) (w' : World), MemW w' (.s 4 (Tm.rows (numT (idxI (vrs 1 [] t.all)) t).args)) (.slice a n cap) → Calls Try.prog 60 #[.agg #[.int .i64 (numT (idxI (vrs 1 [] t.all)) t).kind, .string (numT (idxI (vrs 1 [] t.all)) t).name, .int .i64 (numT (idxI (vrs 1 [] t.all)) t).n, .slice a n cap]] w' (Gives 0 1 (intRows (vrs 1 [] (numT (idxI (vrs 1 [] t.all)) t).all)) w')) := Lib.hid fun n cap a w' h1 => vars11_any w' h1 (by rw [hz1]; exact hs)
    have HV0 : Hid (∀ (w' : World), MemW w' (.s 4 (Tm.rows t.args)) (.slice a n cap) → Calls Try.prog 60 #[.agg #[.int .i64 t.kind, .string t.name, .int .i64 t.n, .slice a n cap]] w' (Gives 0 1 (intRows (vrs 1 [] t.all)) w')) := Lib.hid fun w' h1 => vars11_any w' h1 hs
    have hvl : (vrs 1 [] (numT (idxI (vrs 1 [] t.all)) t).all).length = (vrs 1 [] t.all).length := by rw [scheme_vars hna, List.length_map]
    have hva := fun i x => scheme_vars_at (t := t) hna i x
    have HZ1 := Lib.hid hz1
    have hnl : (vrs 1 [] t.all).length ≤ 1048576 := by have := vrs_len 1 [] t.all; have e : t.all.length = t.size := rfl; simp only [List.length_nil] at this; omega
    clear h hs hg hgv h60 hna hz1
    generalize numT (idxI (vrs 1 [] t.all)) t = T1 at *
    generalize vrs 1 [] T1.all = V1 at *
    generalize hN : (vrs 1 [] t.all).length = N at *
    have HN := Lib.hid hN
    have HVL := Lib.hid hvl
    have HVA := Lib.hid hva
    clear hN hvl hva
    have tokS : True := trivial
    go_enter Try.func12, Try.ntmps12
    go_wp2_with (first
      | (go_at_call 39 ; refine (awake11_any _).mono ?_; rintro e w1 ⟨rfl, hb⟩; have HB1 := Lib.hid hb; have HW1 : Hid (Below w.heap.size w w1) := Lib.hid (Below.to HW0.out hb); have HX1 := Lib.hid (HB0.out.keep hb); obtain ⟨g0, g1, g2, g3⟩ := HX1.out.c4; clear hb)
      | (go_at_call 57
         refine (HGC.out w1 (MemW.keep HT.out HW1.out)).mono ?_
         rintro e w2 ⟨rfl, hb⟩
         have HW2 : Hid (Below w.heap.size w w2) := Lib.hid (Below.to HW1.out hb)
         have HX2 := Lib.hid (HX1.out.keep hb)
         clear g0 g1 g2 g3
         obtain ⟨g0, g1, g2, g3⟩ := HX2.out.c4
         clear hb)
      | (go_at_call 58
         have _t := tokS
         refine (HSC.out w.heap.size w2 (Mem.keep HT.out (Nat.le_refl _) HW2.out) HW2.out.size).mono ?_
         rintro e w3 ⟨a3, n3, c3, rfl, hb, hm⟩
         have HW3 : Hid (Below w.heap.size w w3) := Lib.hid (Below.to HW2.out hb)
         have HX3 := Lib.hid (HX2.out.keep hb)
         have HM3 : Hid (MemW w3 (.s 4 (Tm.rows T1.args)) (.slice a3 n3 c3)) := Lib.hid (hm.mono (fun b hb => hb.2) fun _ _ => rfl)
         have HY3 := Lib.hid (Bo.new w3 75 #[.int .i64 N, .int .i64 T1.kind, .string T1.name, .int .i64 T1.n, .slice a3 n3 c3])
         have HW3a := Lib.hid (HW3.out.alloc HW3.out.size (.cells #[.int .i64 N, .int .i64 T1.kind, .string T1.name, .int .i64 T1.n, .slice a3 n3 c3] 75))
         have HX3a := Lib.hid (HX3.out.alloc (.cells #[.int .i64 N, .int .i64 T1.kind, .string T1.name, .int .i64 T1.n, .slice a3 n3 c3] 75))
         have HM3a := Lib.hid (MemW.alloc HM3.out (.cells #[.int .i64 N, .int .i64 T1.kind, .string T1.name, .int .i64 T1.n, .slice a3 n3 c3] 75))
         clear g0 g1 g2 g3 hb hm tokS _t)
      | (go_at_call 58
         refine (HSC2.out _ n3 c3 a3 _ HM3a.out (Nat.le_refl _)).mono ?_
         rintro e w4 ⟨a4, n4, c4, rfl, hb, hm⟩
         have HW4 : Hid (Below w.heap.size w w4) := Lib.hid (Below.to HW3a.out hb)
         have HX4 := Lib.hid ((HX3a.out.keep hb).alloc (.cells #[.int .i64 N, .int .i64 T1.kind, .string T1.name, .int .i64 T1.n, .slice a4 n4 c4] 75))
         have HY4 := Lib.hid ((HY3.out.keep hb).alloc (.cells #[.int .i64 N, .int .i64 T1.kind, .string T1.name, .int .i64 T1.n, .slice a4 n4 c4] 75))
         have HZ4 := Lib.hid (Bo.new w4 75 #[.int .i64 N, .int .i64 T1.kind, .string T1.name, .int .i64 T1.n, .slice a4 n4 c4])
         have HM4 : Hid (MemW (w4.alloc (.cells #[.int .i64 N, .int .i64 T1.kind, .string T1.name, .int .i64 T1.n, .slice a4 n4 c4] 75)) (.s 4 (Tm.rows T1.args)) (.slice a4 n4 c4)) := Lib.hid (MemW.alloc (hm.mono (fun b hb => hb.2) fun _ _ => rfl : MemW w4 _ _) _)
         have HM3b : Hid (MemW (w4.alloc (.cells #[.int .i64 N, .int .i64 T1.kind, .string T1.name, .int .i64 T1.n, .slice a4 n4 c4] 75)) (.s 4 (Tm.rows T1.args)) (.slice a3 n3 c3)) := Lib.hid (MemW.alloc (MemW.keep HM3a.out hb) _)
         have HW4a := Lib.hid (HW4.out.alloc HW4.out.size (.cells #[.int .i64 N, .int .i64 T1.kind, .string T1.name, .int .i64 T1.n, .slice a4 n4 c4] 75))
         obtain ⟨y0, y1, y2, y3, y4⟩ := HY4.out.c5
         clear hb hm)
      | (go_at_call 60
         refine (HV1.out n3 c3 a3 _ HM3b.out).mono ?_
         rintro e w5 ⟨a5, n5, c5, rfl, hb, hm⟩
         have hnl5 := hm.len
         rw [intRows_len, HVL.out] at hnl5
         obtain rfl := hnl5.1
         have hc5 := hnl5.2.1
         have hm5 := hnl5.2.2
         have HM5 : Hid (MemW w5 (.s 1 (intRows V1)) (.slice a5 N c5)) := Lib.hid (hm.mono (fun b hb => hb.2) fun _ _ => rfl)
         have HW5 : Hid (Below w.heap.size w w5) := Lib.hid (Below.to HW4a.out hb)
         have HX5 := Lib.hid (HX4.out.keep hb)
         have HY5 := Lib.hid (HY4.out.keep hb)
         have HZ5 := Lib.hid (HZ4.out.keep hb)
         have HMA := Lib.hid (MemW.keep HM4.out hb)
         have HMB := Lib.hid (MemW.keep HM3b.out hb)
         clear y0 y1 y2 y3 y4 hb hm hnl5
         obtain ⟨x0, x1, x2, x3⟩ := HX5.out.c4
         obtain ⟨y0, y1, y2, y3, y4⟩ := HY5.out.c5
         obtain ⟨z0, z1, z2, z3, z4⟩ := HZ5.out.c5))
    have HD5 : Hid (Below w.heap.size w w5.drew) := Lib.hid (below_drewN HW5.out 1)
    have tok1 : True := trivial
    have HTZ : Hid (T1.size = t.size) := HZ1
    go_region_held3 (fun w' => w'.cell? ⟨w.heap.size, 0, none⟩ = some (.int .i64 t.kind) ∧ w'.cell? ⟨w.heap.size, 1, none⟩ = some (.string t.name) ∧ w'.cell? ⟨w.heap.size, 2, none⟩ = some (.int .i64 t.n) ∧ w'.cell? ⟨w.heap.size, 3, none⟩ = some (.slice a n cap) ∧ w'.cell? ⟨w3.heap.size, 0, none⟩ = some (.int .i64 N) ∧ w'.cell? ⟨w3.heap.size, 1, none⟩ = some (.int .i64 T1.kind) ∧ w'.cell? ⟨w3.heap.size, 2, none⟩ = some (.string T1.name) ∧ w'.cell? ⟨w3.heap.size, 3, none⟩ = some (.int .i64 T1.n) ∧ w'.cell? ⟨w3.heap.size, 4, none⟩ = some (.slice a3 n3 c3) ∧ w'.cell? ⟨w4.heap.size, 0, none⟩ = some (.int .i64 N) ∧ w'.cell? ⟨w4.heap.size, 1, none⟩ = some (.int .i64 T1.kind) ∧ w'.cell? ⟨w4.heap.size, 2, none⟩ = some (.string T1.name) ∧ w'.cell? ⟨w4.heap.size, 3, none⟩ = some (.int .i64 T1.n) ∧ w'.cell? ⟨w4.heap.size, 4, none⟩ = some (.slice a4 n4 c4))
      ((repeat' apply And.intro) <;> (repeat (first | with_reducible assumption | with_reducible refine cell_drew ?_ | with_reducible refine cell_alloc _ ?_ | with_reducible refine cell_row_far _ ?_ (by omega) | with_reducible refine cell_below ?_ HB9.out | with_reducible refine cell_below ?_ HB8.out | with_reducible refine cell_below ?_ HB7.out | with_reducible refine cell_below ?_ HB6.out)))
      (first
        | (go_at_call 55
           refine (same11_any T1 T1 _ _ _ _ _ _ _ (MemW.drew HMA.out) (MemW.drew HMB.out)).mono ?_
           rintro e w6 ⟨rfl, hb⟩
           rw [sameT_self]
           have HB6 := Lib.hid (Below.one hb)
           have HW6 : Hid (Below w.heap.size w w6) := Lib.hid (Below.to HW5.out HB6.out)
           clear hb)
        | (go_at_call 52
           have _t := tok1
           refine (size11_any (t := T1) _ (MemW.keep HMB.out HB6.out) (by rw [HTZ.out]; exact HZ.out)).mono ?_
           rintro e w7 ⟨rfl, hb⟩
           rw [HTZ.out]
           have HB7 := Lib.hid hb
           have HW7 : Hid (Below w.heap.size w w7) := Lib.hid (Below.to HW6.out hb)
           clear hb tok1 _t)
        | (go_at_call 52
           refine (size11_any (t := t) _ (MemW.keep HT.out HW7.out) HZ.out).mono ?_
           rintro e w8 ⟨rfl, hb⟩
           have HB8 := Lib.hid hb
           have HW8 : Hid (Below w.heap.size w w8) := Lib.hid (Below.to HW7.out hb)
           clear hb)
        | (go_at_call 60
           refine (HV0.out _ (MemW.keep HT.out HW8.out)).mono ?_
           rintro e w9 ⟨a9, n9, c9, rfl, hb, hm⟩
           have hnl9 := hm.len
           rw [intRows_len, HN.out] at hnl9
           obtain rfl := hnl9.1
           have hc9 := hnl9.2.1
           have hm9 := hnl9.2.2
           have HB9 := Lib.hid hb
           have HW9 : Hid (Below w.heap.size w w9) := Lib.hid (Below.to HW8.out hb)
           clear hb hm hnl9))
    go_wp2
    have HM9 := Lib.hid (MemW.keep (MemW.keep (MemW.keep (MemW.keep HM5.out HB6.out) HB7.out) HB8.out) HB9.out)
    go_loop [59] (fun i => ∃ k : Nat, k ≤ N ∧ i = .int .i64 k) (fun i => N - (intOf i).toNat)
    case atStart => exact ⟨0, Nat.zero_le _, rfl⟩
    case round =>
      obtain ⟨k, hk, rfl⟩ := hrel
      by_cases hlt : k < N
      · obtain ⟨b, o, x, rfl, _, Hx, hc⟩ := int_at HM9.out k hlt
        obtain rfl := HVA.out k x Hx.out
        go_wp2
        go_round
        case rel => exact ⟨k + 1, by omega, by go_num⟩
        case measure => simp [intOf]; omega
      · go_wp2
        go_ret
        exact ⟨rfl, HW9.out⟩
  · have hg' : goodB t = false := by simpa using hg
    rw [hg'] at HGC
    clear h hs hg hg'
    go_enter Try.func12, Try.ntmps12
    go_wp2_with (first
      | (go_at_call 39 ; refine (awake11_any _).mono ?_; rintro e w1 ⟨rfl, hb⟩; have HW1 : Hid (Below w.heap.size w w1) := Lib.hid (Below.to HW0.out hb); obtain ⟨g0, g1, g2, g3⟩ := (HB0.out.keep hb).c4; clear hb)
      | (go_at_call 57
         refine (HGC.out w1 (MemW.keep HT.out HW1.out)).mono ?_
         rintro e w2 ⟨rfl, hb⟩
         have HW2 : Hid (Below w.heap.size w w2) := Lib.hid (Below.to HW1.out hb)
         clear hb))
    go_ret
    exact ⟨rfl, HW2.out⟩
end Go.Proofs.Ytemkpecagflafaa
