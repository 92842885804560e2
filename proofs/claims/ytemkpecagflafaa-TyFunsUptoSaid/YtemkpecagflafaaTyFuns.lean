/-
  The walk of the law TyFuns: it answers true at every input. No condition but how the arguments lie and how great they are.
-/
import Derived.Test.YtemkpecagflafaaAwake11
import Derived.Test.YtemkpecagflafaaNamed
namespace Go.Proofs.Ytemkpecagflafaa
open Go.RowKit
attribute [local go_sem ↓] store_type
attribute [local go_sem] stOk_type
attribute [local go_sem] stB_eq stC_eq wr_drew wr_alloc wr_row
attribute [local go_sem] toList_beq

theorem splF_fun (l : List Tm) (to : Tm) : ∀ j, j ≤ l.length → splF j (funT l to) = some (l.take j, funT (l.drop j) to) := by
  intro j
  induction j with
  | zero => intro _; rfl
  | succ j ih =>
    intro hj
    rw [splF, ih (by omega)]
    have hx : l[j]? = some l[j] := List.getElem?_eq_getElem (by omega)
    rw [funT_drop l to j _ hx, Option.bind_some, take_at hx]
    rfl
theorem splF_whole (l : List Tm) (to : Tm) : splF l.length (funT l to) = some (l, to) := by
  rw [splF_fun l to _ (Nat.le_refl _), List.take_length, List.drop_length]; rfl

/-- The variable of the law. -/
def qT : Tm := .mk 1 ⟨#[113]⟩ 0 []
theorem q_mem (S : Nat → Prop) (w : World) : Mem S w (.s 4 (Tm.rows qT.args)) (.slice none 0 0) := by rw [show qT.args = [] from rfl, Tm.rows]; exact .e _ _ _ (by decide)
set_option maxRecDepth 100000 in
set_option maxHeartbeats 2000000 in
theorem tyFuns_any {l by_ : List Tm} {to : Tm} {names : List ByteArray} {n0 c0 n1 c1 n3 c3 n4 c4 : Nat} {a0 a1 a3 a4 : Option Addr} (z : Int) (w : World) (hl : MemW w (.s 4 (Tm.rows l)) (.slice a0 n0 c0)) (hto : MemW w (.s 4 (Tm.rows to.args)) (.slice a1 n1 c1)) (hn : MemW w (.s 1 (strRows names)) (.slice a3 n3 c3)) (hb : MemW w (.s 4 (Tm.rows by_)) (.slice a4 n4 c4))
    (sl : ∀ x ∈ l, x.size ≤ 1048576) (st : to.size ≤ 1048576) (sb : ∀ x ∈ by_, x.size ≤ 1048576) :
    Calls Try.prog 9 #[.slice a0 n0 c0, .agg #[.int .i64 to.kind, .string to.name, .int .i64 to.n, .slice a1 n1 c1], .int .i64 z, .slice a3 n3 c3, .slice a4 n4 c4] w fun e w' => e = .returned (.bool true) ∧ Below w.heap.size w w' := by
  have HL := Lib.hid hl
  have HTo := Lib.hid hto
  have HN := Lib.hid hn
  have HBy := Lib.hid hb
  have l0 := (Tms.len hl).2
  have l4 := (Tms.len hb).2
  have l3 := (Mem.len hn).2
  have HLl := Lib.hid (Tms.len hl).1
  have HLb := Lib.hid (Tms.len hb).1
  have SL := Lib.hid sl
  have ST := Lib.hid st
  have SB := Lib.hid sb
  clear hl hto hn hb sl st sb
  have HW0 := Lib.hid (below_new w (.cells #[.int .i64 to.kind, .string to.name, .int .i64 to.n, .slice a1 n1 c1] 52))
  have HB0 := Lib.hid (Bo.new w 52 #[.int .i64 to.kind, .string to.name, .int .i64 to.n, .slice a1 n1 c1])
  by_cases h1 : 10 < n0
  · have h1' : (10 : Int) < n0 := by omega
    go_enter Try.func9, Try.ntmps9
    go_wp2_with (first | (go_at_call 39 ; refine (awake11_any _).mono ?_; rintro e w1 ⟨rfl, hb⟩; have HB1 := Lib.hid hb; clear hb))
    go_ret
    exact ⟨rfl, Below.toA (Below.refl _ _) HB1.out⟩
  have h1' : (n0 : Int) ≤ 10 := by omega
  have d1 : decide ((10 : Int) < (n0 : Int)) = false := decide_eq_false (by omega)
  by_cases h2 : 20 < z
  · go_enter Try.func9, Try.ntmps9
    go_wp2_with (first | (go_at_call 39 ; refine (awake11_any _).mono ?_; rintro e w1 ⟨rfl, hb⟩; have HB1 := Lib.hid hb; clear hb))
    go_ret
    exact ⟨rfl, Below.toA (Below.refl _ _) HB1.out⟩
  have h2' : z ≤ 20 := by omega
  have d2 : decide ((20 : Int) < z) = false := decide_eq_false (by omega)
  have HCA : Hid (∀ (w1 : World), Below (w.heap.size + 1) (w.alloc (.cells #[.int .i64 to.kind, .string to.name, .int .i64 to.n, .slice a1 n1 c1] 52)) w1 → Calls Try.prog 40 #[.agg #[.int .i64 to.kind, .string to.name, .int .i64 to.n, .slice a1 n1 c1]] w1 (Gives w1.heap.size 4 (Tm.rows to.all) w1)) := fun w1 hb => all09 ST.out ((MemW.keep (MemW.keep HTo.out HW0.out) (hb.mono (by rw [World.size_alloc]; exact Nat.le_refl _)))) (Nat.le_refl _)
  have hsz : (Tm.rows to.all).length = to.size := by rw [Tm.rows_len]; rfl
  by_cases h3 : 60 < to.size
  · have h3' : (60 : Int) < to.size := by omega
    go_enter Try.func9, Try.ntmps9
    go_wp2_with (first
      | (go_at_call 39 ; refine (awake11_any _).mono ?_; rintro e w1 ⟨rfl, hb⟩; have HB1 := Lib.hid hb; clear hb; have HB1' := Lib.hid (HB0.out.keep HB1.out); obtain ⟨t0, t1, t2, t3⟩ := HB1'.out.c4)
      | (go_at_call 40 ; refine (HCA.out _ (World.size_alloc w _ ▸ HB1.out)).mono ?_; rintro e w2 ⟨aa, na, ca, rfl, hb, hm⟩; have hna := hm.len.1.symm.trans hsz; subst hna; have HB2 := Lib.hid hb; clear hb hm))
    go_ret
    exact ⟨rfl, Below.to (Below.toA (Below.refl _ _) HB1.out) HB2.out⟩
  have h3' : (to.size : Int) ≤ 60 := by omega
  have d3 : decide ((60 : Int) < (to.size : Int)) = false := decide_eq_false (by omega)
  by_cases h4 : 10 < n4
  · have h4' : (10 : Int) < n4 := by omega
    go_enter Try.func9, Try.ntmps9
    go_wp2_with (first
      | (go_at_call 39 ; refine (awake11_any _).mono ?_; rintro e w1 ⟨rfl, hb⟩; have HB1 := Lib.hid hb; clear hb; have HB1' := Lib.hid (HB0.out.keep HB1.out); obtain ⟨t0, t1, t2, t3⟩ := HB1'.out.c4)
      | (go_at_call 40 ; refine (HCA.out _ (World.size_alloc w _ ▸ HB1.out)).mono ?_; rintro e w2 ⟨aa, na, ca, rfl, hb, hm⟩; have hna := hm.len.1.symm.trans hsz; subst hna; have HB2 := Lib.hid hb; clear hb hm))
    go_ret
    exact ⟨rfl, Below.to (Below.toA (Below.refl _ _) HB1.out) HB2.out⟩
  have h4' : (n4 : Int) ≤ 10 := by omega
  have d4 : decide ((10 : Int) < (n4 : Int)) = false := decide_eq_false (by omega)
  by_cases h5 : 10 < n3
  · have h5' : (10 : Int) < n3 := by omega
    go_enter Try.func9, Try.ntmps9
    go_wp2_with (first
      | (go_at_call 39 ; refine (awake11_any _).mono ?_; rintro e w1 ⟨rfl, hb⟩; have HB1 := Lib.hid hb; clear hb; have HB1' := Lib.hid (HB0.out.keep HB1.out); obtain ⟨t0, t1, t2, t3⟩ := HB1'.out.c4)
      | (go_at_call 40 ; refine (HCA.out _ (World.size_alloc w _ ▸ HB1.out)).mono ?_; rintro e w2 ⟨aa, na, ca, rfl, hb, hm⟩; have hna := hm.len.1.symm.trans hsz; subst hna; have HB2 := Lib.hid hb; clear hb hm))
    go_ret
    exact ⟨rfl, Below.to (Below.toA (Below.refl _ _) HB1.out) HB2.out⟩
  have h5' : (n3 : Int) ≤ 10 := by omega
  have d5 : decide ((10 : Int) < (n3 : Int)) = false := decide_eq_false (by omega)
  clear h1 h2 h3 h4 h5
  have tok1 : True := trivial
  go_enter Try.func9, Try.ntmps9
  go_wp2_with (first
      | (go_at_call 39 ; refine (awake11_any _).mono ?_; rintro e w1 ⟨rfl, hb⟩; have HB1 := Lib.hid hb; clear hb; have HB1' := Lib.hid (HB0.out.keep HB1.out); obtain ⟨t0, t1, t2, t3⟩ := HB1'.out.c4)
      | (go_at_call 40 ; refine (HCA.out _ (World.size_alloc w _ ▸ HB1.out)).mono ?_; rintro e w2 ⟨aa, na, ca, rfl, hb, hm⟩; have hna := hm.len.1.symm.trans hsz; subst hna; have HB2 := Lib.hid hb; clear hb hm)
      | (at_builtin
         have _t := tok1
         have HW2 : Hid (Below w.heap.size w w2) := Below.to (Below.toA (Below.refl _ _) HB1.out) HB2.out
         have HL2 : Hid (Mem (fun b => Nw w.heap.size w2.heap.size w2.heap.size b ∧ (Value.slice none 0 0).ownBlock ≠ some b) w2 (.s 4 (Tm.rows l)) (.slice a0 n0 c0)) := (Mem.keep HL.out (Nat.le_refl _) HW2.out).mono (fun b hb => ⟨⟨.inl hb, Nat.lt_of_lt_of_le hb HW2.out.size⟩, fun e => by cases e⟩) fun _ _ => rfl
         refine wpList_append_D rfl _ _ rfl Try.underlying50 info_type rfl (by decide) rfl rfl (OwnD.nil w.heap.size w2.heap.size 52 4 w2) HL2.out (by rw [List.length_nil, Tm.rows_len, HLl.out]; omega) (by rw [List.length_nil, Tm.rows_len, HLl.out]; omega) (Nat.le_refl _) ?_
         intro v3 w3 ho hg
         have HO3 := Lib.hid ho
         have HG3 := Lib.hid hg
         clear ho hg tok1 _t
         have HB3 : Hid (Below w2.heap.size w2 w3) := grown_below (Below.refl _ _) HG3.out (Nat.le_refl _) (fun k hk => by cases hk))
      | (at_builtin
         have HBy3 := Lib.hid (HO3.out.old HW2.out.size HB3.out.size (Mem.keep HBy.out (Nat.le_refl _) (HW2.out.trans (HB3.out.mono HW2.out.size))))
         refine wpList_append_D rfl _ _ rfl Try.underlying50 info_type rfl (by decide) rfl rfl HO3.out HBy3.out (by rw [List.nil_append, Tm.rows_len, Tm.rows_len, HLl.out, HLb.out]; omega) (by rw [List.nil_append, Tm.rows_len, Tm.rows_len, HLl.out, HLb.out]; omega) HB3.out.size ?_
         intro v4 w4 ho hg
         have HO4 := Lib.hid ho
         have HB4 : Hid (Below w2.heap.size w2 w4) := grown_below HB3.out hg (Nat.le_refl _) (fun k hk => (HO3.out.lt k hk).1)
         rw [List.nil_append, ← Tm.rows_app] at HO4
         have hlen : (Tm.rows (l ++ by_)).length = n0 + n4 := by rw [Tm.rows_len, List.length_append, HLl.out, HLb.out]
         obtain ⟨a4', c4', rfl, ho1, ho2⟩ := HO4.out.form
         have HM4 := Lib.hid (nw_memW HO4.out.mem)
         rw [hlen] at HM4 ho1
         have HW4 := Lib.hid (HW2.out.trans (HB4.out.mono HW2.out.size))
         have HBo4 := Lib.hid ((HB1'.out.keep HB2.out).keep HB4.out)
         rw [hlen]
         clear ho hg hlen HO4))
  go_loopw [53] (fun i wr => ∃ k : Nat, k ≤ n0 + n4 ∧ i = .int .i64 k ∧ Hid (Below w4.heap.size w4 wr)) (fun i _ => n0 + n4 - (intOf i).toNat)
  case atStart => exact ⟨0, Nat.zero_le _, rfl, Below.refl _ _⟩
  case round =>
    obtain ⟨k, hk, rfl, HB⟩ := hrel
    by_cases hlt : k < n0 + n4
    · obtain ⟨b, o, x, ax, nx, capx, rfl, hbB, Hx, x0, x1, x2, x3, GX⟩ := tm_at (MemW.keep HM4.out HB.out) k hlt
      have SX := Lib.hid (show x.size ≤ 1048576 from by
        rcases List.mem_append.1 (mem_of_at Hx.out) with h | h
        · exact SL.out x h
        · exact SB.out x h)
      have hxz : (Tm.rows x.all).length = x.size := by rw [Tm.rows_len]; rfl
      have hki : (k : Int) < (n0 : Int) + n4 := by omega
      by_cases h60 : 60 < x.size
      · have h60' : (60 : Int) < x.size := by omega
        go_wp2_with (first
          | (go_at_call 40 ; refine (all09 SX.out (MemW.keep GX.out (below_new wr _)) (Nat.le_refl _)).mono ?_; rintro e w5 ⟨aa5, na5, ca5, rfl, hb, hm⟩; have hna := hm.len.1.symm.trans hxz; subst hna; have HB5 := Lib.hid hb; clear hb hm))
        go_ret
        exact ⟨rfl, HW4.out.trans ((Below.toA HB.out HB5.out).mono HW4.out.size)⟩
      · have h60' : (x.size : Int) ≤ 60 := by omega
        have d60 : decide ((60 : Int) < (x.size : Int)) = false := decide_eq_false (by omega)
        go_wp2_with (first
          | (go_at_call 40 ; refine (all09 SX.out (MemW.keep GX.out (below_new wr _)) (Nat.le_refl _)).mono ?_; rintro e w5 ⟨aa5, na5, ca5, rfl, hb, hm⟩; have hna := hm.len.1.symm.trans hxz; subst hna; have HB5 := Lib.hid hb; clear hb hm))
        go_roundw
        case rel => exact ⟨k + 1, by omega, by go_num, Below.toA HB.out HB5.out⟩
        case measure => simp [intOf]; omega
    · have hki : ¬ (k : Int) < (n0 : Int) + n4 := by omega
      have HWr := Lib.hid (HW4.out.trans (HB.out.mono HW4.out.size))
      have HBor := Lib.hid (HBo4.out.keep HB.out)
      have HS1 : Hid (splF ((n0 : Int).toNat) (funT l to) = some (l, to)) := Lib.hid (by rw [Int.toNat_natCast, ← HLl.out]; exact splF_whole l to)
      obtain ⟨t0', t1', t2', t3'⟩ := HBor.out.c4
      clear t0 t1 t2 t3
      go_wp2_with (first
        | (go_at_call 41
           refine (fun_any (MemW.keep HL.out HWr.out) (MemW.keep HTo.out HWr.out) (Nat.le_refl _)).mono ?_
           rintro e w5 ⟨a5, n5, cc5, rfl, hb, hm⟩
           have HB5 := Lib.hid hb
           have HM5 := Lib.hid (nw_memW hm)
           clear hb hm)
        | (go_at_call 42
           refine (split_any (t := funT l to) (n0 : Int) (by omega) (MemW.alloc HM5.out _) (Nat.le_refl _)).mono ?_
           rintro e w6 hg
           rw [HS1.out] at hg
           obtain ⟨hb, a6, m6, c6, a7, m7, c7, rfl, hm6, hm7⟩ := hg
           have HB6 := Lib.hid hb
           have HM6 := Lib.hid (nw_memW hm6)
           have HM7 : Hid (MemW w6 (.s 4 (Tm.rows to.args)) (.slice a7 m7 c7)) := hm7.le hb.size
           have HBo6 := Lib.hid (((HBor.out.keep HB5.out).alloc _).keep HB6.out)
           have HF6 := Lib.hid ((Bo.new w5 52 #[.int .i64 (funT l to).kind, .string (funT l to).name, .int .i64 (funT l to).n, .slice a5 n5 cc5]).keep HB6.out)
           have HX6 := Lib.hid (Bo.new w6 52 #[.int .i64 to.kind, .string to.name, .int .i64 to.n, .slice a7 m7 c7])
           have HW6 : Hid (Below w.heap.size w w6) := Below.toA (Below.to HWr.out HB5.out) HB6.out
           have HM5' := Lib.hid (MemW.keep (MemW.alloc HM5.out _) HB6.out)
           obtain ⟨p0, p1, p2, p3⟩ := HBo6.out.c4
           obtain ⟨f0, f1, f2, f3⟩ := HF6.out.c4
           obtain ⟨x0, x1, x2, x3⟩ := HX6.out.c4
           clear hb hm6 hm7 t0' t1' t2' t3'))
      have tok2 : True := trivial
      have HZ6 : Hid (Below w.heap.size w (w6.alloc (.cells #[.int .i64 to.kind, .string to.name, .int .i64 to.n, .slice a7 m7 c7] 52)).drew) := below_drewN (HW6.out.alloc HW6.out.size _) 1
      go_region_held3 (fun w' => w'.cell? ⟨w5.heap.size, 0, none⟩ = some (.int .i64 (funT l to).kind) ∧ w'.cell? ⟨w5.heap.size, 1, none⟩ = some (.string (funT l to).name) ∧ w'.cell? ⟨w5.heap.size, 2, none⟩ = some (.int .i64 (funT l to).n) ∧ w'.cell? ⟨w5.heap.size, 3, none⟩ = some (.slice a5 n5 cc5) ∧
          w'.cell? ⟨w.heap.size, 0, none⟩ = some (.int .i64 to.kind) ∧ w'.cell? ⟨w.heap.size, 1, none⟩ = some (.string to.name) ∧ w'.cell? ⟨w.heap.size, 2, none⟩ = some (.int .i64 to.n) ∧ w'.cell? ⟨w.heap.size, 3, none⟩ = some (.slice a1 n1 c1) ∧
          w'.cell? ⟨w6.heap.size, 0, none⟩ = some (.int .i64 to.kind) ∧ w'.cell? ⟨w6.heap.size, 1, none⟩ = some (.string to.name) ∧ w'.cell? ⟨w6.heap.size, 2, none⟩ = some (.int .i64 to.n) ∧ w'.cell? ⟨w6.heap.size, 3, none⟩ = some (.slice a7 m7 c7))
        ((repeat' apply And.intro) <;> (repeat (first | with_reducible assumption | with_reducible refine cell_drew ?_ | with_reducible refine cell_alloc _ ?_ | with_reducible refine cell_row_far _ ?_ (by omega) | with_reducible refine cell_below ?_ HB10.out | with_reducible refine cell_below ?_ HB9.out | with_reducible refine cell_below ?_ HB8.out | with_reducible refine cell_below ?_ HB7.out)))
        (first
          | (go_at_call 44
             refine (fun09_any l to _ _ _ _ _ _ _ _ (MemW.keep HL.out HZ6.out) (MemW.keep HTo.out HZ6.out) (Nat.le_refl _)).mono ?_
             rintro e w7 ⟨a8, n8, c8, rfl, hb, hm⟩
             have HB7 := Lib.hid (Below.one hb)
             have HM8 := Lib.hid (nw_memW hm)
             clear hb hm)
          | (go_at_call 43
             have _t := tok2
             refine (sameType (t := funT l to) (u := funT l to) _ (MemW.keep (MemW.alloc HM5'.out _) HB7.out) HM8.out).mono ?_
             rintro e w8 ⟨rfl, hb⟩
             rw [decide_eq_true (p := funT l to = funT l to) rfl]
             have HB8 := Lib.hid hb
             clear hb tok2 _t)
          | (go_at_call 43
             refine (sameType (t := to) (u := to) _ (MemW.keep (MemW.keep (MemW.alloc HM7.out _) HB7.out) HB8.out) (MemW.keep (MemW.keep (MemW.alloc (MemW.keep HTo.out HW6.out) _) HB7.out) HB8.out)).mono ?_
             rintro e w9 ⟨rfl, hb⟩
             rw [decide_eq_true (p := to = to) rfl]
             have HB9 := Lib.hid hb
             clear hb)
          | (go_at_call 45
             refine (sameTypes_any (l := l) (m := l) _ (MemW.keep (MemW.keep (MemW.keep (MemW.alloc HM6.out _) HB7.out) HB8.out) HB9.out) (MemW.keep (MemW.keep (MemW.keep (MemW.alloc (MemW.keep HL.out HW6.out) _) HB7.out) HB8.out) HB9.out)).mono ?_
             rintro e w10 ⟨rfl, hb⟩
             rw [decide_eq_true (p := l = l) rfl]
             have HB10 := Lib.hid hb
             clear hb))
      have HW10 : Hid (Below w.heap.size w w10) := Below.to (Below.to (Below.to (Below.to (HW6.out.alloc HW6.out.size _) HB7.out) HB8.out) HB9.out) HB10.out
      have HF10 := Lib.hid (((((HF6.out.alloc (.cells #[.int .i64 to.kind, .string to.name, .int .i64 to.n, .slice a7 m7 c7] 52)).keep HB7.out).keep HB8.out).keep HB9.out).keep HB10.out)
      have HM10 := Lib.hid (MemW.keep (MemW.keep (MemW.keep (MemW.keep (MemW.alloc HM5'.out (.cells #[.int .i64 to.kind, .string to.name, .int .i64 to.n, .slice a7 m7 c7] 52)) HB7.out) HB8.out) HB9.out) HB10.out)
      have HN10 := Lib.hid (MemW.keep HN.out HW10.out)
      have HBy10 := Lib.hid (MemW.keep HBy.out HW10.out)
      obtain ⟨g0, g1, g2, g3⟩ := HF10.out.c4
      have hi1 := idxI_ge' names ⟨#[113]⟩
      have HPL : Hid (∀ (w' : World), MemW w' (.s 1 (strRows names)) (.slice a3 n3 c3) → Calls Try.prog 47 #[.slice a3 n3 c3, .string ⟨#[113]⟩] w' fun e w2 => e = .returned (.int .i64 (idxI names ⟨#[113]⟩)) ∧ w' = w2) := fun w' h => place09_any ⟨#[113]⟩ w' h
      have HVV : Hid (namedV names by_ qT = if 0 ≤ idxI names ⟨#[113]⟩ then by_[(idxI names ⟨#[113]⟩).toNat]? else none) := Lib.hid rfl
      clear p0 p1 p2 p3 f0 f1 f2 f3 x0 x1 x2 x3 hki
      generalize idxI names ⟨#[113]⟩ = i at *
      have hzn : Hid (splF z.toNat (funT l to) = none → (n0 : Int) < z) := fun h => by
        rcases Int.lt_or_le (n0 : Int) z with h1 | h1
        · exact h1
        · exfalso
          have := splF_fun l to z.toNat (by rw [HLl.out]; omega)
          rw [this] at h; cases h
      rcases hr : splF z.toNat (funT l to) with _ | ⟨ks, u⟩
      · by_cases hat : 0 ≤ i ∧ i < (n4 : Int)
        · have hzl := hzn.out hr
          have HR := Lib.hid hr
          clear hr
          obtain ⟨iv, rfl⟩ : ∃ iv : Nat, i = iv := ⟨i.toNat, by omega⟩
          obtain ⟨b9, o9, x9, ax, nx, capx, rfl, hbB9, Hx9, y0, y1, y2, y3, GX9⟩ := tm_at HBy10.out iv (by omega)
          have HV : Hid ((namedV names by_ qT).getD qT = x9) := Lib.hid (by rw [HVV.out, if_pos (by omega), Int.toNat_natCast, Hx9.out]; rfl)
          have i0 : (0 : Int) ≤ (iv : Int) := by omega
          have i4 : (iv : Int) < (n4 : Int) := by omega
          go_wp2_with (first
            | (go_at_call 42
               refine (split_any (t := funT l to) z (by omega) HM10.out (Nat.le_refl _)).mono ?_
               rintro e w11 hg
               rw [HR.out] at hg
               obtain ⟨hb, rfl⟩ := hg
               have HB11 := Lib.hid hb
               clear hb)
            | (go_at_call 46
               have HWU : Hid (Below w10.heap.size w10 ((w11.alloc (.cells #[.int .i64 0, .string ⟨#[]⟩, .int .i64 0, .slice none 0 0] 52)).alloc (.cells #[.int .i64 1, .string ⟨#[113]⟩, .int .i64 0, .slice none 0 0] 52))) := (HB11.out.alloc HB11.out.size _).alloc (by rw [World.size_alloc]; have := HB11.out.size; omega) _
               refine (named_any (names := names) (by_ := by_) (t := qT) (B := w10.heap.size) rfl (q_mem _ _) (MemW.keep HN10.out HWU.out) (Mem.keep HBy10.out (Nat.le_refl _) HWU.out) HWU.out.size (by omega)).mono ?_
               rintro e w12 hg
               rw [HV.out] at hg
               obtain ⟨a9, n9, c9, rfl, hb, hm⟩ := hg
               have HB12 := Lib.hid hb
               have HM12 := Lib.hid hm
               have HQ12 : Hid (Bo w12 (w11.heap.size + 1) 52 #[.int .i64 1, .string ⟨#[113]⟩, .int .i64 0, .slice none 0 0]) := by
                 have := (Bo.new (w11.alloc (.cells #[.int .i64 0, .string ⟨#[]⟩, .int .i64 0, .slice none 0 0] 52)) 52 #[.int .i64 1, .string ⟨#[113]⟩, .int .i64 0, .slice none 0 0]).keep hb
                 rw [World.size_alloc] at this; exact this
               obtain ⟨q0, q1, q2, q3⟩ := HQ12.out.c4
               have hqz := HQ12.out.lt
               have HBB := Lib.hid (HWU.out.trans (HB12.out.mono HWU.out.size))
               have HN12 := Lib.hid (MemW.keep HN10.out HBB.out)
               have z0 := cell_below y0 HBB.out
               have z1 := cell_below y1 HBB.out
               have z2 := cell_below y2 HBB.out
               have z3 := cell_below y3 HBB.out
               have GX12 := Lib.hid (Mem.keep GX9.out (Nat.le_refl _) HBB.out)
               have hwr : Wr w12 (w11.heap.size + 1) 52 4 := HQ12.out.wr
               clear hb hm)
            | (go_at_call 47
               refine (HPL.out _ (MemW.alloc HN12.out _)).mono ?_
               rintro e w13 ⟨rfl, rfl⟩
               have v0 := cell_alloc (.cells #[.int .i64 x9.kind, .string x9.name, .int .i64 x9.n, .slice a9 n9 c9] 52) z0
               have v1 := cell_alloc (.cells #[.int .i64 x9.kind, .string x9.name, .int .i64 x9.n, .slice a9 n9 c9] 52) z1
               have v2 := cell_alloc (.cells #[.int .i64 x9.kind, .string x9.name, .int .i64 x9.n, .slice a9 n9 c9] 52) z2
               have v3 := cell_alloc (.cells #[.int .i64 x9.kind, .string x9.name, .int .i64 x9.n, .slice a9 n9 c9] 52) z3
               obtain ⟨r0, r1, r2, r3⟩ := ((HQ12.out.alloc (.cells #[.int .i64 x9.kind, .string x9.name, .int .i64 x9.n, .slice a9 n9 c9] 52)).row #[.int .i64 x9.kind, .string x9.name, .int .i64 x9.n, .slice ax nx capx]).c4
               obtain ⟨s0, s1, s2, s3⟩ := ((Bo.new w12 52 #[.int .i64 x9.kind, .string x9.name, .int .i64 x9.n, .slice a9 n9 c9]).rowFar #[.int .i64 x9.kind, .string x9.name, .int .i64 x9.n, .slice ax nx capx] (show w12.heap.size ≠ w11.heap.size + 1 by omega)).c4)
            | (go_at_call 43
               have HGG : Hid (w10.heap.size ≤ w11.heap.size ∧ w10.heap.size ≤ w12.heap.size) := ⟨HB11.out.size, HBB.out.size⟩
               refine (sameType (t := x9) (u := x9) _ (((HM12.out.keep (Nat.le_refl _) ((below_new w12 _).mono HGG.out.2)).row _ _ (show ¬ w11.heap.size + 1 < w10.heap.size by have := HGG.out; omega)).le (by rw [size_setRow, World.size_alloc]; have := HGG.out; omega)) (((GX12.out.keep (Nat.le_refl _) ((below_new w12 _).mono HGG.out.2)).row _ _ (show ¬ w11.heap.size + 1 < w10.heap.size by have := HGG.out; omega)).le (by rw [size_setRow, World.size_alloc]; have := HGG.out; omega))).mono ?_
               rintro e w14 ⟨rfl, hb⟩
               rw [decide_eq_true (p := x9 = x9) rfl]
               have HB14 := Lib.hid hb
               clear hb))
          all_goals
            go_ret
            exact ⟨rfl, Below.to (below_setRow ((HW10.out.trans (HBB.out.mono HW10.out.size)).alloc (Nat.le_trans HW10.out.size HBB.out.size) _) (by have := HB11.out.size; have := HW10.out.size; omega) _) HB14.out⟩

        · have hat' : ¬ (0 ≤ i) ∨ ¬ (i < (n4 : Int)) := by omega
          clear hat
          have hzl := hzn.out hr
          have HR := Lib.hid hr
          clear hr
          have HV : Hid ((namedV names by_ qT).getD qT = qT) := Lib.hid (by
            rw [HVV.out]
            split
            · rw [List.getElem?_eq_none (by rw [HLb.out]; omega)]; rfl
            · rfl)
          go_wp2_with (first
            | (go_at_call 42
               refine (split_any (t := funT l to) z (by omega) HM10.out (Nat.le_refl _)).mono ?_
               rintro e w11 hg
               rw [HR.out] at hg
               obtain ⟨hb, rfl⟩ := hg
               have HB11 := Lib.hid hb
               clear hb)
            | (go_at_call 46
               have HWU : Hid (Below w10.heap.size w10 ((w11.alloc (.cells #[.int .i64 0, .string ⟨#[]⟩, .int .i64 0, .slice none 0 0] 52)).alloc (.cells #[.int .i64 1, .string ⟨#[113]⟩, .int .i64 0, .slice none 0 0] 52))) := (HB11.out.alloc HB11.out.size _).alloc (by rw [World.size_alloc]; have := HB11.out.size; omega) _
               refine (named_any (names := names) (by_ := by_) (t := qT) (B := w10.heap.size) rfl (q_mem _ _) (MemW.keep HN10.out HWU.out) (Mem.keep HBy10.out (Nat.le_refl _) HWU.out) HWU.out.size (by omega)).mono ?_
               rintro e w12 hg
               rw [HV.out] at hg
               obtain ⟨a9, n9, c9, rfl, hb, hm⟩ := hg
               have HB12 := Lib.hid hb
               have HM12 := Lib.hid hm
               have HQ12 : Hid (Bo w12 (w11.heap.size + 1) 52 #[.int .i64 1, .string ⟨#[113]⟩, .int .i64 0, .slice none 0 0]) := by
                 have := (Bo.new (w11.alloc (.cells #[.int .i64 0, .string ⟨#[]⟩, .int .i64 0, .slice none 0 0] 52)) 52 #[.int .i64 1, .string ⟨#[113]⟩, .int .i64 0, .slice none 0 0]).keep hb
                 rw [World.size_alloc] at this; exact this
               obtain ⟨q0, q1, q2, q3⟩ := HQ12.out.c4
               have hqz := HQ12.out.lt
               have HBB := Lib.hid (HWU.out.trans (HB12.out.mono HWU.out.size))
               have HN12 := Lib.hid (MemW.keep HN10.out HBB.out)
               clear hb hm)
            | (go_at_call 47
               refine (HPL.out _ (MemW.alloc HN12.out _)).mono ?_
               rintro e w13 ⟨rfl, rfl⟩)
            | (go_at_call 43
               refine (sameType (t := qT) (u := qT) _ (MemW.alloc (HM12.out.le HBB.out.size) _) (q_mem _ _)).mono ?_
               rintro e w14 ⟨rfl, hb⟩
               rw [decide_eq_true (p := qT = qT) rfl]
               have HB14 := Lib.hid hb
               clear hb))
          all_goals
            go_ret
            exact ⟨rfl, Below.toA (HW10.out.trans (HBB.out.mono HW10.out.size)) HB14.out⟩

      · by_cases hat : 0 ≤ i ∧ i < (n4 : Int)
        · have hkl := splF_len _ _ _ hr
          have HR := Lib.hid hr
          clear hr
          obtain ⟨iv, rfl⟩ : ∃ iv : Nat, i = iv := ⟨i.toNat, by omega⟩
          obtain ⟨b9, o9, x9, ax, nx, capx, rfl, hbB9, Hx9, y0, y1, y2, y3, GX9⟩ := tm_at HBy10.out iv (by omega)
          have HV : Hid ((namedV names by_ qT).getD qT = x9) := Lib.hid (by rw [HVV.out, if_pos (by omega), Int.toNat_natCast, Hx9.out]; rfl)
          have i0 : (0 : Int) ≤ (iv : Int) := by omega
          have i4 : (iv : Int) < (n4 : Int) := by omega
          go_wp2_with (first
            | (go_at_call 42
               refine (split_any (t := funT l to) z (by omega) HM10.out (Nat.le_refl _)).mono ?_
               rintro e w11 hg
               rw [HR.out] at hg
               obtain ⟨hb, a12, m12, c12, a13, m13, c13, rfl, hm12, hm13⟩ := hg
               have HB11 := Lib.hid hb
               have hkn := hm12.len.1
               rw [Tm.rows_len, hkl] at hkn
               have hmx : (if (0 : Int) > z then (0 : Int) else z) = (m12 : Int) := by split <;> omega
               clear hb hm12 hm13 hkn)
            | (go_at_call 46
               have HWU : Hid (Below w10.heap.size w10 ((w11.alloc (.cells #[.int .i64 u.kind, .string u.name, .int .i64 u.n, .slice a13 m13 c13] 52)).alloc (.cells #[.int .i64 1, .string ⟨#[113]⟩, .int .i64 0, .slice none 0 0] 52))) := (HB11.out.alloc HB11.out.size _).alloc (by rw [World.size_alloc]; have := HB11.out.size; omega) _
               refine (named_any (names := names) (by_ := by_) (t := qT) (B := w10.heap.size) rfl (q_mem _ _) (MemW.keep HN10.out HWU.out) (Mem.keep HBy10.out (Nat.le_refl _) HWU.out) HWU.out.size (by omega)).mono ?_
               rintro e w12 hg
               rw [HV.out] at hg
               obtain ⟨a9, n9, c9, rfl, hb, hm⟩ := hg
               have HB12 := Lib.hid hb
               have HM12 := Lib.hid hm
               have HQ12 : Hid (Bo w12 (w11.heap.size + 1) 52 #[.int .i64 1, .string ⟨#[113]⟩, .int .i64 0, .slice none 0 0]) := by
                 have := (Bo.new (w11.alloc (.cells #[.int .i64 u.kind, .string u.name, .int .i64 u.n, .slice a13 m13 c13] 52)) 52 #[.int .i64 1, .string ⟨#[113]⟩, .int .i64 0, .slice none 0 0]).keep hb
                 rw [World.size_alloc] at this; exact this
               obtain ⟨q0, q1, q2, q3⟩ := HQ12.out.c4
               have hqz := HQ12.out.lt
               have HBB := Lib.hid (HWU.out.trans (HB12.out.mono HWU.out.size))
               have HN12 := Lib.hid (MemW.keep HN10.out HBB.out)
               have z0 := cell_below y0 HBB.out
               have z1 := cell_below y1 HBB.out
               have z2 := cell_below y2 HBB.out
               have z3 := cell_below y3 HBB.out
               have GX12 := Lib.hid (Mem.keep GX9.out (Nat.le_refl _) HBB.out)
               have hwr : Wr w12 (w11.heap.size + 1) 52 4 := HQ12.out.wr
               clear hb hm)
            | (go_at_call 47
               refine (HPL.out _ (MemW.alloc HN12.out _)).mono ?_
               rintro e w13 ⟨rfl, rfl⟩
               have v0 := cell_alloc (.cells #[.int .i64 x9.kind, .string x9.name, .int .i64 x9.n, .slice a9 n9 c9] 52) z0
               have v1 := cell_alloc (.cells #[.int .i64 x9.kind, .string x9.name, .int .i64 x9.n, .slice a9 n9 c9] 52) z1
               have v2 := cell_alloc (.cells #[.int .i64 x9.kind, .string x9.name, .int .i64 x9.n, .slice a9 n9 c9] 52) z2
               have v3 := cell_alloc (.cells #[.int .i64 x9.kind, .string x9.name, .int .i64 x9.n, .slice a9 n9 c9] 52) z3
               obtain ⟨r0, r1, r2, r3⟩ := ((HQ12.out.alloc (.cells #[.int .i64 x9.kind, .string x9.name, .int .i64 x9.n, .slice a9 n9 c9] 52)).row #[.int .i64 x9.kind, .string x9.name, .int .i64 x9.n, .slice ax nx capx]).c4
               obtain ⟨s0, s1, s2, s3⟩ := ((Bo.new w12 52 #[.int .i64 x9.kind, .string x9.name, .int .i64 x9.n, .slice a9 n9 c9]).rowFar #[.int .i64 x9.kind, .string x9.name, .int .i64 x9.n, .slice ax nx capx] (show w12.heap.size ≠ w11.heap.size + 1 by omega)).c4)
            | (go_at_call 43
               have HGG : Hid (w10.heap.size ≤ w11.heap.size ∧ w10.heap.size ≤ w12.heap.size) := ⟨HB11.out.size, HBB.out.size⟩
               refine (sameType (t := x9) (u := x9) _ (((HM12.out.keep (Nat.le_refl _) ((below_new w12 _).mono HGG.out.2)).row _ _ (show ¬ w11.heap.size + 1 < w10.heap.size by have := HGG.out; omega)).le (by rw [size_setRow, World.size_alloc]; have := HGG.out; omega)) (((GX12.out.keep (Nat.le_refl _) ((below_new w12 _).mono HGG.out.2)).row _ _ (show ¬ w11.heap.size + 1 < w10.heap.size by have := HGG.out; omega)).le (by rw [size_setRow, World.size_alloc]; have := HGG.out; omega))).mono ?_
               rintro e w14 ⟨rfl, hb⟩
               rw [decide_eq_true (p := x9 = x9) rfl]
               have HB14 := Lib.hid hb
               clear hb))
          all_goals
            go_ret
            exact ⟨rfl, Below.to (below_setRow ((HW10.out.trans (HBB.out.mono HW10.out.size)).alloc (Nat.le_trans HW10.out.size HBB.out.size) _) (by have := HB11.out.size; have := HW10.out.size; omega) _) HB14.out⟩

        · have hat' : ¬ (0 ≤ i) ∨ ¬ (i < (n4 : Int)) := by omega
          clear hat
          have hkl := splF_len _ _ _ hr
          have HR := Lib.hid hr
          clear hr
          have HV : Hid ((namedV names by_ qT).getD qT = qT) := Lib.hid (by
            rw [HVV.out]
            split
            · rw [List.getElem?_eq_none (by rw [HLb.out]; omega)]; rfl
            · rfl)
          go_wp2_with (first
            | (go_at_call 42
               refine (split_any (t := funT l to) z (by omega) HM10.out (Nat.le_refl _)).mono ?_
               rintro e w11 hg
               rw [HR.out] at hg
               obtain ⟨hb, a12, m12, c12, a13, m13, c13, rfl, hm12, hm13⟩ := hg
               have HB11 := Lib.hid hb
               have hkn := hm12.len.1
               rw [Tm.rows_len, hkl] at hkn
               have hmx : (if (0 : Int) > z then (0 : Int) else z) = (m12 : Int) := by split <;> omega
               clear hb hm12 hm13 hkn)
            | (go_at_call 46
               have HWU : Hid (Below w10.heap.size w10 ((w11.alloc (.cells #[.int .i64 u.kind, .string u.name, .int .i64 u.n, .slice a13 m13 c13] 52)).alloc (.cells #[.int .i64 1, .string ⟨#[113]⟩, .int .i64 0, .slice none 0 0] 52))) := (HB11.out.alloc HB11.out.size _).alloc (by rw [World.size_alloc]; have := HB11.out.size; omega) _
               refine (named_any (names := names) (by_ := by_) (t := qT) (B := w10.heap.size) rfl (q_mem _ _) (MemW.keep HN10.out HWU.out) (Mem.keep HBy10.out (Nat.le_refl _) HWU.out) HWU.out.size (by omega)).mono ?_
               rintro e w12 hg
               rw [HV.out] at hg
               obtain ⟨a9, n9, c9, rfl, hb, hm⟩ := hg
               have HB12 := Lib.hid hb
               have HM12 := Lib.hid hm
               have HQ12 : Hid (Bo w12 (w11.heap.size + 1) 52 #[.int .i64 1, .string ⟨#[113]⟩, .int .i64 0, .slice none 0 0]) := by
                 have := (Bo.new (w11.alloc (.cells #[.int .i64 u.kind, .string u.name, .int .i64 u.n, .slice a13 m13 c13] 52)) 52 #[.int .i64 1, .string ⟨#[113]⟩, .int .i64 0, .slice none 0 0]).keep hb
                 rw [World.size_alloc] at this; exact this
               obtain ⟨q0, q1, q2, q3⟩ := HQ12.out.c4
               have hqz := HQ12.out.lt
               have HBB := Lib.hid (HWU.out.trans (HB12.out.mono HWU.out.size))
               have HN12 := Lib.hid (MemW.keep HN10.out HBB.out)
               clear hb hm)
            | (go_at_call 47
               refine (HPL.out _ (MemW.alloc HN12.out _)).mono ?_
               rintro e w13 ⟨rfl, rfl⟩)
            | (go_at_call 43
               refine (sameType (t := qT) (u := qT) _ (MemW.alloc (HM12.out.le HBB.out.size) _) (q_mem _ _)).mono ?_
               rintro e w14 ⟨rfl, hb⟩
               rw [decide_eq_true (p := qT = qT) rfl]
               have HB14 := Lib.hid hb
               clear hb))
          all_goals
            go_ret
            exact ⟨rfl, Below.toA (HW10.out.trans (HBB.out.mono HW10.out.size)) HB14.out⟩

end Go.Proofs.Ytemkpecagflafaa
