/-
  The walk of the law TermOrder: it answers true at every input. No condition but how the arguments lie and how great they are.
-/
import Derived.Test.YtemkpecagflafaaCompare
import Derived.Test.YtemkpecagflafaaAwake03
namespace Go.Proofs.Ytemkpecagflafaa
open Go.RowKit
attribute [local go_sem] toList_beq

theorem T3.cases {x y z : Int} (h : T3 x y z) : (x = -1 ∧ (y = -1 ∧ z = -1 ∨ y = 0 ∧ z = -1 ∨ y = 1 ∧ (z = -1 ∨ z = 0 ∨ z = 1))) ∨ (x = 0 ∧ (y = -1 ∧ z = -1 ∨ y = 0 ∧ z = 0 ∨ y = 1 ∧ z = 1)) ∨ (x = 1 ∧ (y = -1 ∧ (z = -1 ∨ z = 0 ∨ z = 1) ∨ y = 0 ∧ z = 1 ∨ y = 1 ∧ z = 1)) := by
  unfold T3 at h; omega

theorem three_mem {w : World} {q : Nat} (hq : q = w.heap.size) (t u v : Tm) {a a' a'' : Option Addr} {n n' n'' cap cap' cap'' : Nat} (h : MemW w (.s 4 (Tm.rows t.args)) (.slice a n cap)) (h' : MemW w (.s 4 (Tm.rows u.args)) (.slice a' n' cap')) (h'' : MemW w (.s 4 (Tm.rows v.args)) (.slice a'' n'' cap'')) :
    MemW (w.alloc (.cells #[.int .i64 t.kind, .string t.name, .int .i64 t.n, .slice a n cap, .int .i64 u.kind, .string u.name, .int .i64 u.n, .slice a' n' cap', .int .i64 v.kind, .string v.name, .int .i64 v.n, .slice a'' n'' cap''] 64)) (.s 4 (Tm.rows [t, u, v])) (.slice (some ⟨q, 0, none⟩) 3 3) := by
  subst hq
  have f : ∀ {x : At} {y : Value}, MemW w x y → Mem (Nw w.heap.size w.heap.size w.heap.size) w x y := fun h => h.mono (fun _ hb => ⟨.inl hb, hb⟩) fun _ _ => rfl
  have := OwnD.mem (OwnD.built (B := w.heap.size) (base := w.heap.size) (e := 64) (w := w) (rs := Tm.rows [t, u, v]) (css := [[.int .i64 t.kind, .string t.name, .int .i64 t.n, .slice a n cap], [.int .i64 u.kind, .string u.name, .int .i64 u.n, .slice a' n' cap'], [.int .i64 v.kind, .string v.name, .int .i64 v.n, .slice a'' n'' cap'']])
      (by rw [Tm.rows, Tm.rows, Tm.rows, Tm.rows]; exact .cons ⟨rfl, row_mk t (f h)⟩ (.cons ⟨rfl, row_mk u (f h')⟩ (.cons ⟨rfl, row_mk v (f h'')⟩ .nil))) (Nat.le_refl _) 3 (by rw [Tm.rows_len]; rfl) (by decide) #[.int .i64 t.kind, .string t.name, .int .i64 t.n, .slice a n cap, .int .i64 u.kind, .string u.name, .int .i64 u.n, .slice a' n' cap', .int .i64 v.kind, .string v.name, .int .i64 v.n, .slice a'' n'' cap''] rfl)
  exact this.mono (fun _ hb => hb.2) fun _ _ => rfl

set_option maxRecDepth 100000 in
set_option maxHeartbeats 2000000 in
theorem termOrder_any {t u v : Tm} {a a' a'' : Option Addr} {n n' n'' cap cap' cap'' : Nat} (w : World) (h : MemW w (.s 4 (Tm.rows t.args)) (.slice a n cap)) (h' : MemW w (.s 4 (Tm.rows u.args)) (.slice a' n' cap')) (h'' : MemW w (.s 4 (Tm.rows v.args)) (.slice a'' n'' cap'')) (hs : t.size + u.size + v.size ≤ 1048576) :
    Calls Try.prog 10 #[.agg #[.int .i64 t.kind, .string t.name, .int .i64 t.n, .slice a n cap], .agg #[.int .i64 u.kind, .string u.name, .int .i64 u.n, .slice a' n' cap'], .agg #[.int .i64 v.kind, .string v.name, .int .i64 v.n, .slice a'' n'' cap'']] w fun e w' => e = .returned (.bool true) ∧ Below w.heap.size w w' := by
  have hsz : (Tm.alls [t, u, v]).length ≤ 1048576 := by
    simp only [Tm.alls, List.length_append, List.length_nil]
    have : t.all.length = t.size := rfl
    have : u.all.length = u.size := rfl
    have : v.all.length = v.size := rfl
    omega
  have HW3 : Hid (Below w.heap.size w (((w.alloc (.cells #[.int .i64 t.kind, .string t.name, .int .i64 t.n, .slice a n cap] 64)).alloc (.cells #[.int .i64 u.kind, .string u.name, .int .i64 u.n, .slice a' n' cap'] 64)).alloc (.cells #[.int .i64 v.kind, .string v.name, .int .i64 v.n, .slice a'' n'' cap''] 64))) := ((below_new w _).alloc (by simp) _).alloc (by simp; omega) _
  have HBt : Hid (Bo (((w.alloc (.cells #[.int .i64 t.kind, .string t.name, .int .i64 t.n, .slice a n cap] 64)).alloc (.cells #[.int .i64 u.kind, .string u.name, .int .i64 u.n, .slice a' n' cap'] 64)).alloc (.cells #[.int .i64 v.kind, .string v.name, .int .i64 v.n, .slice a'' n'' cap''] 64)) w.heap.size 64 #[.int .i64 t.kind, .string t.name, .int .i64 t.n, .slice a n cap]) := ((Bo.new w _ _).alloc _).alloc _
  have HBu : Hid (Bo (((w.alloc (.cells #[.int .i64 t.kind, .string t.name, .int .i64 t.n, .slice a n cap] 64)).alloc (.cells #[.int .i64 u.kind, .string u.name, .int .i64 u.n, .slice a' n' cap'] 64)).alloc (.cells #[.int .i64 v.kind, .string v.name, .int .i64 v.n, .slice a'' n'' cap''] 64)) (w.heap.size + 1) 64 #[.int .i64 u.kind, .string u.name, .int .i64 u.n, .slice a' n' cap']) := (World.size_alloc w (.cells #[.int .i64 t.kind, .string t.name, .int .i64 t.n, .slice a n cap] 64) ▸ Bo.new (w.alloc (.cells #[.int .i64 t.kind, .string t.name, .int .i64 t.n, .slice a n cap] 64)) 64 #[.int .i64 u.kind, .string u.name, .int .i64 u.n, .slice a' n' cap'] : Bo _ (w.heap.size + 1) _ _).alloc _
  have HBv : Hid (Bo (((w.alloc (.cells #[.int .i64 t.kind, .string t.name, .int .i64 t.n, .slice a n cap] 64)).alloc (.cells #[.int .i64 u.kind, .string u.name, .int .i64 u.n, .slice a' n' cap'] 64)).alloc (.cells #[.int .i64 v.kind, .string v.name, .int .i64 v.n, .slice a'' n'' cap''] 64)) (w.heap.size + 1 + 1) 64 #[.int .i64 v.kind, .string v.name, .int .i64 v.n, .slice a'' n'' cap'']) := by
    have := Bo.new ((w.alloc (.cells #[.int .i64 t.kind, .string t.name, .int .i64 t.n, .slice a n cap] 64)).alloc (.cells #[.int .i64 u.kind, .string u.name, .int .i64 u.n, .slice a' n' cap'] 64)) 64 #[.int .i64 v.kind, .string v.name, .int .i64 v.n, .slice a'' n'' cap'']
    rw [World.size_alloc, World.size_alloc] at this
    exact this
  have HFew := Lib.hid (fun (w1 : World) (q : Nat) (hq : q = w1.heap.size) (hb : Below w.heap.size w w1) => few_any (l := [t, u, v]) _ (three_mem hq t u v (MemW.keep h hb) (MemW.keep h' hb) (MemW.keep h'' hb)) hsz)
  have Ht := Lib.hid h
  have Hu := Lib.hid h'
  have Hv := Lib.hid h''
  have H3 := Lib.hid (cmpT_3 t u v).cases
  have HN := Lib.hid (cmpT_neg u t)
  have HSf := Lib.hid (cmpT_self t)
  clear h h' h'' hs hsz
  generalize hfew : fewB [t, u, v] = fb at *
  clear hfew
  cases fb with
  | false =>
    go_enter Try.func10, Try.ntmps10
    go_wp2_with (first
      | (go_at_call 48 ; refine (awake03_any _).mono ?_; rintro e w1 ⟨rfl, hb⟩; have HB1 := Lib.hid hb; clear hb; obtain ⟨t0, t1, t2, t3⟩ := (HBt.out.keep HB1.out).c4; obtain ⟨u0, u1, u2, u3⟩ := (HBu.out.keep HB1.out).c4; obtain ⟨v0, v1, v2, v3⟩ := (HBv.out.keep HB1.out).c4)
      | (go_at_call 49 ; refine (HFew.out w1 _ rfl (Below.to HW3.out HB1.out)).mono ?_; rintro e w2 ⟨rfl, hb⟩; have HB2 := Lib.hid hb; clear hb))
    go_ret
    exact ⟨rfl, Below.toA (Below.to HW3.out HB1.out) HB2.out⟩
  | true =>
    go_enter Try.func10, Try.ntmps10
    go_wp2_with (first
      | (go_at_call 48 ; refine (awake03_any _).mono ?_; rintro e w1 ⟨rfl, hb⟩; have HB1 := Lib.hid hb; clear hb; obtain ⟨t0, t1, t2, t3⟩ := (HBt.out.keep HB1.out).c4; obtain ⟨u0, u1, u2, u3⟩ := (HBu.out.keep HB1.out).c4; obtain ⟨v0, v1, v2, v3⟩ := (HBv.out.keep HB1.out).c4)
      | (go_at_call 49 ; refine (HFew.out w1 _ rfl (Below.to HW3.out HB1.out)).mono ?_; rintro e w2 ⟨rfl, hb⟩; have HB2 := Lib.hid hb; clear hb; have HW2 : Hid (Below w.heap.size w w2) := Below.toA (Below.to HW3.out HB1.out) HB2.out; have HBt2 := Lib.hid (((HBt.out.keep HB1.out).alloc _).keep HB2.out); have HBu2 := Lib.hid (((HBu.out.keep HB1.out).alloc _).keep HB2.out); have HBv2 := Lib.hid (((HBv.out.keep HB1.out).alloc _).keep HB2.out)))
    clear t0 t1 t2 t3 u0 u1 u2 u3 v0 v1 v2 v3
    obtain ⟨t0, t1, t2, t3⟩ := HBt2.out.c4
    obtain ⟨u0, u1, u2, u3⟩ := HBu2.out.c4
    obtain ⟨v0, v1, v2, v3⟩ := HBv2.out.c4
    have tok1 : True := trivial
    have tok2 : True := trivial
    have HD2 : Hid (Below w.heap.size w w2.drew) := below_drewN HW2.out 1
    go_region_held3 (fun w' => w'.cell? ⟨w.heap.size, 0, none⟩ = some (.int .i64 t.kind) ∧ w'.cell? ⟨w.heap.size, 1, none⟩ = some (.string t.name) ∧ w'.cell? ⟨w.heap.size, 2, none⟩ = some (.int .i64 t.n) ∧ w'.cell? ⟨w.heap.size, 3, none⟩ = some (.slice a n cap) ∧ w'.cell? ⟨w.heap.size + 1, 0, none⟩ = some (.int .i64 u.kind) ∧ w'.cell? ⟨w.heap.size + 1, 1, none⟩ = some (.string u.name) ∧ w'.cell? ⟨w.heap.size + 1, 2, none⟩ = some (.int .i64 u.n) ∧ w'.cell? ⟨w.heap.size + 1, 3, none⟩ = some (.slice a' n' cap') ∧ w'.cell? ⟨w.heap.size + 1 + 1, 0, none⟩ = some (.int .i64 v.kind) ∧ w'.cell? ⟨w.heap.size + 1 + 1, 1, none⟩ = some (.string v.name) ∧ w'.cell? ⟨w.heap.size + 1 + 1, 2, none⟩ = some (.int .i64 v.n) ∧ w'.cell? ⟨w.heap.size + 1 + 1, 3, none⟩ = some (.slice a'' n'' cap''))
      ((repeat' apply And.intro) <;> (repeat (first | with_reducible assumption | with_reducible refine cell_drew ?_ | with_reducible refine cell_alloc _ ?_ | with_reducible refine cell_row_far _ ?_ (by omega) | with_reducible refine cell_below ?_ HB5.out | with_reducible refine cell_below ?_ HB4.out | with_reducible refine cell_below ?_ HB3.out)))
      (first
        | (go_at_call 50
           have _t := tok1
           refine (compare_any t u _ a a' n n' cap cap' (MemW.keep Ht.out HD2.out) (MemW.keep Hu.out HD2.out)).mono ?_
           rintro e w3 ⟨rfl, hb⟩
           have HB3 := Lib.hid (Below.one hb)
           have HW3' : Hid (Below w.heap.size w w3) := Below.to HW2.out HB3.out
           clear hb tok1 _t)
        | (go_at_call 50
           have _t := tok2
           refine (compare_any u v _ a' a'' n' n'' cap' cap'' (MemW.keep Hu.out HW3'.out) (MemW.keep Hv.out HW3'.out)).mono ?_
           rintro e w4 ⟨rfl, hb⟩
           have HB4 := Lib.hid hb
           have HW4 : Hid (Below w.heap.size w w4) := Below.to HW3'.out HB4.out
           clear hb tok2 _t)
        | (go_at_call 50
           refine (compare_any t v _ a a'' n n'' cap cap'' (MemW.keep Ht.out HW4.out) (MemW.keep Hv.out HW4.out)).mono ?_
           rintro e w5 ⟨rfl, hb⟩
           have HB5 := Lib.hid hb
           have HW5 : Hid (Below w.heap.size w w5) := Below.to HW4.out HB5.out
           clear hb))
    clear t0 t1 t2 t3 u0 u1 u2 u3 v0 v1 v2 v3
    have HBt5 := Lib.hid (((HBt2.out.keep HB3.out).keep HB4.out).keep HB5.out)
    have HBu5 := Lib.hid (((HBu2.out.keep HB3.out).keep HB4.out).keep HB5.out)
    obtain ⟨t0, t1, t2, t3⟩ := HBt5.out.c4
    obtain ⟨u0, u1, u2, u3⟩ := HBu5.out.c4
    have H3' := H3.out
    have HN' := HN.out
    clear H3
    rcases H3' with ⟨hx, ⟨hy, hz⟩ | ⟨hy, hz⟩ | ⟨hy, hz | hz | hz⟩⟩ | ⟨hx, ⟨hy, hz⟩ | ⟨hy, hz⟩ | ⟨hy, hz⟩⟩ | ⟨hx, ⟨hy, hz | hz | hz⟩ | ⟨hy, hz⟩ | ⟨hy, hz⟩⟩
    all_goals
      rw [hx] at HN'
      rw [hx, hy, hz]
      have HNN := Lib.hid HN'
      have tok3 : True := trivial
      clear hx hy hz HN'
      go_wp2_with (first
        | (go_at_call 50
           have _t := tok3
           refine (compare_any u t _ a' a n' n cap' cap (MemW.keep Hu.out HW5.out) (MemW.keep Ht.out HW5.out)).mono ?_
           rintro e w6 ⟨rfl, hb⟩
           rw [HNN.out]
           have HB6 := Lib.hid hb
           have HW6 : Hid (Below w.heap.size w w6) := Below.to HW5.out HB6.out
           obtain ⟨p0, p1, p2, p3⟩ := (HBt5.out.keep HB6.out).c4
           clear hb tok3 _t)
        | (go_at_call 50
           refine (compare_any t t _ a a n n cap cap (MemW.keep Ht.out HW6.out) (MemW.keep Ht.out HW6.out)).mono ?_
           rintro e w7 ⟨rfl, hb⟩
           rw [HSf.out]
           have HB7 := Lib.hid hb
           clear hb))
      go_ret
      exact ⟨rfl, Below.to HW6.out HB7.out⟩
end Go.Proofs.Ytemkpecagflafaa
