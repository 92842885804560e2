/-
  Comparing numbers, texts and terms. No condition but how the terms lie.
-/
import Derived.Test.YtppejoccljfblaaAv1
import Derived.StillTailTactics
import Derived.Deep.RegionHeld3
import Derived.WalkLawsBesides
import Derived.Test.YtppejoccljfblaaAv3
namespace Go.Proofs.Ytppejoccljfblaa
open Go.RowKit
attribute [local go_sem] toList_beq

set_option maxRecDepth 100000 in
set_option maxHeartbeats 2000000 in
theorem nan_int (a : Int) (w : World) : Calls Try.prog 185 #[.int .i64 a] w fun e w' => e = .returned (.bool false) ∧ w = w' := by
  go_enter Try.func185, Try.ntmps185
  go_wp2
  go_ret
  exact ⟨rfl, rfl⟩
set_option maxRecDepth 100000 in
set_option maxHeartbeats 2000000 in
theorem nan_str (a : ByteArray) (w : World) : Calls Try.prog 186 #[.string a] w fun e w' => e = .returned (.bool false) ∧ w = w' := by
  have e1 : (a == a) = true := by rw [beq_iff_eq]
  go_enter Try.func186, Try.ntmps186
  go_wp2
  go_ret
  exact ⟨rfl, rfl⟩
set_option maxRecDepth 100000 in
set_option maxHeartbeats 2000000 in
theorem cmp_int (a b : Int) (w : World) : Calls Try.prog 163 #[.int .i64 a, .int .i64 b] w fun e w' => e = .returned (.int .i64 (cmpI a b)) ∧ w = w' := by
  by_cases h1 : a < b
  · have HF := Lib.hid (show cmpI a b = -1 from if_pos h1)
    go_enter Try.func163, Try.ntmps163
    go_wp2_with (first | (go_at_call 185; refine (nan_int _ _).mono ?_; (rintro e w' ⟨rfl, rfl⟩)))
    go_ret
    exact ⟨ret_int HF.out.symm, rfl⟩
  · by_cases h2 : b < a
    · have HF := Lib.hid (show cmpI a b = 1 by unfold cmpI; rw [if_neg h1, if_pos h2])
      go_enter Try.func163, Try.ntmps163
      go_wp2_with (first | (go_at_call 185; refine (nan_int _ _).mono ?_; (rintro e w' ⟨rfl, rfl⟩)))
      go_ret
      exact ⟨ret_int HF.out.symm, rfl⟩
    · have HF := Lib.hid (show cmpI a b = 0 by unfold cmpI; rw [if_neg h1, if_neg h2])
      go_enter Try.func163, Try.ntmps163
      go_wp2_with (first | (go_at_call 185; refine (nan_int _ _).mono ?_; (rintro e w' ⟨rfl, rfl⟩)))
      go_ret
      exact ⟨ret_int HF.out.symm, rfl⟩
set_option maxRecDepth 100000 in
set_option maxHeartbeats 2000000 in
theorem cmp_str (a b : ByteArray) (w : World) : Calls Try.prog 164 #[.string a, .string b] w fun e w' => e = .returned (.int .i64 (cmpS a b)) ∧ w = w' := by
  rcases cmpS_cases a b with ⟨h, k⟩ | ⟨h, e⟩ | ⟨h, k⟩
  · have HF := Lib.hid h
    clear h
    go_enter Try.func164, Try.ntmps164
    go_wp2_with (first | (go_at_call 186; refine (nan_str _ _).mono ?_; (rintro e w' ⟨rfl, rfl⟩)))
    go_ret
    exact ⟨ret_int HF.out.symm, rfl⟩
  · subst e
    have HF := Lib.hid h
    have k1 := less_irr a.toList
    have k2 : (a == a) = true := by rw [beq_iff_eq]
    clear h
    go_enter Try.func164, Try.ntmps164
    go_wp2_with (first | (go_at_call 186; refine (nan_str _ _).mono ?_; (rintro e w' ⟨rfl, rfl⟩)))
    go_ret
    exact ⟨ret_int HF.out.symm, rfl⟩
  · have HF := Lib.hid h
    have k1 : Op.bytesLess a.toList b.toList = false := by
      cases h1 : Op.bytesLess a.toList b.toList
      · rfl
      · exact (not_both h1 k).elim
    have k2 : (a == b) = false := by
      rw [beq_eq_false_iff_ne]; rintro rfl; rw [less_irr] at k; cases k
    clear h k
    go_enter Try.func164, Try.ntmps164
    go_wp2_with (first | (go_at_call 186; refine (nan_str _ _).mono ?_; (rintro e w' ⟨rfl, rfl⟩)))
    go_ret
    exact ⟨ret_int HF.out.symm, rfl⟩
end Go.Proofs.Ytppejoccljfblaa

/-
  Compare of terms. No condition but how they lie.
-/
namespace Go.Proofs.Ytppejoccljfblaa
open Go.RowKit
attribute [local go_sem] toList_beq

def orL : List Int → Int
  | [] => 0
  | x :: l => lx x (orL l)
theorem orL_at : ∀ (l : List Int) (k : Nat) (x : Int), l[k]? = some x → ¬ x = 0 → (∀ j, j < k → l[j]? = some 0) → orL l = x
  | [], k, x, h, _, _ => by simp at h
  | y :: l, 0, x, h, hx, _ => by
    simp at h; subst h; rw [orL]; exact lx_not hx _
  | y :: l, k + 1, x, h, hx, hz => by
    have h0 := hz 0 (by omega)
    simp at h0; subst h0
    rw [orL, lx_zero]
    exact orL_at l k x (by simpa using h) hx fun j hj => by have := hz (j + 1) (by omega); simpa using this
theorem orL_none : ∀ (l : List Int), (∀ j, j < l.length → l[j]? = some 0) → orL l = 0
  | [], _ => rfl
  | y :: l, hz => by
    have h0 := hz 0 (by simp)
    simp at h0; subst h0
    rw [orL, lx_zero]
    exact orL_none l fun j hj => by have := hz (j + 1) (by simpa using hj); simpa using this
set_option maxRecDepth 100000 in
set_option maxHeartbeats 2000000 in
theorem or_any {l : List Int} {n cap : Nat} {a : Option Addr} (w : World) (h : MemW w (.s 1 (intRows l)) (.slice a n cap)) :
    Calls Try.prog 162 #[.slice a n cap] w fun e w' => e = .returned (.int .i64 (orL l)) ∧ w = w' := by
  have hl := Mem.len h
  rw [intRows_len] at hl
  have HL := Lib.hid hl.1
  have hcap := hl.2.1
  have hmx := hl.2.2
  have H := Lib.hid h
  clear hl h
  go_enter Try.func162, Try.ntmps162
  go_wp2
  go_loop [5, 8] (fun _ i => ∃ k : Nat, k ≤ n ∧ i = .int .i64 k ∧ Hid (∀ j, j < k → l[j]? = some 0)) (fun _ i => n - (intOf i).toNat)
  case atStart => exact ⟨0, Nat.zero_le _, rfl, fun j hj => by omega⟩
  case round =>
    obtain ⟨k, hk, rfl, Hn⟩ := hrel
    by_cases hlt : k < n
    · obtain ⟨b, o, x, rfl, _, Hx, hc⟩ := int_at H.out k hlt
      by_cases hx : x = 0
      · subst hx
        have HN : Hid (∀ j, j < k + 1 → l[j]? = some 0) := fun j hj => by
          by_cases e : j = k
          · subst e; exact Hx.out
          · exact Hn.out j (by omega)
        go_wp2
        go_round
        case rel => exact ⟨k + 1, by omega, by go_num, HN.out⟩
        case measure => simp [intOf]; omega
      · have e1 : (x != 0) = true := by rw [bne_iff_ne]; exact hx
        have HF := Lib.hid (orL_at l k x Hx.out hx Hn.out)
        clear hx
        go_wp2
        go_ret
        exact ⟨ret_int HF.out.symm, rfl⟩
    · have HF := Lib.hid (orL_none l fun j hj => Hn.out j (by rw [HL.out] at hj; omega))
      go_wp2
      go_ret
      exact ⟨ret_int HF.out.symm, rfl⟩

theorem cmpTs_drop {l m : List Tm} {k : Nat} {x y : Tm} (hx : l[k]? = some x) (hy : m[k]? = some y) : cmpTs (l.drop k) (m.drop k) = lx (cmpT x y) (cmpTs (l.drop (k + 1)) (m.drop (k + 1))) := by
  obtain ⟨h1, rfl⟩ := List.getElem?_eq_some_iff.1 hx
  obtain ⟨h2, rfl⟩ := List.getElem?_eq_some_iff.1 hy
  rw [List.drop_eq_getElem_cons h1, List.drop_eq_getElem_cons h2, cmpTs]

/-- What is known of Compare at a term. -/
def CmpAt (x : Tm) : Prop := ∀ (y : Tm) (w : World) (a a' : Option Addr) (n n' cap cap' : Nat), MemW w (.s 4 (Tm.rows x.args)) (.slice a n cap) → MemW w (.s 4 (Tm.rows y.args)) (.slice a' n' cap') →
  Calls Try.prog 112 #[.agg #[.int .i64 x.kind, .string x.name, .int .i64 x.n, .slice a n cap], .agg #[.int .i64 y.kind, .string y.name, .int .i64 y.n, .slice a' n' cap']] w fun e w' => e = .returned (.int .i64 (cmpT x y)) ∧ Below w.heap.size w w'

set_option maxRecDepth 100000 in
set_option maxHeartbeats 2000000 in
theorem cmpFunc_any {l m : List Tm} {n n' cap cap' : Nat} {a a' : Option Addr} (w : World) (h : MemW w (.s 4 (Tm.rows l)) (.slice a n cap)) (h' : MemW w (.s 4 (Tm.rows m)) (.slice a' n' cap')) (ih : ∀ x ∈ l, CmpAt x) :
    Calls Try.prog 165 #[.slice a n cap, .slice a' n' cap', .func (.func 112) #[] #[]] w fun e w' => e = .returned (.int .i64 (cmpTs l m)) ∧ Below w.heap.size w w' := by
  have hl := Tms.len h
  have hl' := Tms.len h'
  have HL := Lib.hid hl.1
  have HL' := Lib.hid hl'.1
  have hcap := hl.2.1
  have hmx := hl.2.2
  have hcap' := hl'.2.1
  have hmx' := hl'.2.2
  have H := Lib.hid h
  have H' := Lib.hid h'
  have IH := Lib.hid ih
  clear hl hl' h h' ih
  go_enter Try.func165, Try.ntmps165
  go_wp2
  go_loopw [7, 13] (fun _ i wr => ∃ k : Nat, k ≤ n ∧ k ≤ n' ∧ i = .int .i64 k ∧ Hid (Below w.heap.size w wr) ∧ Hid (cmpTs l m = cmpTs (l.drop k) (m.drop k))) (fun _ i _ => n - (intOf i).toNat)
  case atStart => exact ⟨0, Nat.zero_le _, Nat.zero_le _, rfl, Below.refl _ _, show cmpTs l m = _ by rw [List.drop_zero, List.drop_zero]⟩
  case round =>
    obtain ⟨k, hk, hk', rfl, HB, HC⟩ := hrel
    by_cases hlt : k < n
    · obtain ⟨b, o, x, ax, nx, capx, rfl, hbB, Hx, x0, x1, x2, x3, GX⟩ := (Tms.keep H.out HB.out).at k hlt
      by_cases hlt' : k < n'
      · obtain ⟨b', o', y, ay, ny, capy, rfl, hbB', Hy, y0, y1, y2, y3, GY⟩ := (Tms.keep H'.out HB.out).at k hlt'
        have HD := Lib.hid (cmpTs_drop Hx.out Hy.out)
        have GA := Lib.hid (IH.out x (mem_of_at Hx.out))
        have hge : ¬ ((n' : Int) ≤ k) := by omega
        by_cases hc : cmpT x y = 0
        · have HZ := Lib.hid hc
          clear hc
          go_wp2_with (first | (go_at_call 112 ; refine (GA.out y _ ax ay nx ny capx capy (MemW.alloc (MemW.alloc GX.out _) _) (MemW.alloc (MemW.alloc GY.out _) _)).mono ?_; rintro e w2 ⟨rfl, hb⟩; rw [HZ.out]; have HB2 := Lib.hid hb; clear hb))
          go_roundw
          case rel => exact ⟨k + 1, by omega, by omega, by go_num, Below.toAA HB.out HB2.out, show cmpTs l m = _ by rw [HC.out, HD.out, HZ.out, lx_zero]⟩
          case measure => simp [intOf]; omega
        · have e1 : (cmpT x y != 0) = true := by rw [bne_iff_ne]; exact hc
          have HZ : Hid (cmpTs l m = cmpT x y) := Lib.hid (by rw [HC.out, HD.out, lx_not hc])
          clear hc
          go_wp2_with (first | (go_at_call 112 ; refine (GA.out y _ ax ay nx ny capx capy (MemW.alloc (MemW.alloc GX.out _) _) (MemW.alloc (MemW.alloc GY.out _) _)).mono ?_; rintro e w2 ⟨rfl, hb⟩; have HB2 := Lib.hid hb; clear hb))
          go_ret
          exact ⟨ret_int HZ.out.symm, Below.toAA HB.out HB2.out⟩
      · have HZ : Hid (cmpTs l m = 1) := Lib.hid (by
          obtain ⟨h1, rfl⟩ := List.getElem?_eq_some_iff.1 Hx.out
          rw [HC.out, List.drop_eq_getElem_cons h1, List.drop_of_length_le (l := m) (by rw [HL'.out]; omega), cmpTs])
        have hge : (n' : Int) ≤ k := by omega
        go_wp2
        go_ret
        exact ⟨ret_int HZ.out.symm, HB.out.alloc HB.out.size _⟩
    · have hkn : k = n := by omega
      have hge : ¬ (k : Int) < n := by omega
      by_cases hnn : n < n'
      · have HZ : Hid (cmpTs l m = -1) := Lib.hid (by
          have h1 : k < m.length := by rw [HL'.out]; omega
          rw [HC.out, List.drop_of_length_le (l := l) (by rw [HL.out]; omega), List.drop_eq_getElem_cons h1, cmpTs])
        have hni : (n : Int) < n' := by omega
        clear hkn
        go_wp2
        go_ret
        exact ⟨ret_int HZ.out.symm, HB.out⟩
      · have HZ : Hid (cmpTs l m = 0) := Lib.hid (by
          rw [HC.out, List.drop_of_length_le (l := l) (by rw [HL.out]; omega), List.drop_of_length_le (l := m) (by rw [HL'.out]; omega), cmpTs])
        have hni : ¬ (n : Int) < n' := by omega
        clear hkn
        go_wp2
        go_ret
        exact ⟨ret_int HZ.out.symm, HB.out⟩
end Go.Proofs.Ytppejoccljfblaa

/-
  Compare of terms, whole. No condition but how they lie.
-/
namespace Go.Proofs.Ytppejoccljfblaa
open Go.RowKit
attribute [local go_sem] toList_beq

theorem lx_assoc (a b c : Int) : lx (lx a b) c = lx a (lx b c) := by
  by_cases h : a = 0
  · subst h; rw [lx_zero, lx_zero]
  · rw [lx_not h, lx_not h, lx_not h]
theorem cmpT_or (t u : Tm) : cmpT t u = lx (orL [cmpI t.kind u.kind, cmpI t.n u.n, cmpS t.name u.name, cmpI t.args.length u.args.length]) (cmpTs t.args u.args) := by
  rw [cmpT_eq, orL, orL, orL, orL, orL, lx_assoc, lx_assoc, lx_assoc, lx_assoc, lx_zero]

theorem ints4_mem (w : World) (q : Nat) (hq : q = w.heap.size) (c0 c1 c2 c3 : Int) (e : TypeId) : MemW (w.alloc (.cells #[.int .i64 c0, .int .i64 c1, .int .i64 c2, .int .i64 c3] e)) (.s 1 (intRows [c0, c1, c2, c3])) (.slice (some ⟨q, 0, none⟩) 4 4) := by
  subst hq
  have := OwnD.mem (OwnD.built (B := 0) (base := w.heap.size) (e := e) (w := w) (rs := intRows [c0, c1, c2, c3]) (css := [[.int .i64 c0], [.int .i64 c1], [.int .i64 c2], [.int .i64 c3]])
      (.cons ⟨rfl, .cons (.v _ rfl) .nil⟩ (.cons ⟨rfl, .cons (.v _ rfl) .nil⟩ (.cons ⟨rfl, .cons (.v _ rfl) .nil⟩ (.cons ⟨rfl, .cons (.v _ rfl) .nil⟩ .nil)))) (Nat.le_refl _) 4 rfl (by decide) #[.int .i64 c0, .int .i64 c1, .int .i64 c2, .int .i64 c3] rfl)
  exact this.mono (fun _ hb => hb.2) fun _ _ => rfl

set_option maxRecDepth 100000 in
set_option maxHeartbeats 2000000 in
theorem compare_of {t : Tm} (ih : ∀ x ∈ t.args, CmpAt x) : CmpAt t := by
  intro u w a a' n n' cap cap' h h'
  have hl := Tms.len h
  have hl' := Tms.len h'
  have hcap := hl.2.1
  have hmx := hl.2.2
  have hcap' := hl'.2.1
  have hmx' := hl'.2.2
  have HE : Hid (cmpT t u = lx (orL [cmpI t.kind u.kind, cmpI t.n u.n, cmpS t.name u.name, cmpI (n : Int) (n' : Int)]) (cmpTs t.args u.args)) := Lib.hid (by rw [cmpT_or, hl.1, hl'.1])
  have HC := Lib.hid (fun (w' : World) (hb : Below w.heap.size w w') => cmpFunc_any w' (MemW.keep h hb) (MemW.keep h' hb) ih)
  clear hl hl' h h' ih
  have HW2 := Lib.hid ((below_new w (.cells #[.int .i64 t.kind, .string t.name, .int .i64 t.n, .slice a n cap] 96)).alloc (by simp) (.cells #[.int .i64 u.kind, .string u.name, .int .i64 u.n, .slice a' n' cap'] 96))
  have HX := Lib.hid ((Bo.new w 96 #[.int .i64 t.kind, .string t.name, .int .i64 t.n, .slice a n cap]).alloc (.cells #[.int .i64 u.kind, .string u.name, .int .i64 u.n, .slice a' n' cap'] 96)).c4
  have HY := Lib.hid (World.size_alloc w (.cells #[.int .i64 t.kind, .string t.name, .int .i64 t.n, .slice a n cap] 96) ▸ Bo.new (w.alloc (.cells #[.int .i64 t.kind, .string t.name, .int .i64 t.n, .slice a n cap] 96)) 96 #[.int .i64 u.kind, .string u.name, .int .i64 u.n, .slice a' n' cap'] : Bo _ (w.heap.size + 1) _ _).c4
  have HQ : Hid (w.heap.size + 1 + 1 = ((w.alloc (.cells #[.int .i64 t.kind, .string t.name, .int .i64 t.n, .slice a n cap] 96)).alloc (.cells #[.int .i64 u.kind, .string u.name, .int .i64 u.n, .slice a' n' cap'] 96)).drew.heap.size) := Lib.hid (by
    show _ = ((w.alloc _).alloc _).heap.size
    rw [World.size_alloc, World.size_alloc])
  obtain ⟨g0, g1, g2, g3⟩ := HX.out
  obtain ⟨f0, f1, f2, f3⟩ := HY.out
  by_cases hc : orL [cmpI t.kind u.kind, cmpI t.n u.n, cmpS t.name u.name, cmpI (n : Int) (n' : Int)] = 0
  · have HZ := Lib.hid hc
    have HF : Hid (cmpT t u = cmpTs t.args u.args) := Lib.hid (by rw [HE.out, hc, lx_zero])
    clear hc
    go_enter Try.func112, Try.ntmps112
    go_wp2
    go_region_held3 (fun w' => w'.cell? ⟨w.heap.size, 0, none⟩ = some (.int .i64 t.kind) ∧ w'.cell? ⟨w.heap.size, 1, none⟩ = some (.string t.name) ∧ w'.cell? ⟨w.heap.size, 2, none⟩ = some (.int .i64 t.n) ∧ w'.cell? ⟨w.heap.size, 3, none⟩ = some (.slice a n cap) ∧ w'.cell? ⟨w.heap.size + 1, 0, none⟩ = some (.int .i64 u.kind) ∧ w'.cell? ⟨w.heap.size + 1, 1, none⟩ = some (.string u.name) ∧ w'.cell? ⟨w.heap.size + 1, 2, none⟩ = some (.int .i64 u.n) ∧ w'.cell? ⟨w.heap.size + 1, 3, none⟩ = some (.slice a' n' cap'))
      ((repeat' apply And.intro) <;> (repeat (first | with_reducible assumption | with_reducible refine cell_drew ?_ | with_reducible refine cell_alloc _ ?_ | with_reducible refine cell_row_far _ ?_ (by omega) | with_reducible refine cell_below ?_ HW2.out)))
      (first | (go_at_call 163; refine (cmp_int _ _ _).mono ?_; (rintro e w' ⟨rfl, rfl⟩)) | (go_at_call 164; refine (cmp_str _ _ _).mono ?_; (rintro e w' ⟨rfl, rfl⟩)) | (go_at_call 162; refine (or_any _ (ints4_mem _ _ HQ.out _ _ _ _ _)).mono ?_; (rintro e w' ⟨rfl, rfl⟩; rw [HZ.out])))
    all_goals
      go_wp2_with (first | (go_at_call 165 ; refine (HC.out _ ((below_drewN HW2.out 1).alloc HW2.out.size _)).mono ?_; rintro e w2 ⟨rfl, hb⟩; have HB2 := Lib.hid hb; clear hb))
      go_ret
      exact ⟨ret_int HF.out.symm, Below.to ((below_drewN HW2.out 1).alloc HW2.out.size _) HB2.out⟩
  · have e1 : (orL [cmpI t.kind u.kind, cmpI t.n u.n, cmpS t.name u.name, cmpI (n : Int) (n' : Int)] != 0) = true := by rw [bne_iff_ne]; exact hc
    have HF : Hid (cmpT t u = orL [cmpI t.kind u.kind, cmpI t.n u.n, cmpS t.name u.name, cmpI (n : Int) (n' : Int)]) := Lib.hid (by rw [HE.out, lx_not hc])
    clear hc
    go_enter Try.func112, Try.ntmps112
    go_wp2
    go_region_held3 (fun w' => w'.cell? ⟨w.heap.size, 0, none⟩ = some (.int .i64 t.kind) ∧ w'.cell? ⟨w.heap.size, 1, none⟩ = some (.string t.name) ∧ w'.cell? ⟨w.heap.size, 2, none⟩ = some (.int .i64 t.n) ∧ w'.cell? ⟨w.heap.size, 3, none⟩ = some (.slice a n cap) ∧ w'.cell? ⟨w.heap.size + 1, 0, none⟩ = some (.int .i64 u.kind) ∧ w'.cell? ⟨w.heap.size + 1, 1, none⟩ = some (.string u.name) ∧ w'.cell? ⟨w.heap.size + 1, 2, none⟩ = some (.int .i64 u.n) ∧ w'.cell? ⟨w.heap.size + 1, 3, none⟩ = some (.slice a' n' cap'))
      ((repeat' apply And.intro) <;> (repeat (first | with_reducible assumption | with_reducible refine cell_drew ?_ | with_reducible refine cell_alloc _ ?_ | with_reducible refine cell_row_far _ ?_ (by omega) | with_reducible refine cell_below ?_ HW2.out)))
      (first | (go_at_call 163; refine (cmp_int _ _ _).mono ?_; (rintro e w' ⟨rfl, rfl⟩)) | (go_at_call 164; refine (cmp_str _ _ _).mono ?_; (rintro e w' ⟨rfl, rfl⟩)) | (go_at_call 162; refine (or_any _ (ints4_mem _ _ HQ.out _ _ _ _ _)).mono ?_; (rintro e w' ⟨rfl, rfl⟩)))
    all_goals
      go_wp2
      go_ret
      exact ⟨ret_int HF.out.symm, (below_drewN HW2.out 1).alloc HW2.out.size _⟩
theorem compare_size (m : Nat) : ∀ t, t.size ≤ m → CmpAt t := by
  induction m with
  | zero => intro t h; have := t.size_pos; omega
  | succ m ih => intro t h; exact compare_of fun x hx => ih x (by have := Tm.size_arg hx; omega)
theorem compare_any (t : Tm) : CmpAt t := compare_size t.size t (Nat.le_refl _)
end Go.Proofs.Ytppejoccljfblaa

/-
  term.Same. No condition but how the terms lie.
-/
namespace Go.Proofs.Ytppejoccljfblaa
open Go.RowKit

set_option maxRecDepth 100000 in
set_option maxHeartbeats 2000000 in
theorem sameTm2 {t u : Tm} {a a' : Option Addr} {n n' cap cap' : Nat} (w : World) (h : MemW w (.s 4 (Tm.rows t.args)) (.slice a n cap)) (h' : MemW w (.s 4 (Tm.rows u.args)) (.slice a' n' cap')) :
    Calls Try.prog 114 #[.agg #[.int .i64 t.kind, .string t.name, .int .i64 t.n, .slice a n cap], .agg #[.int .i64 u.kind, .string u.name, .int .i64 u.n, .slice a' n' cap']] w fun e w' => e = .returned (.bool (cmpT t u == 0)) ∧ Below w.heap.size w w' := by
  have HT := Lib.hid h
  have HU := Lib.hid h'
  clear h h'
  have HB0 : Hid (Below w.heap.size w ((w.alloc (.cells #[.int .i64 t.kind, .string t.name, .int .i64 t.n, .slice a n cap] 96)).alloc (.cells #[.int .i64 u.kind, .string u.name, .int .i64 u.n, .slice a' n' cap'] 96))) := Lib.hid ((below_new w _).alloc (by simp) _)
  go_enter Try.func114, Try.ntmps114
  go_wp2_with (first
    | (go_at_call 112 ; refine (compare_any t u _ _ _ _ _ _ _ (MemW.keep HT.out HB0.out) (MemW.keep HU.out HB0.out)).mono ?_; rintro e w3 ⟨rfl, hb⟩; have HB3 := Lib.hid hb; clear hb))
  go_ret
  exact ⟨rfl, Below.to HB0.out HB3.out⟩
end Go.Proofs.Ytppejoccljfblaa

/-
  The reference's Compare of terms; SameTerms. No condition but how they lie.
-/
namespace Go.Proofs.Ytppejoccljfblaa
open Go.RowKit
attribute [local go_sem] toList_beq

set_option maxRecDepth 100000 in
set_option maxHeartbeats 2000000 in
theorem order_any (a b : Int) (w : World) : Calls Try.prog 160 #[.int .i64 a, .int .i64 b] w fun e w' => e = .returned (.int .i64 (cmpI a b)) ∧ w = w' := by
  by_cases h1 : a < b
  · have HF := Lib.hid (show cmpI a b = -1 from if_pos h1)
    go_enter Try.func160, Try.ntmps160
    go_wp2
    go_ret
    exact ⟨ret_int HF.out.symm, rfl⟩
  · by_cases h2 : b < a
    · have HF := Lib.hid (show cmpI a b = 1 by unfold cmpI; rw [if_neg h1, if_pos h2])
      go_enter Try.func160, Try.ntmps160
      go_wp2
      go_ret
      exact ⟨ret_int HF.out.symm, rfl⟩
    · have HF := Lib.hid (show cmpI a b = 0 by unfold cmpI; rw [if_neg h1, if_neg h2])
      go_enter Try.func160, Try.ntmps160
      go_wp2
      go_ret
      exact ⟨ret_int HF.out.symm, rfl⟩

/-- What is known of the reference's Compare at a term. -/
def CmpRAt (x : Tm) : Prop := ∀ (y : Tm) (w : World) (a a' : Option Addr) (n n' cap cap' : Nat), MemW w (.s 4 (Tm.rows x.args)) (.slice a n cap) → MemW w (.s 4 (Tm.rows y.args)) (.slice a' n' cap') →
  Calls Try.prog 109 #[.agg #[.int .i64 x.kind, .string x.name, .int .i64 x.n, .slice a n cap], .agg #[.int .i64 y.kind, .string y.name, .int .i64 y.n, .slice a' n' cap']] w fun e w' => e = .returned (.int .i64 (cmpT x y)) ∧ Below w.heap.size w w'

theorem cmpI_ne {a b : Int} (h : a ≠ b) : ¬ cmpI a b = 0 := by unfold cmpI; split <;> (try split) <;> omega
set_option maxRecDepth 100000 in
set_option maxHeartbeats 2000000 in
theorem compare3_of {t : Tm} (ih : ∀ x ∈ t.args, CmpRAt x) : CmpRAt t := by
  intro u w a a' n n' cap cap' h h'
  have hl := Tms.len h
  have hl' := Tms.len h'
  have hcap := hl.2.1
  have hmx := hl.2.2
  have hcap' := hl'.2.1
  have hmx' := hl'.2.2
  have HL := Lib.hid hl.1
  have HL' := Lib.hid hl'.1
  have HE : Hid (cmpT t u = lx (cmpI t.kind u.kind) (lx (cmpI t.n u.n) (lx (cmpS t.name u.name) (lx (cmpI (n : Int) (n' : Int)) (cmpTs t.args u.args))))) := Lib.hid (by rw [cmpT_eq, hl.1, hl'.1])
  have H := Lib.hid h
  have H' := Lib.hid h'
  have IH := Lib.hid ih
  clear hl hl' h h' ih
  have HW2 := Lib.hid ((below_new w (.cells #[.int .i64 t.kind, .string t.name, .int .i64 t.n, .slice a n cap] 96)).alloc (by simp) (.cells #[.int .i64 u.kind, .string u.name, .int .i64 u.n, .slice a' n' cap'] 96))
  by_cases c1 : cmpI t.kind u.kind = 0
  case neg =>
    have e1 : (cmpI t.kind u.kind != 0) = true := by rw [bne_iff_ne]; exact c1
    have HF := Lib.hid (HE.out.trans (lx_not c1 _))
    clear c1
    go_enter Try.func109, Try.ntmps109
    go_wp2_with (first | (go_at_call 160; refine (order_any _ _ _).mono ?_; (rintro e w' ⟨rfl, rfl⟩)))
    go_ret
    exact ⟨ret_int HF.out.symm, HW2.out⟩
  have HE1 : Hid (cmpT t u = lx (cmpI t.n u.n) (lx (cmpS t.name u.name) (lx (cmpI (n : Int) (n' : Int)) (cmpTs t.args u.args)))) := Lib.hid (by rw [HE.out, c1, lx_zero])
  have Z1 := Lib.hid c1
  clear c1 HE
  by_cases c2 : cmpI t.n u.n = 0
  case neg =>
    have e2 : (cmpI t.n u.n != 0) = true := by rw [bne_iff_ne]; exact c2
    have HF := Lib.hid (HE1.out.trans (lx_not c2 _))
    have tok1 : True := trivial
    clear c2
    go_enter Try.func109, Try.ntmps109
    go_wp2_with (first
      | (go_at_call 160 ; have _t := tok1; refine (order_any _ _ _).mono ?_; rintro e w' ⟨rfl, rfl⟩; rw [Z1.out]; clear tok1 _t)
      | (go_at_call 160 ; refine (order_any _ _ _).mono ?_; rintro e w' ⟨rfl, rfl⟩))
    go_ret
    exact ⟨ret_int HF.out.symm, HW2.out⟩
  have HE2 : Hid (cmpT t u = lx (cmpS t.name u.name) (lx (cmpI (n : Int) (n' : Int)) (cmpTs t.args u.args))) := Lib.hid (by rw [HE1.out, c2, lx_zero])
  have Z2 := Lib.hid c2
  clear c2 HE1
  rcases cmpS_cases t.name u.name with ⟨c3, k⟩ | ⟨c3, k⟩ | ⟨c3, k⟩
  case inl =>
    have HF : Hid (cmpT t u = -1) := Lib.hid (by rw [HE2.out, c3]; rfl)
    have tok1 : True := trivial
    clear c3
    go_enter Try.func109, Try.ntmps109
    go_wp2_with (first
      | (go_at_call 160 ; have _t := tok1; refine (order_any _ _ _).mono ?_; rintro e w' ⟨rfl, rfl⟩; rw [Z1.out]; clear tok1 _t)
      | (go_at_call 160 ; refine (order_any _ _ _).mono ?_; rintro e w' ⟨rfl, rfl⟩; rw [Z2.out]))
    go_ret
    exact ⟨ret_int HF.out.symm, HW2.out⟩
  case inr.inr =>
    have HF : Hid (cmpT t u = 1) := Lib.hid (by rw [HE2.out, c3]; rfl)
    have k1 : Op.bytesLess t.name.toList u.name.toList = false := by
      cases h1 : Op.bytesLess t.name.toList u.name.toList
      · rfl
      · exact (not_both h1 k).elim
    have k2 : (t.name == u.name) = false := by
      rw [beq_eq_false_iff_ne]; intro e; rw [e, less_irr] at k; cases k
    have tok1 : True := trivial
    clear c3 k
    go_enter Try.func109, Try.ntmps109
    go_wp2_with (first
      | (go_at_call 160 ; have _t := tok1; refine (order_any _ _ _).mono ?_; rintro e w' ⟨rfl, rfl⟩; rw [Z1.out]; clear tok1 _t)
      | (go_at_call 160 ; refine (order_any _ _ _).mono ?_; rintro e w' ⟨rfl, rfl⟩; rw [Z2.out]))
    go_ret
    exact ⟨ret_int HF.out.symm, HW2.out⟩
  have HE3 : Hid (cmpT t u = lx (cmpI (n : Int) (n' : Int)) (cmpTs t.args u.args)) := Lib.hid (by rw [HE2.out, c3, lx_zero])
  have k1 : Op.bytesLess t.name.toList u.name.toList = false := by rw [k, less_irr]
  have k2 : (t.name == u.name) = true := by rw [beq_iff_eq]; exact k
  clear c3 k HE2
  by_cases c4 : n = n'
  case neg =>
    have hc := cmpI_ne (a := (n : Int)) (b := (n' : Int)) (by omega)
    have e4 : (cmpI (n : Int) (n' : Int) != 0) = true := by rw [bne_iff_ne]; exact hc
    have HF := Lib.hid (HE3.out.trans (lx_not hc _))
    have tok1 : True := trivial
    have tok2 : True := trivial
    clear c4 hc
    go_enter Try.func109, Try.ntmps109
    go_wp2_with (first
      | (go_at_call 160 ; have _t := tok1; refine (order_any _ _ _).mono ?_; rintro e w' ⟨rfl, rfl⟩; rw [Z1.out]; clear tok1 _t)
      | (go_at_call 160 ; have _t := tok2; refine (order_any _ _ _).mono ?_; rintro e w' ⟨rfl, rfl⟩; rw [Z2.out]; clear tok2 _t)
      | (go_at_call 160 ; refine (order_any _ _ _).mono ?_; rintro e w' ⟨rfl, rfl⟩))
    go_ret
    exact ⟨ret_int HF.out.symm, HW2.out⟩
  subst c4
  have Z4 := Lib.hid (cmpI_self (n : Int))
  have HE4 : Hid (cmpT t u = cmpTs t.args u.args) := Lib.hid (by rw [HE3.out, Z4.out, lx_zero])
  have tok1 : True := trivial
  have tok2 : True := trivial
  clear HE3
  go_enter Try.func109, Try.ntmps109
  go_wp2_with (first
    | (go_at_call 160 ; have _t := tok1; refine (order_any _ _ _).mono ?_; rintro e w' ⟨rfl, rfl⟩; rw [Z1.out]; clear tok1 _t)
    | (go_at_call 160 ; have _t := tok2; refine (order_any _ _ _).mono ?_; rintro e w' ⟨rfl, rfl⟩; rw [Z2.out]; clear tok2 _t)
    | (go_at_call 160 ; refine (order_any _ _ _).mono ?_; rintro e w' ⟨rfl, rfl⟩; rw [Z4.out]))
  go_loopw [8, 49] (fun _ i wr => ∃ k : Nat, k ≤ n ∧ i = .int .i64 k ∧ Hid (Below w.heap.size w wr) ∧ Hid (Bx wr w.heap.size [.int .i64 t.kind, .string t.name, .int .i64 t.n, .slice a n cap]) ∧ Hid (Bx wr (w.heap.size + 1) [.int .i64 u.kind, .string u.name, .int .i64 u.n, .slice a' n cap']) ∧ Hid (cmpTs t.args u.args = cmpTs (t.args.drop k) (u.args.drop k))) (fun _ i _ => n - (intOf i).toNat)
  case atStart => exact ⟨0, Nat.zero_le _, rfl, HW2.out, (Bx.new _ _ _).alloc _, Lib.hid (World.size_alloc w _ ▸ Bx.new _ _ _), show cmpTs _ _ = _ by rw [List.drop_zero, List.drop_zero]⟩
  case round =>
    obtain ⟨k, hk, rfl, HB, HX, HY, HC⟩ := hrel
    by_cases hlt : k < n
    · have d1 := HX.out.2 3 (by simp)
      have d2 := HY.out.2 3 (by simp)
      simp only [List.getElem_cons_succ, List.getElem_cons_zero] at d1 d2
      obtain ⟨b, o, x, ax, nx, capx, rfl, hbB, Hx, x0, x1, x2, x3, GX⟩ := (Tms.keep H.out HB.out).at k hlt
      obtain ⟨b', o', y, ay, ny, capy, rfl, hbB', Hy, y0, y1, y2, y3, GY⟩ := (Tms.keep H'.out HB.out).at k hlt
      have HD := Lib.hid (cmpTs_drop Hx.out Hy.out)
      have GA := Lib.hid (IH.out x (mem_of_at Hx.out))
      by_cases hc : cmpT x y = 0
      · have HZ := Lib.hid hc
        clear hc
        go_wp2
        go_still_tail 10, (by kernel_rfl)
        change wpList _ _ _ _ _ wr.drew
        go_wp2_with (first | (go_at_call 109 ; refine (GA.out y _ ax ay nx ny capx capy (MemW.drew GX.out) (MemW.drew GY.out)).mono ?_; rintro e w2 ⟨rfl, hb⟩; rw [HZ.out]; have HB2 := Lib.hid hb; clear hb))
        go_roundw
        case rel => exact ⟨k + 1, by omega, by go_num, Below.toD HB.out HB2.out, HX.out.keep (Below.one HB2.out), HY.out.keep (Below.one HB2.out), show cmpTs _ _ = _ by rw [HC.out, HD.out, HZ.out, lx_zero]⟩
        case measure => simp [intOf]; omega
      · have e5 : (cmpT x y != 0) = true := by rw [bne_iff_ne]; exact hc
        have HZ : Hid (cmpT t u = cmpT x y) := Lib.hid (by rw [HE4.out, HC.out, HD.out, lx_not hc])
        clear hc
        go_wp2
        go_still_tail 10, (by kernel_rfl)
        change wpList _ _ _ _ _ wr.drew
        go_wp2_with (first | (go_at_call 109 ; refine (GA.out y _ ax ay nx ny capx capy (MemW.drew GX.out) (MemW.drew GY.out)).mono ?_; rintro e w2 ⟨rfl, hb⟩; have HB2 := Lib.hid hb; clear hb))
        go_ret
        exact ⟨ret_int HZ.out.symm, Below.toD HB.out HB2.out⟩
    · have HZ : Hid (cmpT t u = 0) := Lib.hid (by
        rw [HE4.out, HC.out, List.drop_of_length_le (l := t.args) (by rw [HL.out]; omega), List.drop_of_length_le (l := u.args) (by rw [HL'.out]; omega), cmpTs])
      go_wp2
      go_ret
      exact ⟨ret_int HZ.out.symm, HB.out⟩
theorem compare3_size (m : Nat) : ∀ t, t.size ≤ m → CmpRAt t := by
  induction m with
  | zero => intro t h; have := t.size_pos; omega
  | succ m ih => intro t h; exact compare3_of fun x hx => ih x (by have := Tm.size_arg hx; omega)
theorem compare3_any (t : Tm) : CmpRAt t := compare3_size t.size t (Nat.le_refl _)

theorem cmpI_eq {a b : Int} (h : cmpI a b = 0) : a = b := Decidable.byContradiction fun e => cmpI_ne e h
theorem cmpS_eq {a b : ByteArray} (h : cmpS a b = 0) : a = b := by
  rcases cmpS_cases a b with ⟨e, _⟩ | ⟨_, e⟩ | ⟨e, _⟩
  · omega
  · exact e
  · omega
theorem lx_eq {a b : Int} (h : lx a b = 0) : a = 0 ∧ b = 0 := by
  by_cases e : a = 0
  · rw [e, lx_zero] at h; exact ⟨e, h⟩
  · rw [lx_not e] at h; exact (e h).elim
theorem cmpTs_eq_of (ts : List Tm) (h : ∀ t ∈ ts, ∀ u, cmpT t u = 0 → t = u) : ∀ us, cmpTs ts us = 0 → ts = us := by
  induction ts with
  | nil => intro us e; cases us with
    | nil => rfl
    | cons => simp [cmpTs] at e
  | cons t ts ih =>
    intro us e
    cases us with
    | nil => simp [cmpTs] at e
    | cons u us =>
      rw [cmpTs] at e
      obtain ⟨e1, e2⟩ := lx_eq e
      rw [h t (List.mem_cons_self ..) u e1, ih (fun t ht => h t (List.mem_cons_of_mem _ ht)) us e2]
theorem cmpT_eq_size (m : Nat) : ∀ t, t.size ≤ m → ∀ u, cmpT t u = 0 → t = u := by
  induction m with
  | zero => intro t h; have := t.size_pos; omega
  | succ m ih =>
    intro t h u e
    rw [cmpT_eq] at e
    obtain ⟨e1, e⟩ := lx_eq e
    obtain ⟨e2, e⟩ := lx_eq e
    obtain ⟨e3, e⟩ := lx_eq e
    obtain ⟨_, e⟩ := lx_eq e
    rw [← t.eta, ← u.eta, cmpI_eq e1, cmpI_eq e2, cmpS_eq e3, cmpTs_eq_of t.args (fun x hx u => ih x (by have := Tm.size_arg hx; omega) u) u.args e]
/-- Alike by the order is alike. -/
theorem cmpT_zero (t u : Tm) : cmpT t u = 0 ↔ t = u := ⟨cmpT_eq_size t.size t (Nat.le_refl _) u, fun e => by rw [e]; exact cmpT_self u⟩
end Go.Proofs.Ytppejoccljfblaa

/-
  The reference's Vars of terms. No condition but how they lie, and how many there are.
-/
namespace Go.Proofs.Ytppejoccljfblaa
open Go.RowKit

/-- The numbers of variables, each once, behind others. -/
def varsI (l : List Int) (ts : List Tm) : List Int := ts.foldl (fun l x => if x.kind = 3 then putI l x.n else l) l
theorem varsI_snoc (l : List Int) (ts : List Tm) (x : Tm) : varsI l (ts ++ [x]) = if x.kind = 3 then putI (varsI l ts) x.n else varsI l ts := by unfold varsI; rw [List.foldl_append]; rfl
theorem varsI_app (l : List Int) (ts us : List Tm) : varsI l (ts ++ us) = varsI (varsI l ts) us := by unfold varsI; rw [List.foldl_append]
theorem varsI_len (l : List Int) (ts : List Tm) : (varsI l ts).length ≤ l.length + ts.length := by
  induction ts generalizing l with
  | nil => exact Nat.le_refl _
  | cons x ts ih =>
    have : varsI l (x :: ts) = varsI (if x.kind = 3 then putI l x.n else l) ts := rfl
    rw [this]
    have := ih (if x.kind = 3 then putI l x.n else l)
    have h2 : (if x.kind = 3 then putI l x.n else l).length ≤ l.length + 1 := by
      split
      · unfold putI; split <;> simp
      · omega
    rw [List.length_cons]; omega

theorem place_hit (l : List Int) (s x : Int) (k : Nat) (h : l[k]? = some x) (hx : x = s) : s ∈ l := by subst hx; exact List.mem_of_getElem? h
set_option maxRecDepth 100000 in
set_option maxHeartbeats 2000000 in
theorem place3_any {l : List Int} {n cap : Nat} {a : Option Addr} (s : Int) (w : World) (h : MemW w (.s 1 (intRows l)) (.slice a n cap)) :
    Calls Try.prog 117 #[.slice a n cap, .int .i64 s] w fun e w' => (∃ i : Int, e = .returned (.int .i64 i) ∧ -1 ≤ i ∧ (i < 0 ↔ s ∉ l)) ∧ w = w' := by
  have hl := Mem.len h
  rw [intRows_len] at hl
  have HL := Lib.hid hl.1
  have hcap := hl.2.1
  have hmx := hl.2.2
  have H := Lib.hid h
  clear hl h
  go_enter Try.func117, Try.ntmps117
  go_wp2
  go_loop [5, 6, 9] (fun _ _ i => ∃ k : Nat, k ≤ n ∧ i = .int .i64 k ∧ Hid (∀ j, j < k → l[j]? ≠ some s)) (fun _ _ i => n - (intOf i).toNat)
  case atStart => exact ⟨0, Nat.zero_le _, rfl, fun j hj => by omega⟩
  case round =>
    obtain ⟨k, hk, rfl, Hn⟩ := hrel
    by_cases hlt : k < n
    · obtain ⟨b, o, x, rfl, _, Hx, hc⟩ := int_at H.out k hlt
      by_cases hx : x = s
      · have HF := Lib.hid (place_hit l s x k Hx.out hx)
        have e1 : (x == s) = true := by rw [beq_iff_eq]; exact hx
        clear hx
        go_wp2
        go_ret
        exact ⟨⟨k, rfl, by omega, by constructor <;> intro h' <;> first | omega | exact (h' HF.out).elim⟩, rfl⟩
      · have e1 : (x == s) = false := by rw [beq_eq_false_iff_ne]; exact hx
        have HN : Hid (∀ j, j < k + 1 → l[j]? ≠ some s) := fun j hj => by
          by_cases e : j = k
          · subst e; rw [Hx.out]; intro e; exact hx (Option.some.inj e)
          · exact Hn.out j (by omega)
        clear hx
        go_wp2
        go_round
        case rel => exact ⟨k + 1, by omega, by go_num, HN.out⟩
        case measure => simp [intOf]; omega
    · have HF : Hid (s ∉ l) := Lib.hid fun hm => by
        obtain ⟨j, hj, rfl⟩ := List.getElem_of_mem hm
        exact Hn.out j (by rw [HL.out] at hj; omega) (List.getElem?_eq_getElem hj)
      go_wp2
      go_ret
      exact ⟨⟨-1, rfl, by omega, by constructor <;> intro _ <;> first | exact HF.out | omega⟩, rfl⟩

set_option maxRecDepth 100000 in
set_option maxHeartbeats 2000000 in
theorem vars3_any {l : List Tm} {n cap : Nat} {a : Option Addr} (w : World) (h : MemW w (.s 4 (Tm.rows l)) (.slice a n cap)) (hs : (Tm.alls l).length ≤ 1048576) :
    Calls Try.prog 63 #[.slice a n cap] w (Gives 0 1 (intRows (varsI [] (Tm.alls l))) w) := by
  have hl := Tms.len h
  have HL := Lib.hid hl.1
  have hcap := hl.2.1
  have hmx := hl.2.2
  have H := Lib.hid h
  have HS := Lib.hid hs
  clear hl h hs
  go_enter Try.func63, Try.ntmps63
  go_wp2
  go_loopw [3, 10] (fun v i wr => ∃ k : Nat, k ≤ n ∧ i = .int .i64 k ∧ Hid (Below w.heap.size w wr) ∧ Hid (OwnD 0 w.heap.size 3 1 wr v (intRows (varsI [] (Tm.alls (l.take k)))))) (fun _ i _ => n - (intOf i).toNat)
  case atStart => exact ⟨0, Nat.zero_le _, rfl, Below.refl _ _, by rw [List.take_zero, Tm.alls]; exact OwnD.nil _ _ _ _ _⟩
  case round =>
    obtain ⟨k, hk, rfl, HB, HO⟩ := hrel
    obtain ⟨wo, rfl⟩ : ∃ wo : World, wo = wr := ⟨_, rfl⟩
    by_cases hlt : k < n
    · obtain ⟨b, o, x, ax, nx, capx, rfl, hbB, Hx, x0, x1, x2, x3, GX⟩ := tm_at (Mem.keep H.out (Nat.le_refl _) HB.out) k hlt
      have HWS := Lib.hid (HB.out.size)
      have SX := Lib.hid (show x.size ≤ 1048576 from Nat.le_trans (Tm.size_mem (mem_of_at Hx.out)) HS.out)
      have HV := Lib.hid (show (varsI [] (Tm.alls (l.take k))).length + x.size ≤ 1048576 by
        have h1 := varsI_len [] (Tm.alls (l.take k))
        have h2 := Tm.alls_le (ts := l) (k + 1)
        rw [Tm.alls_at Hx.out, List.length_append] at h2
        have e : x.all.length = x.size := rfl
        have := HS.out
        simp only [List.length_nil] at h1
        omega)
      have HN : Hid (varsI [] (Tm.alls (l.take (k + 1))) = varsI (varsI [] (Tm.alls (l.take k))) x.all) := Lib.hid (by rw [Tm.alls_at Hx.out, varsI_app])
      generalize varsI [] (Tm.alls (l.take k)) = V at *
      go_wp2_with (first
        | (go_at_call 108
           refine (all03 (B := w.heap.size) SX.out (GX.out.keep (Nat.le_refl _) ((below_new wo _).mono HB.out.size)) (by rw [World.size_alloc]; have := HB.out.size; omega)).mono ?_
           rintro e w5 ⟨aa, na, ca, rfl, hb, hm⟩
           have HB5 := Lib.hid hb
           have HM5 := Lib.hid hm
           have HO5 := Lib.hid ((HO.out.alloc _).keep hb)
           have hnl := hm.len
           rw [Tm.rows_len] at hnl
           clear hb hm))
      have hna := hnl.2.1
      have hca := hnl.2.2
      have HNL := Lib.hid hnl.1
      clear hnl
      go_loopw [3, 17] (fun v i wr => ∃ j : Nat, j ≤ na ∧ i = .int .i64 j ∧ Hid (Below w.heap.size w wr) ∧ Hid (Mem (Nw w.heap.size (wo.heap.size + 1) w5.heap.size) wr (.s 4 (Tm.rows x.all)) (.slice aa na ca) ∧ w5.heap.size ≤ wr.heap.size ∧ ∀ b, v.ownBlock = some b → ¬ Nw w.heap.size (wo.heap.size + 1) w5.heap.size b) ∧ Hid (OwnD 0 w.heap.size 3 1 wr v (intRows (varsI V (x.all.take j))))) (fun _ i _ => na - (intOf i).toNat)
      case atStart => exact ⟨0, Nat.zero_le _, rfl, Below.toA HB.out HB5.out, ⟨World.size_alloc wo _ ▸ HM5.out, Nat.le_refl _, fun b hb h => by have h1 := HO.out.lt b hb; have h2 := HWS.out; rcases h.1 with h3 | h3 <;> omega⟩, by rw [List.take_zero]; exact HO5.out⟩
      case round =>
        obtain ⟨j, hj, rfl, HB6, HM6, HO6⟩ := hrel
        by_cases hlt' : j < na
        · obtain ⟨b', o', y, ay, ny, capy, rfl, hbB', Hy, y0, y1, y2, y3, GY⟩ := tm_at HM6.out.1 j hlt'
          have HVL := Lib.hid (show (varsI V (x.all.take j)).length + 1 ≤ 1048576 by
            have h1 := varsI_len V (x.all.take j)
            have h2 := HV.out
            have h3 := HNL.out
            have e : x.all.length = x.size := rfl
            rw [List.length_take] at h1; omega)
          have HN1 := Lib.hid (show varsI V (x.all.take (j + 1)) = if y.kind = 3 then putI (varsI V (x.all.take j)) y.n else varsI V (x.all.take j) by rw [take_at Hy.out, varsI_snoc])
          generalize varsI V (x.all.take j) = U at *
          obtain ⟨va, vc, rfl, hv1, hv2⟩ := HO6.out.form
          rw [intRows_len] at hv1
          by_cases hk3 : y.kind = 3
          · have e3 : (y.kind == 3) = true := by rw [beq_iff_eq]; exact hk3
            by_cases hin : y.n ∈ U
            · have HIN := Lib.hid hin
              have HF : Hid (varsI V (x.all.take (j + 1)) = U) := Lib.hid (by rw [HN1.out, if_pos hk3]; unfold putI; rw [if_pos hin])
              clear hin hk3
              go_wp2_with (first
                | (go_at_call 117
                   refine (place3_any _ _ (HO6.out.alloc _).memW).mono ?_
                   rintro e w' ⟨⟨i, rfl, hi1, hi2⟩, rfl⟩
                   have hi3 : ¬ i < 0 := fun h => (hi2.1 h) HIN.out
                   clear hi2))
              go_roundw
              case rel => exact ⟨j + 1, by omega, by go_num, HB6.out.alloc HB6.out.size _, ⟨Mem.mono HM6.out.1 (fun _ h => h) (fun b h => (below_new wr _).block b (by have := h.2; have := HM6.out.2.1; omega)), by rw [World.size_alloc]; have := HM6.out.2.1; omega, HM6.out.2.2⟩, by rw [HF.out]; exact HO6.out.alloc _⟩
              case measure => simp [intOf]; omega
            · have HIN := Lib.hid hin
              have HF : Hid (varsI V (x.all.take (j + 1)) = U ++ [y.n]) := Lib.hid (by rw [HN1.out, if_pos hk3]; unfold putI; rw [if_neg hin])
              have HBD := Lib.hid (show ((intRows U).length + (intRows [y.n]).length) * 8 ≤ 140737488355328 ∧ (intRows U).length + (intRows [y.n]).length ≤ 4611686018427387904 by have := HVL.out; rw [intRows_len, intRows_len, List.length_cons, List.length_nil]; omega)
              have HSZ : Hid (∀ o : Obj, w.heap.size ≤ (wr.alloc o).heap.size) := fun o => by have := HB6.out.size; rw [World.size_alloc]; omega
              have HSZ2 : Hid (∀ o o' : Obj, w.heap.size ≤ ((wr.alloc o).alloc o').heap.size) := fun o o' => by have := HB6.out.size; rw [World.size_alloc, World.size_alloc]; omega
              clear hin hk3
              go_wp2_with (first
                | (go_at_call 117
                   refine (place3_any _ _ (HO6.out.alloc _).memW).mono ?_
                   rintro e w' ⟨⟨i, rfl, hi1, hi2⟩, rfl⟩
                   have hi3 : i < 0 := hi2.2 HIN.out
                   clear hi2)
                | (at_builtin
                   refine wpList_append_D2 rfl _ _ rfl Try.underlying50 info_int3 rfl (by decide) rfl rfl ((HO6.out.alloc _).alloc _) (own_int y.n _ (World.size_alloc _ _).symm (HO6.out.alloc _) (HSZ.out _)) HBD.out.1 HBD.out.2 (HSZ2.out _ _) ?_
                   intro v' w7 ho hg hw
                   have HO7 := Lib.hid ho
                   have HG7 := Lib.hid hg
                   have HW7 := Lib.hid hw
                   clear ho hg hw))
              go_roundw
              case rel =>
                have hb7 : Below w.heap.size wr w7 := grown_below (((below_new wr _).mono HB6.out.size).alloc (by have := HB6.out.size; rw [World.size_alloc]; omega) _) HG7.out HB6.out.size (fun b hb => (HO6.out.lt b hb).1)
                have hz7 : wr.heap.size + 1 + 1 ≤ w7.heap.size := by have := HG7.out.size; rw [World.size_alloc, World.size_alloc] at this; exact this
                refine ⟨j + 1, by omega, by go_num, HB6.out.trans hb7, ⟨Mem.mono HM6.out.1 (fun _ h => h) (fun b h => ?_), by have := HM6.out.2.1; omega, fun b hb h => ?_⟩, ?_⟩
                · have h1 := HM6.out.2.1
                  have h2 := h.2
                  exact (HG7.out.block b (by rw [World.size_alloc, World.size_alloc]; omega) (fun e => HM6.out.2.2 b e.symm h)).trans (((below_new wr _).alloc (Nat.le_of_lt (by rw [World.size_alloc]; exact Nat.lt_succ_self _)) _).block b (by omega))
                · rcases HW7.out with hw | hw
                  · exact HM6.out.2.2 b (hw ▸ hb) h
                  · have h1 := hw b hb
                    rw [World.size_alloc, World.size_alloc] at h1
                    have h2 := h.2
                    have h3 := HM6.out.2.1
                    omega
                · rw [HF.out, intRows_app]; exact HO7.out
              case measure => simp [intOf]; omega
          · have e3 : (y.kind == 3) = false := by rw [beq_eq_false_iff_ne]; exact hk3
            have HF : Hid (varsI V (x.all.take (j + 1)) = U) := Lib.hid (by rw [HN1.out, if_neg hk3])
            clear hk3
            go_wp2
            go_roundw
            case rel => exact ⟨j + 1, by omega, by go_num, HB6.out.alloc HB6.out.size _, ⟨Mem.mono HM6.out.1 (fun _ h => h) (fun b h => (below_new wr _).block b (by have := h.2; have := HM6.out.2.1; omega)), by rw [World.size_alloc]; have := HM6.out.2.1; omega, HM6.out.2.2⟩, by rw [HF.out]; exact HO6.out.alloc _⟩
            case measure => simp [intOf]; omega
        · have HF : Hid (varsI V (x.all.take j) = varsI [] (Tm.alls (l.take (k + 1)))) := Lib.hid (by rw [HN.out, List.take_of_length_le (by rw [HNL.out]; omega)])
          rw [HF.out] at HO6
          go_wp2
          go_roundw
          case rel => exact ⟨k + 1, by omega, by go_num, HB6.out, HO6.out⟩
          case measure => simp [intOf]; omega
    · have HF : Hid (Tm.alls (l.take k) = Tm.alls l) := Lib.hid (by rw [List.take_of_length_le (by rw [HL.out]; omega)])
      rw [HF.out] at HO
      obtain ⟨va, vc, rfl, _, _⟩ := HO.out.form
      go_wp2
      go_ret
      exact ⟨_, _, _, rfl, HB.out, HO.out.mem⟩
end Go.Proofs.Ytppejoccljfblaa
