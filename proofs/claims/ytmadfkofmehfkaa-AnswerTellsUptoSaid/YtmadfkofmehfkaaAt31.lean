/-
  The reference's Show of a term. No condition but how it lies, its numbers, and how long its names are.
-/
import Derived.Test.YtmadfkofmehfkaaAt30
namespace Go.Proofs.Ytmadfkofmehfkaa
open Go.RowKit
attribute [local go_sem] toList_beq

/-- What is known of Show at a term. -/
def ShowRAt (x : Tm) : Prop := ∀ (w : World) (a : Option Addr) (n cap : Nat), MemW w (.s 4 (Tm.rows x.args)) (.slice a n cap) →
  Calls Try.prog 28 #[.agg #[.int .i64 x.kind, .string x.name, .int .i64 x.n, .slice a n cap]] w fun e w' => e = .returned (.string (showM x)) ∧ Below w.heap.size w w'

set_option maxRecDepth 100000 in
set_option maxHeartbeats 2000000 in
theorem arg_any {x : Tm} {n cap : Nat} {a : Option Addr} (w : World) (hx : ShowRAt x) (hs : (showM x).size ≤ 100000000) (h : MemW w (.s 4 (Tm.rows x.args)) (.slice a n cap)) :
    Calls Try.prog 64 #[.agg #[.int .i64 x.kind, .string x.name, .int .i64 x.n, .slice a n cap]] w fun e w' => e = .returned (.string (brkM (tightM x) (showM x))) ∧ Below w.heap.size w w' := by
  have hl := (Tms.len h).1
  have HT : Hid (tightM x = decide ((x.kind = 1 ∨ x.kind = 4) ∧ 0 < n ∨ x.kind = 2 ∧ x.n < 0)) := Lib.hid (by unfold tightM; rw [hl])
  have HC := Lib.hid (hx _ a n cap (MemW.alloc h (.cells #[.int .i64 x.kind, .string x.name, .int .i64 x.n, .slice a n cap] 24)))
  have HB0 := Lib.hid (Bo.new w 24 #[.int .i64 x.kind, .string x.name, .int .i64 x.n, .slice a n cap])
  have iz : ((showM x).size : Int) ≤ 1000000000 := by omega
  clear hl hx h hs
  have key : ∀ c : Bool, tightM x = c → Hid (tightM x = c) := fun c h => h
  by_cases k1 : x.kind = 1
  · have e1 : (x.kind == 1) = true := by rw [beq_iff_eq]; exact k1
    have e4 : (x.kind == 4) = false := by rw [k1]; rfl
    have e2 : (x.kind == 2) = false := by rw [k1]; rfl
    by_cases hn : 0 < n
    · have HF := key true (by rw [HT.out]; exact decide_eq_true (.inl ⟨.inl k1, hn⟩))
      have hi : (0 : Int) < n := by omega
      clear k1 hn
      go_enter Try.func64, Try.ntmps64
      go_wp2_with (first | (go_at_call 28 ; refine HC.out.mono ?_; rintro e w2 ⟨rfl, hb⟩; have HB2 := Lib.hid hb; clear hb; obtain ⟨g0, g1, g2, g3⟩ := (HB0.out.keep HB2.out).c4))
      all_goals
        go_ret
        exact ⟨ret_str (by rw [HF.out]; rfl), Below.toA (Below.refl _ _) HB2.out⟩
    · obtain rfl : n = 0 := by omega
      have HF := key false (by rw [HT.out]; exact decide_eq_false (by omega))
      clear k1 hn
      go_enter Try.func64, Try.ntmps64
      go_wp2_with (first | (go_at_call 28 ; refine HC.out.mono ?_; rintro e w2 ⟨rfl, hb⟩; have HB2 := Lib.hid hb; clear hb; obtain ⟨g0, g1, g2, g3⟩ := (HB0.out.keep HB2.out).c4))
      all_goals
        go_ret
        exact ⟨ret_str (by rw [HF.out]; rfl), Below.toA (Below.refl _ _) HB2.out⟩
  · have e1 : (x.kind == 1) = false := by rw [beq_eq_false_iff_ne]; exact k1
    by_cases k4 : x.kind = 4
    · have e4 : (x.kind == 4) = true := by rw [beq_iff_eq]; exact k4
      have e2 : (x.kind == 2) = false := by rw [k4]; rfl
      by_cases hn : 0 < n
      · have HF := key true (by rw [HT.out]; exact decide_eq_true (.inl ⟨.inr k4, hn⟩))
        have hi : (0 : Int) < n := by omega
        clear k1 hn k4
        go_enter Try.func64, Try.ntmps64
        go_wp2_with (first | (go_at_call 28 ; refine HC.out.mono ?_; rintro e w2 ⟨rfl, hb⟩; have HB2 := Lib.hid hb; clear hb; obtain ⟨g0, g1, g2, g3⟩ := (HB0.out.keep HB2.out).c4))
        all_goals
          go_ret
          exact ⟨ret_str (by rw [HF.out]; rfl), Below.toA (Below.refl _ _) HB2.out⟩
      · obtain rfl : n = 0 := by omega
        have HF := key false (by rw [HT.out]; exact decide_eq_false (by omega))
        clear k1 hn k4
        go_enter Try.func64, Try.ntmps64
        go_wp2_with (first | (go_at_call 28 ; refine HC.out.mono ?_; rintro e w2 ⟨rfl, hb⟩; have HB2 := Lib.hid hb; clear hb; obtain ⟨g0, g1, g2, g3⟩ := (HB0.out.keep HB2.out).c4))
        all_goals
          go_ret
          exact ⟨ret_str (by rw [HF.out]; rfl), Below.toA (Below.refl _ _) HB2.out⟩
    · have e4 : (x.kind == 4) = false := by rw [beq_eq_false_iff_ne]; exact k4
      by_cases k2 : x.kind = 2
      · have e2 : (x.kind == 2) = true := by rw [beq_iff_eq]; exact k2
        by_cases hn : x.n < 0
        · have HF := key true (by rw [HT.out]; exact decide_eq_true (.inr ⟨k2, hn⟩))
          clear k1 k2 k4
          go_enter Try.func64, Try.ntmps64
          go_wp2_with (first | (go_at_call 28 ; refine HC.out.mono ?_; rintro e w2 ⟨rfl, hb⟩; have HB2 := Lib.hid hb; clear hb; obtain ⟨g0, g1, g2, g3⟩ := (HB0.out.keep HB2.out).c4))
          all_goals
            go_ret
            exact ⟨ret_str (by rw [HF.out]; rfl), Below.toA (Below.refl _ _) HB2.out⟩
        · have HF := key false (by rw [HT.out]; exact decide_eq_false (by omega))
          clear k1 k2 k4
          go_enter Try.func64, Try.ntmps64
          go_wp2_with (first | (go_at_call 28 ; refine HC.out.mono ?_; rintro e w2 ⟨rfl, hb⟩; have HB2 := Lib.hid hb; clear hb; obtain ⟨g0, g1, g2, g3⟩ := (HB0.out.keep HB2.out).c4))
          all_goals
            go_ret
            exact ⟨ret_str (by rw [HF.out]; rfl), Below.toA (Below.refl _ _) HB2.out⟩
      · have e2 : (x.kind == 2) = false := by rw [beq_eq_false_iff_ne]; exact k2
        have HF := key false (by rw [HT.out]; exact decide_eq_false (by omega))
        clear k1 k2 k4
        go_enter Try.func64, Try.ntmps64
        go_wp2_with (first | (go_at_call 28 ; refine HC.out.mono ?_; rintro e w2 ⟨rfl, hb⟩; have HB2 := Lib.hid hb; clear hb; obtain ⟨g0, g1, g2, g3⟩ := (HB0.out.keep HB2.out).c4))
        all_goals
          go_ret
          exact ⟨ret_str (by rw [HF.out]; rfl), Below.toA (Below.refl _ _) HB2.out⟩

set_option maxRecDepth 100000 in
set_option maxHeartbeats 2000000 in
theorem named3_any {t : Tm} {n cap : Nat} {a : Option Addr} (w : World) (hx : ∀ x ∈ t.args, ShowRAt x) (hok : t.ok) (hw : t.wt ≤ 1048576) (h : MemW w (.s 4 (Tm.rows t.args)) (.slice a n cap)) :
    Calls Try.prog 52 #[.agg #[.int .i64 t.kind, .string t.name, .int .i64 t.n, .slice a n cap]] w fun e w' => e = .returned (.string (t.name ++ appM t.args)) ∧ Below w.heap.size w w' := by
  have hl := Tms.len h
  have HL := Lib.hid hl.1
  have hcap := hl.2.1
  have hmx := hl.2.2
  have H := Lib.hid h
  have HX := Lib.hid hx
  have HS : Hid (∀ k, (t.name ++ appM (t.args.take k)).size ≤ 31457280) := fun k => by
    have h1 := appM_size (t.args.take k) fun x hx => showM_size (Tm.ok_arg hok (List.mem_of_mem_take hx))
    have h2 : Tm.wts (t.args.take k) ≤ Tm.wts t.args := by
      conv => rhs; rw [← List.take_append_drop k t.args, Tm.wts_app]
      omega
    have h3 := t.wt_eq
    rw [ByteArray.size_append]; omega
  have HXS : Hid (∀ x ∈ t.args, (showM x).size ≤ 31457280) := fun x hx => by
    have h1 := showM_size (Tm.ok_arg hok hx)
    have h2 := Tm.wts_mem hx
    have h3 := t.wt_eq
    omega
  clear hl h hx hok hw
  go_enter Try.func52, Try.ntmps52
  go_wp2
  go_loopw [3, 11] (fun v i wr => ∃ k : Nat, k ≤ n ∧ i = .int .i64 k ∧ v = .string (t.name ++ appM (t.args.take k)) ∧ Hid (Below w.heap.size w wr)) (fun _ i _ => n - (intOf i).toNat)
  case atStart => exact ⟨0, Nat.zero_le _, rfl, by rw [List.take_zero, appM]; show _ = Value.string (t.name ++ ByteArray.empty); rw [ByteArray.append_empty], (below_new _ _)⟩
  case round =>
    obtain ⟨k, hk, rfl, rfl, HB⟩ := hrel
    by_cases hlt : k < n
    · obtain ⟨b, o, x, ax, nx, capx, rfl, hbB, Hx, x0, x1, x2, x3, GX⟩ := (Tms.keep H.out HB.out).at k hlt
      have hm := mem_of_at Hx.out
      have hs1 := HXS.out x hm
      have hs2 := HS.out k
      have hs3 := brkM_size (tightM x) (showM x)
      have HT := Lib.hid (fun (w' : World) (h' : MemW w' (.s 4 (Tm.rows x.args)) (.slice ax nx capx)) => arg_any w' (HX.out x hm) (by omega) h')
      have HN := Lib.hid (show t.name ++ appM (t.args.take (k + 1)) = t.name ++ appM (t.args.take k) ++ (⟨#[32]⟩ ++ brkM (tightM x) (showM x)) by rw [take_at Hx.out, appM_snoc, ByteArray.append_assoc])
      clear hm
      generalize hs : t.name ++ appM (t.args.take k) = s at *
      generalize hb' : brkM (tightM x) (showM x) = bx at *
      have iz1 : (s.size : Int) ≤ 1000000000 := by omega
      have iz2 : (bx.size : Int) ≤ 1000000000 := by omega
      clear hs hb' hs1 hs2 hs3
      go_wp2_with (first | (go_at_call 64 ; refine (HT.out _ (MemW.alloc GX.out _)).mono ?_; rintro e w2 ⟨rfl, hb⟩; have HB2 := Lib.hid hb; clear hb))
      go_roundw
      case rel => exact ⟨k + 1, by omega, by go_num, by rw [HN.out], Below.toA HB.out HB2.out⟩
      case measure => simp [intOf]; omega
    · have HF := Lib.hid (show t.args.take k = t.args from List.take_of_length_le (by rw [HL.out]; omega))
      go_wp2
      go_ret
      exact ⟨ret_str (by rw [HF.out]), HB.out⟩

set_option maxRecDepth 100000 in
set_option maxHeartbeats 2000000 in
theorem showR_of {t : Tm} (hx : ∀ x ∈ t.args, ShowRAt x) (hok : t.ok) (hw : t.wt ≤ 1048576) : ShowRAt t := by
  intro w a n cap h
  have hn := (hok t (Tm.mem_all t)).2
  unfold inI64 at hn
  have hsz := showM_size hok
  have HA := Lib.hid (named3_any (t := t) (n := n) (cap := cap) (a := a) _ hx hok hw (MemW.alloc h (.cells #[.int .i64 t.kind, .string t.name, .int .i64 t.n, .slice a n cap] 24)))
  have hds := digM_size t.n (hok t (Tm.mem_all t)).2
  have HD := Lib.hid (fun (w' : World) => rDigits_any t.n w' hn.1 hn.2)
  have HE := Lib.hid (showM_eq t)
  have id1 : (((⟨(digs t.n).toArray⟩ : ByteArray)).size : Int) ≤ 1000000000 := by show ((digM t.n).size : Int) ≤ _; omega
  have idl : (digs t.n).length ≤ 21 := by
    have e : (digM t.n).size = (digs t.n).length := by unfold digM; exact List.size_toArray ..
    omega
  have id2 : ((digs t.n).length : Int) ≤ 1000000000 := by omega
  have id3 : ¬ (9223372036854775807 < 1 + (digs t.n).length) := by omega
  by_cases k1 : t.kind = 1
  · have e1 : (t.kind == 1) = true := by rw [beq_iff_eq]; exact k1
    have HF := Lib.hid (HE.out.trans (if_pos k1))
    clear k1 hx hok hw h hsz
    go_enter Try.func28, Try.ntmps28
    go_wp2_with (first | (go_at_call 52 ; refine HA.out.mono ?_; rintro e w2 ⟨rfl, hb⟩; have HB2 := Lib.hid hb; clear hb))
    go_ret
    exact ⟨ret_str HF.out.symm, Below.toA (Below.refl _ _) HB2.out⟩
  have e1 : (t.kind == 1) = false := by rw [beq_eq_false_iff_ne]; exact k1
  by_cases k2 : t.kind = 2
  · have e2 : (t.kind == 2) = true := by rw [beq_iff_eq]; exact k2
    have HF := Lib.hid (HE.out.trans ((if_neg k1).trans (if_pos k2)))
    clear k1 k2 hx hok hw h hsz
    go_enter Try.func28, Try.ntmps28
    go_wp2_with (first | (go_at_call 53 ; refine (HD.out _).mono ?_; rintro e w2 ⟨rfl, hb⟩; have HB2 := Lib.hid hb; clear hb))
    go_ret
    exact ⟨ret_str HF.out.symm, Below.toA (Below.refl _ _) HB2.out⟩
  have e2 : (t.kind == 2) = false := by rw [beq_eq_false_iff_ne]; exact k2
  by_cases k3 : t.kind = 3
  · have e3 : (t.kind == 3) = true := by rw [beq_iff_eq]; exact k3
    have HF := Lib.hid (HE.out.trans ((if_neg k1).trans ((if_neg k2).trans (if_pos k3))))
    clear k1 k2 k3 hx hok hw h hsz
    go_enter Try.func28, Try.ntmps28
    go_wp2_with (first | (go_at_call 53 ; refine (HD.out _).mono ?_; rintro e w2 ⟨rfl, hb⟩; have HB2 := Lib.hid hb; clear hb))
    go_ret
    exact ⟨ret_str HF.out.symm, Below.toA (Below.refl _ _) HB2.out⟩
  have e3 : (t.kind == 3) = false := by rw [beq_eq_false_iff_ne]; exact k3
  by_cases k4 : t.kind = 4
  · have e4 : (t.kind == 4) = true := by rw [beq_iff_eq]; exact k4
    have HF := Lib.hid (HE.out.trans ((if_neg k1).trans ((if_neg k2).trans ((if_neg k3).trans (if_pos k4)))))
    have ia : ((t.name ++ appM t.args).size : Int) ≤ 1000000000 := by
      have h1 := appM_size t.args fun x hx => showM_size (Tm.ok_arg hok hx)
      have h3 := t.wt_eq
      rw [ByteArray.size_append]; omega
    clear k1 k2 k3 k4 hx hok hw h hsz
    generalize t.name ++ appM t.args = s at *
    go_enter Try.func28, Try.ntmps28
    go_wp2_with (first | (go_at_call 52 ; refine HA.out.mono ?_; rintro e w2 ⟨rfl, hb⟩; have HB2 := Lib.hid hb; clear hb))
    go_ret
    exact ⟨ret_str HF.out.symm, Below.toA (Below.refl _ _) HB2.out⟩
  have e4 : (t.kind == 4) = false := by rw [beq_eq_false_iff_ne]; exact k4
  have HF := Lib.hid (HE.out.trans ((if_neg k1).trans ((if_neg k2).trans ((if_neg k3).trans (if_neg k4)))))
  clear k1 k2 k3 k4 hx hok hw h hsz
  go_enter Try.func28, Try.ntmps28
  go_wp2
  go_ret
  exact ⟨ret_str HF.out.symm, below_new _ _⟩
theorem showR_any (m : Nat) : ∀ t : Tm, t.size ≤ m → t.ok → t.wt ≤ 1048576 → ShowRAt t := by
  induction m with
  | zero => intro t h; have := t.size_pos; omega
  | succ m ih => intro t h hok hw; exact showR_of (fun x hx => ih x (by have := Tm.size_arg hx; omega) (Tm.ok_arg hok hx) (Nat.le_trans (Tm.wt_arg hx) hw)) hok hw
theorem showRt {t : Tm} (hok : t.ok) (hw : t.wt ≤ 1048576) : ShowRAt t := showR_any t.size t (Nat.le_refl _) hok hw
end Go.Proofs.Ytmadfkofmehfkaa
