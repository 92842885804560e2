/-
  All: a term, and all that is in it, as a list. No condition but how it lies, and how many there are.
-/
import Derived.Test.YtppejoccljfblaaAv1
import Derived.StillTailTactics
namespace Go.Proofs.Ytppejoccljfblaa
open Go.RowKit

theorem info_term : (Try.prog.info? 96).map (fun i => (i.zero, i.size, i.bytes)) = some (some (.agg #[.int .i64 0, .string .empty, .int .i64 0, .slice none 0 0]), 4, 56) := by kernel_rfl

set_option maxRecDepth 100000 in
set_option maxHeartbeats 2000000 in
theorem all03_any (m : Nat) : ∀ (t : Tm) (B n cap : Nat) (a : Option Addr) (w : World), t.size ≤ m → m ≤ 1048576 → Mem (· < B) w (.s 4 (Tm.rows t.args)) (.slice a n cap) → B ≤ w.heap.size →
    Calls Try.prog 108 #[.agg #[.int .i64 t.kind, .string t.name, .int .i64 t.n, .slice a n cap]] w (Gives B 4 (Tm.rows t.all) w) := by
  induction m with
  | zero => intro t _ _ _ _ w h; have := t.size_pos; omega
  | succ m ih =>
    intro t B n cap a w hm hmm h hB
    have IH := Lib.hid ih
    clear ih
    have hl := h.len
    rw [Tm.rows_len] at hl
    have hln := Lib.hid hl.1
    have hcap := hl.2.1
    have hmx := hl.2.2
    clear hl
    have HA := Lib.hid (show ∀ x ∈ t.args, x.size ≤ m from fun x hx => by have := Tm.size_arg hx; omega)
    have HM := Lib.hid (show t.size ≤ 1048576 by omega)
    have HMM := Lib.hid (show m ≤ 1048576 by omega)
    clear hm hmm
    have H := Lib.hid h
    clear h
    have H0 := Lib.hid hB
    clear hB
    go_enter Try.func108, Try.ntmps108
    go_wp2
    go_loopw [3, 11] (fun v i wr => ∃ k : Nat, k ≤ n ∧ i = .int .i64 k ∧ Hid (Below w.heap.size w wr) ∧ Hid (OwnD B w.heap.size 96 4 wr v (Tm.rows (t :: Tm.alls (t.args.take k))))) (fun _ i _ => n - (intOf i).toNat)
    case atStart =>
      refine ⟨0, Nat.zero_le _, rfl, (below_new _ _).alloc (by simp) _, ?_⟩
      have := tm_one (B := B) (base := w.heap.size) (e := 96) (w := w.alloc (.cells #[.int .i64 t.kind, .string t.name, .int .i64 t.n, .slice a n cap] 96)) t ((H.out.keep (Nat.le_refl _) ((below_new w _).mono H0.out)).mono (fun b hb => ⟨.inl hb, by have := H0.out; rw [World.size_alloc]; omega⟩) fun _ _ => rfl) (by simp)
      rw [World.size_alloc] at this
      rw [List.take_zero, Tm.alls]
      exact this
    case round =>
      obtain ⟨k, hk, rfl, HB, HO⟩ := hrel
      by_cases hlt : k < n
      · obtain ⟨b, o, x, ax, nx, capx, rfl, hbB, Hx, x0, x1, x2, x3, GX⟩ := tm_at (H.out.keep (Nat.le_refl _) (HB.out.mono H0.out)) k hlt
        have GA := Lib.hid (HA.out x (mem_of_at Hx.out))
        have HW := Lib.hid (show B ≤ wr.heap.size from Nat.le_trans H0.out HB.out.size)
        have HL := Lib.hid (show (Tm.rows (t :: Tm.alls (t.args.take k))).length + (Tm.rows x.all).length ≤ 1048576 by
          have h1 := HM.out
          rw [Tm.size_eq] at h1
          have h2 := Tm.alls_le (ts := t.args) (k + 1)
          rw [Tm.alls_at Hx.out, List.length_append] at h2
          rw [Tm.rows_len, Tm.rows_len, List.length_cons]; omega)
        go_wp2_with (first
          | (go_at_call 108
             refine (IH.out x B _ _ _ _ GA.out HMM.out (GX.out.keep (Nat.le_refl _) ((below_new wr _).mono HW.out)) (by have := HW.out; rw [World.size_alloc]; omega)).mono ?_
             rintro e w2 ⟨a2, n2, cap2, rfl, hb, hm⟩
             have HB2 := Lib.hid hb; clear hb
             have HM2 := Lib.hid hm; clear hm)
          | (at_builtin
             refine wpList_append_D rfl _ _ rfl Try.underlying89 info_term rfl (by decide) rfl rfl ((HO.out.alloc _).keep HB2.out) ((HO.out.alloc _).apart H0.out (by have := HB.out.size; rw [World.size_alloc]; omega) HM2.out) (by have := HL.out; omega) (by have := HL.out; omega) (by have := HB.out.size; have := HB2.out.size; rw [World.size_alloc] at this; omega) ?_
             intro v' w3 ho hg
             have HO3 := Lib.hid ho; clear ho
             have HG3 := Lib.hid hg; clear hg))
        go_roundw
        case rel =>
          refine ⟨k + 1, by omega, by go_num, grown_below (Below.toA HB.out HB2.out) HG3.out (Nat.le_refl _) (fun b hb => (HO.out.lt b hb).1), ?_⟩
          have := HO3.out
          rw [← Tm.rows_app, List.cons_append, ← Tm.alls_at Hx.out] at this
          exact this
        case measure => simp [intOf]; omega
      · have hk' : t.args.take k = t.args := List.take_of_length_le (by rw [hln.out]; omega)
        rw [hk', ← Tm.all_eq] at HO
        clear hk'
        obtain ⟨a', cap', rfl, _, _⟩ := HO.out.form
        go_wp2
        go_ret
        exact ⟨_, _, _, rfl, HB.out, HO.out.mem⟩
/-- The list of it and all that is in it. -/
theorem all03 {t : Tm} {B n cap : Nat} {a : Option Addr} {w : World} (hm : t.size ≤ 1048576) (h : Mem (· < B) w (.s 4 (Tm.rows t.args)) (.slice a n cap)) (hB : B ≤ w.heap.size) :
    Calls Try.prog 108 #[.agg #[.int .i64 t.kind, .string t.name, .int .i64 t.n, .slice a n cap]] w (Gives B 4 (Tm.rows t.all) w) := all03_any 1048576 t B n cap a w hm (Nat.le_refl _) h hB
end Go.Proofs.Ytppejoccljfblaa

/-
  Few: whether terms are few. No condition but how they lie, and how many there are.
-/
namespace Go.Proofs.Ytppejoccljfblaa
open Go.RowKit

def fewB (l : List Tm) : Bool := decide ((Tm.alls l).length ≤ 200) && decide (l.length ≤ 30)
set_option maxRecDepth 100000 in
set_option maxHeartbeats 2000000 in
theorem few_any {l : List Tm} {n cap : Nat} {a : Option Addr} (w : World) (h : MemW w (.s 4 (Tm.rows l)) (.slice a n cap)) (hs : (Tm.alls l).length ≤ 1048576) :
    Calls Try.prog 55 #[.slice a n cap] w fun e w' => e = .returned (.bool (fewB l)) ∧ Below w.heap.size w w' := by
  have hl := Tms.len h
  have HL := Lib.hid hl.1
  have hcap := hl.2.1
  have hmx := hl.2.2
  have H := Lib.hid h
  have HS := Lib.hid hs
  clear hl h hs
  go_enter Try.func55, Try.ntmps55
  go_wp2
  go_loopw [3, 8] (fun v i wr => ∃ (k m : Nat), k ≤ n ∧ i = .int .i64 k ∧ v = .int .i64 m ∧ m ≤ 200 ∧ Hid (m = (Tm.alls (l.take k)).length) ∧ Hid (Below w.heap.size w wr)) (fun _ i _ => n - (intOf i).toNat)
  case atStart => exact ⟨0, 0, Nat.zero_le _, rfl, rfl, by omega, by show 0 = _; rw [List.take_zero, Tm.alls]; rfl, Below.refl _ _⟩
  case round =>
    obtain ⟨k, m, hk, rfl, rfl, hm, HM, HB⟩ := hrel
    by_cases hlt : k < n
    · obtain ⟨b, o, x, ax, nx, capx, rfl, hbB, Hx, x0, x1, x2, x3, GX⟩ := (Tms.keep H.out HB.out).at k hlt
      have hxs : x.size ≤ 1048576 := Nat.le_trans (Tm.size_mem (mem_of_at Hx.out)) HS.out
      have SX := Lib.hid hxs
      have hxz : (Tm.rows x.all).length = x.size := by rw [Tm.rows_len]; rfl
      have HN : Hid (m + x.size = (Tm.alls (l.take (k + 1))).length) := Lib.hid (by rw [Tm.alls_at Hx.out, List.length_append, HM.out]; rfl)
      by_cases h2 : 200 < m + x.size
      · have h2' : (200 : Int) < (m : Int) + x.size := by omega
        have HF : Hid (fewB l = false) := Lib.hid (by
          have := Tm.alls_le (ts := l) (k + 1)
          rw [← HN.out] at this
          unfold fewB; rw [decide_eq_false (by omega)]; rfl)
        go_wp2_with (first
          | (go_at_call 108 ; refine (all03 SX.out (MemW.keep GX.out (below_new wr _)) (Nat.le_refl _)).mono ?_; rintro e w5 ⟨aa5, na5, ca5, rfl, hb, hm⟩; have hna := hm.len.1.symm.trans hxz; subst hna; have HB5 := Lib.hid hb; clear hb hm))
        go_ret
        exact ⟨ret_bool HF.out.symm, Below.toA HB.out HB5.out⟩
      · have h2' : (m : Int) + x.size ≤ 200 := by omega
        have h3' : ¬ (200 : Int) < (m : Int) + x.size := by omega
        go_wp2_with (first
          | (go_at_call 108 ; refine (all03 SX.out (MemW.keep GX.out (below_new wr _)) (Nat.le_refl _)).mono ?_; rintro e w5 ⟨aa5, na5, ca5, rfl, hb, hm⟩; have hna := hm.len.1.symm.trans hxz; subst hna; have HB5 := Lib.hid hb; clear hb hm))
        go_roundw
        case rel => exact ⟨k + 1, m + x.size, by omega, by go_num, by go_num, by omega, HN.out, Below.toA HB.out HB5.out⟩
        case measure => simp [intOf]; omega
    · have hkn : k = n := by omega
      have HF : Hid (fewB l = decide ((n : Int) ≤ 30)) := Lib.hid (by
        have h1 := HM.out
        rw [List.take_of_length_le (by rw [HL.out]; omega)] at h1
        unfold fewB
        rw [decide_eq_true (by omega), Bool.true_and, HL.out]
        exact decide_eq_decide.2 (by omega))
      clear hkn
      go_wp2
      all_goals
        go_ret
        refine ⟨ret_bool ?_, HB.out⟩
        first
          | exact HF.out.symm
          | (rw [HF.out]; simp; omega)
end Go.Proofs.Ytppejoccljfblaa

/-
  How great and how deep a term is. No condition but how it lies, and how great it is.
-/
namespace Go.Proofs.Ytppejoccljfblaa
open Go.RowKit

mutual
def depT : Tm → Nat
  | .mk _ _ _ ts => depTs ts + 1
def depTs : List Tm → Nat
  | [] => 0
  | t :: ts => max (depT t) (depTs ts)
end
theorem depT_eq (t : Tm) : depT t = depTs t.args + 1 := by cases t; rw [depT]; rfl
theorem depTs_snoc (l : List Tm) (x : Tm) : depTs (l ++ [x]) = max (depTs l) (depT x) := by
  induction l with
  | nil => simp only [List.nil_append, depTs]; omega
  | cons t l ih => rw [List.cons_append, depTs, ih, depTs]; omega
theorem depTs_le (l : List Tm) (h : ∀ x ∈ l, depT x ≤ x.size) : depTs l ≤ (Tm.alls l).length := by
  induction l with
  | nil => rw [depTs]; omega
  | cons t l ih =>
    have h1 := h t (List.mem_cons_self ..)
    have h2 := ih fun x hx => h x (List.mem_cons_of_mem _ hx)
    have e : t.all.length = t.size := rfl
    rw [depTs, Tm.alls, List.length_append]; omega
theorem depT_size (m : Nat) : ∀ t, t.size ≤ m → depT t ≤ t.size := by
  induction m with
  | zero => intro t h; have := t.size_pos; omega
  | succ m ih =>
    intro t h
    rw [depT_eq, Tm.size_eq]
    have := depTs_le t.args fun x hx => ih x (by have := Tm.size_arg hx; omega)
    omega
theorem depT_le (t : Tm) : depT t ≤ t.size := depT_size t.size t (Nat.le_refl _)

set_option maxRecDepth 100000 in
set_option maxHeartbeats 2000000 in
theorem size_any (m : Nat) : ∀ (t : Tm) (n cap : Nat) (a : Option Addr) (w : World), t.size ≤ m → m ≤ 1048576 → MemW w (.s 4 (Tm.rows t.args)) (.slice a n cap) →
    Calls Try.prog 64 #[.agg #[.int .i64 t.kind, .string t.name, .int .i64 t.n, .slice a n cap]] w fun e w' => e = .returned (.int .i64 t.size) ∧ Below w.heap.size w w' := by
  induction m with
  | zero => intro t _ _ _ w h; have := t.size_pos; omega
  | succ m ih =>
    intro t n cap a w hm hmm h
    have IH := Lib.hid ih
    clear ih
    have hl := Tms.len h
    have hln := Lib.hid hl.1
    have hcap := hl.2.1
    have hmx := hl.2.2
    have HA := Lib.hid (show ∀ x ∈ t.args, x.size ≤ m from fun x hx => by have := Tm.size_arg hx; omega)
    have HS := Lib.hid (show ∀ k, 1 + (Tm.alls (t.args.take k)).length ≤ 1048576 from fun k => by have := Tm.alls_le (ts := t.args) k; have := t.size_eq; omega)
    have HE := Lib.hid t.size_eq
    have HMM := Lib.hid (show m ≤ 1048576 by omega)
    have H := Lib.hid h
    clear hm hmm hl h
    go_enter Try.func64, Try.ntmps64
    go_wp2
    go_loopw [3, 9] (fun v i wr => ∃ (k s : Nat), k ≤ n ∧ i = .int .i64 k ∧ v = .int .i64 s ∧ Hid (s = 1 + (Tm.alls (t.args.take k)).length) ∧ Hid (Below w.heap.size w wr)) (fun _ i _ => n - (intOf i).toNat)
    case atStart => exact ⟨0, 1, Nat.zero_le _, rfl, rfl, by show 1 = _; rw [List.take_zero, Tm.alls]; rfl, below_new _ _⟩
    case round =>
      obtain ⟨k, s, hk, rfl, rfl, HN, HB⟩ := hrel
      by_cases hlt : k < n
      · obtain ⟨b, o, x, ax, nx, capx, rfl, hbB, Hx, x0, x1, x2, x3, GX⟩ := (Tms.keep H.out HB.out).at k hlt
        have GA := Lib.hid (HA.out x (mem_of_at Hx.out))
        have HN' : Hid (s + x.size = 1 + (Tm.alls (t.args.take (k + 1))).length) := Lib.hid (by rw [Tm.alls_at Hx.out, List.length_append, HN.out, Nat.add_assoc]; rfl)
        have hs : s + x.size ≤ 1048576 := by rw [HN'.out]; exact HS.out _
        have hs1 : (s : Int) + x.size ≤ 1048576 := by omega
        go_wp2_with (first | (go_at_call 64 ; refine (IH.out x _ _ _ _ GA.out HMM.out (MemW.alloc GX.out _)).mono ?_; rintro e w2 ⟨rfl, hb⟩; have HB2 := Lib.hid hb; clear hb))
        go_roundw
        case rel => exact ⟨k + 1, s + x.size, by omega, by go_num, by go_num, HN'.out, Below.toA HB.out HB2.out⟩
        case measure => simp [intOf]; omega
      · have HF : Hid (s = t.size) := Lib.hid (by
          have h1 := HN.out
          rw [List.take_of_length_le (by rw [hln.out]; omega), ← HE.out] at h1; exact h1)
        go_wp2
        go_ret
        exact ⟨by rw [HF.out]; rfl, HB.out⟩

set_option maxRecDepth 100000 in
set_option maxHeartbeats 2000000 in
theorem depth_any (m : Nat) : ∀ (t : Tm) (n cap : Nat) (a : Option Addr) (w : World), t.size ≤ m → m ≤ 1048576 → MemW w (.s 4 (Tm.rows t.args)) (.slice a n cap) →
    Calls Try.prog 65 #[.agg #[.int .i64 t.kind, .string t.name, .int .i64 t.n, .slice a n cap]] w fun e w' => e = .returned (.int .i64 (depT t)) ∧ Below w.heap.size w w' := by
  induction m with
  | zero => intro t _ _ _ w h; have := t.size_pos; omega
  | succ m ih =>
    intro t n cap a w hm hmm h
    have IH := Lib.hid ih
    clear ih
    have hl := Tms.len h
    have hln := Lib.hid hl.1
    have hcap := hl.2.1
    have hmx := hl.2.2
    have HA := Lib.hid (show ∀ x ∈ t.args, x.size ≤ m from fun x hx => by have := Tm.size_arg hx; omega)
    have HE := Lib.hid (depT_eq t)
    have HMM := Lib.hid (show m ≤ 1048576 by omega)
    have H := Lib.hid h
    clear hm hmm hl h
    go_enter Try.func65, Try.ntmps65
    go_wp2
    go_loopw [3, 9] (fun v i wr => ∃ (k s : Nat), k ≤ n ∧ i = .int .i64 k ∧ v = .int .i64 s ∧ s ≤ 1048576 ∧ Hid (s = depTs (t.args.take k)) ∧ Hid (Below w.heap.size w wr)) (fun _ i _ => n - (intOf i).toNat)
    case atStart => exact ⟨0, 0, Nat.zero_le _, rfl, rfl, by omega, by show 0 = _; rw [List.take_zero, depTs], below_new _ _⟩
    case round =>
      obtain ⟨k, s, hk, rfl, rfl, hs, HN, HB⟩ := hrel
      by_cases hlt : k < n
      · obtain ⟨b, o, x, ax, nx, capx, rfl, hbB, Hx, x0, x1, x2, x3, GX⟩ := (Tms.keep H.out HB.out).at k hlt
        have GA := Lib.hid (HA.out x (mem_of_at Hx.out))
        have hd : depT x ≤ 1048576 := by have := depT_le x; have := GA.out; have := HMM.out; omega
        have HN' : Hid (max s (depT x) = depTs (t.args.take (k + 1))) := Lib.hid (by rw [take_at Hx.out, depTs_snoc, HN.out])
        have hmax : (if (depT x : Int) > (s : Int) then (depT x : Int) else (s : Int)) = ((max s (depT x) : Nat) : Int) := by split <;> omega
        by_cases hgt : s < depT x
        · have hgi : (s : Int) < depT x := by omega
          have HM : Hid (max s (depT x) = depT x) := Lib.hid (by omega)
          clear hmax
          go_wp2_with (first | (go_at_call 65 ; refine (IH.out x _ _ _ _ GA.out HMM.out (MemW.alloc GX.out _)).mono ?_; rintro e w2 ⟨rfl, hb⟩; have HB2 := Lib.hid hb; clear hb))
          go_roundw
          case rel => exact ⟨k + 1, depT x, by omega, by go_num, rfl, hd, HM.out.symm.trans HN'.out, Below.toA HB.out HB2.out⟩
          case measure => simp [intOf]; omega
        · have hgi : ¬ (s : Int) < depT x := by omega
          have HM : Hid (max s (depT x) = s) := Lib.hid (by omega)
          clear hmax
          go_wp2_with (first | (go_at_call 65 ; refine (IH.out x _ _ _ _ GA.out HMM.out (MemW.alloc GX.out _)).mono ?_; rintro e w2 ⟨rfl, hb⟩; have HB2 := Lib.hid hb; clear hb))
          go_roundw
          case rel => exact ⟨k + 1, s, by omega, by go_num, rfl, hs, HM.out.symm.trans HN'.out, Below.toA HB.out HB2.out⟩
          case measure => simp [intOf]; omega
      · have HF : Hid (depT t = s + 1) := Lib.hid (by rw [HE.out, HN.out, List.take_of_length_le (by rw [hln.out]; omega)])
        go_wp2
        go_ret
        exact ⟨by rw [HF.out]; rfl, HB.out⟩
end Go.Proofs.Ytppejoccljfblaa

/-
  The reference's Ints: whether two lists of numbers are the same. No condition but how they lie.
-/
namespace Go.Proofs.Ytppejoccljfblaa
open Go.RowKit

set_option maxRecDepth 100000 in
set_option maxHeartbeats 2000000 in
theorem intsEq_any {l m : List Int} {n n' cap cap' : Nat} {a a' : Option Addr} (w : World) (h : MemW w (.s 1 (intRows l)) (.slice a n cap)) (h' : MemW w (.s 1 (intRows m)) (.slice a' n' cap')) :
    Calls Try.prog 61 #[.slice a n cap, .slice a' n' cap'] w fun e w' => e = .returned (.bool (decide (l = m))) ∧ Below w.heap.size w w' := by
  have hl := Mem.len h
  have hl' := Mem.len h'
  rw [intRows_len] at hl hl'
  have HL := Lib.hid hl.1
  have HL' := Lib.hid hl'.1
  have hcap := hl.2.1
  have hmx := hl.2.2
  have hcap' := hl'.2.1
  have hmx' := hl'.2.2
  have H := Lib.hid h
  have H' := Lib.hid h'
  clear hl hl' h h'
  by_cases hnn : n = n'
  · subst hnn
    go_enter Try.func61, Try.ntmps61
    go_wp2
    go_loopw [5, 13] (fun _ i wr => ∃ k : Nat, k ≤ n ∧ i = .int .i64 k ∧ Hid (Below w.heap.size w wr) ∧ Hid (∀ j, j < k → l[j]? = m[j]?)) (fun _ i _ => n - (intOf i).toNat)
    case atStart => exact ⟨0, Nat.zero_le _, rfl, Below.refl _ _, fun j hj => by omega⟩
    case round =>
      obtain ⟨k, hk, rfl, HB, Hn⟩ := hrel
      by_cases hlt : k < n
      · obtain ⟨b, o, x, rfl, _, Hx, hc⟩ := int_at (MemW.keep H.out HB.out) k hlt
        obtain ⟨b', o', y, rfl, _, Hy, hc'⟩ := int_at (MemW.keep H'.out HB.out) k hlt
        by_cases hxy : x = y
        · have e1 : (x != y) = false := by rw [bne_eq_false_iff_eq]; exact hxy
          have HN : Hid (∀ j, j < k + 1 → l[j]? = m[j]?) := fun j hj => by
            rcases Nat.lt_or_ge j k with h2 | h2
            · exact Hn.out j h2
            · obtain rfl : j = k := by omega
              rw [Hx.out, Hy.out, hxy]
          clear hxy
          go_wp2
          go_still_tail 8, (by kernel_rfl)
          change wpList _ _ _ _ _ wr.drew
          go_wp2
          go_roundw
          case rel => exact ⟨k + 1, by omega, by go_num, below_drewN HB.out 1, HN.out⟩
          case measure => simp [intOf]; omega
        · have e1 : (x != y) = true := by rw [bne_iff_ne]; exact hxy
          have HF := Lib.hid (decide_eq_false (p := l = m) (fun e => hxy (by have := Hx.out.symm.trans ((by rw [e] : l[k]? = m[k]?).trans Hy.out); exact Option.some.inj this)))
          clear hxy
          go_wp2
          go_still_tail 8, (by kernel_rfl)
          change wpList _ _ _ _ _ wr.drew
          go_wp2
          go_ret
          exact ⟨ret_bool HF.out.symm, below_drewN HB.out 1⟩
      · have HT := Lib.hid (decide_eq_true (p := l = m) (List.ext_getElem? fun j => by
          rcases Nat.lt_or_ge j k with h2 | h2
          · exact Hn.out j h2
          · rw [List.getElem?_eq_none (by rw [HL.out]; omega), List.getElem?_eq_none (by rw [HL'.out]; omega)]))
        go_wp2
        go_ret
        exact ⟨ret_bool HT.out.symm, HB.out⟩
  · have HF := Lib.hid (decide_eq_false (p := l = m) (fun e => hnn (by rw [← HL.out, ← HL'.out, e])))
    have e1 : ((n : Int) != (n' : Int)) = true := by rw [bne_iff_ne]; omega
    clear hnn
    go_enter Try.func61, Try.ntmps61
    go_wp2
    go_ret
    exact ⟨ret_bool HF.out.symm, Below.refl _ _⟩
end Go.Proofs.Ytppejoccljfblaa
