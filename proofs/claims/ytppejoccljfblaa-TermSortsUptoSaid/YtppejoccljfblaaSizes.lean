/-
  How great and how deep a term is. No condition but how it lies, and how great it is.
-/
import Derived.Test.YtppejoccljfblaaTm
import Derived.StillTailTactics
namespace Go.Proofs.Ytppejoccljfblaa
open Go.RowKit

mutual
def depT : Tm → Nat
  | .mk _ _ _ ts => depTs ts + 1
def depTs : List Tm → Nat
  | [] => 0
  | t :: ts => max (depT t) (depTs ts)
end
theorem depT_eq (t : Tm) : depT t = depTs t.args + 1 := by cases t; rw [depT]; rfl
theorem depTs_snoc (l : List Tm) (x : Tm) : depTs (l ++ [x]) = max (depTs l) (depT x) := by
  induction l with
  | nil => simp only [List.nil_append, depTs]; omega
  | cons t l ih => rw [List.cons_append, depTs, ih, depTs]; omega
theorem depTs_le (l : List Tm) (h : ∀ x ∈ l, depT x ≤ x.size) : depTs l ≤ (Tm.alls l).length := by
  induction l with
  | nil => rw [depTs]; omega
  | cons t l ih =>
    have h1 := h t (List.mem_cons_self ..)
    have h2 := ih fun x hx => h x (List.mem_cons_of_mem _ hx)
    have e : t.all.length = t.size := rfl
    rw [depTs, Tm.alls, List.length_append]; omega
theorem depT_size (m : Nat) : ∀ t, t.size ≤ m → depT t ≤ t.size := by
  induction m with
  | zero => intro t h; have := t.size_pos; omega
  | succ m ih =>
    intro t h
    rw [depT_eq, Tm.size_eq]
    have := depTs_le t.args fun x hx => ih x (by have := Tm.size_arg hx; omega)
    omega
theorem depT_le (t : Tm) : depT t ≤ t.size := depT_size t.size t (Nat.le_refl _)

set_option maxRecDepth 100000 in
set_option maxHeartbeats 2000000 in
theorem size_any (m : Nat) : ∀ (t : Tm) (n cap : Nat) (a : Option Addr) (w : World), t.size ≤ m → m ≤ 1048576 → MemW w (.s 4 (Tm.rows t.args)) (.slice a n cap) →
    Calls Try.prog 64 #[.agg #[.int .i64 t.kind, .string t.name, .int .i64 t.n, .slice a n cap]] w fun e w' => e = .returned (.int .i64 t.size) ∧ Below w.heap.size w w' := by
  induction m with
  | zero => intro t _ _ _ w h; have := t.size_pos; omega
  | succ m ih =>
    intro t n cap a w hm hmm h
    have IH := Lib.hid ih
    clear ih
    have hl := Tms.len h
    have hln := Lib.hid hl.1
    have hcap := hl.2.1
    have hmx := hl.2.2
    have HA := Lib.hid (show ∀ x ∈ t.args, x.size ≤ m from fun x hx => by have := Tm.size_arg hx; omega)
    have HS := Lib.hid (show ∀ k, 1 + (Tm.alls (t.args.take k)).length ≤ 1048576 from fun k => by have := Tm.alls_le (ts := t.args) k; have := t.size_eq; omega)
    have HE := Lib.hid t.size_eq
    have HMM := Lib.hid (show m ≤ 1048576 by omega)
    have H := Lib.hid h
    clear hm hmm hl h
    go_enter Try.func64, Try.ntmps64
    go_wp2
    go_loopw [3, 9] (fun v i wr => ∃ (k s : Nat), k ≤ n ∧ i = .int .i64 k ∧ v = .int .i64 s ∧ Hid (s = 1 + (Tm.alls (t.args.take k)).length) ∧ Hid (Below w.heap.size w wr)) (fun _ i _ => n - (intOf i).toNat)
    case atStart => exact ⟨0, 1, Nat.zero_le _, rfl, rfl, by show 1 = _; rw [List.take_zero, Tm.alls]; rfl, below_new _ _⟩
    case round =>
      obtain ⟨k, s, hk, rfl, rfl, HN, HB⟩ := hrel
      by_cases hlt : k < n
      · obtain ⟨b, o, x, ax, nx, capx, rfl, hbB, Hx, x0, x1, x2, x3, GX⟩ := (Tms.keep H.out HB.out).at k hlt
        have GA := Lib.hid (HA.out x (mem_of_at Hx.out))
        have HN' : Hid (s + x.size = 1 + (Tm.alls (t.args.take (k + 1))).length) := Lib.hid (by rw [Tm.alls_at Hx.out, List.length_append, HN.out, Nat.add_assoc]; rfl)
        have hs : s + x.size ≤ 1048576 := by rw [HN'.out]; exact HS.out _
        have hs1 : (s : Int) + x.size ≤ 1048576 := by omega
        go_wp2_with (first | (go_at_call 64 ; refine (IH.out x _ _ _ _ GA.out HMM.out (MemW.alloc GX.out _)).mono ?_; rintro e w2 ⟨rfl, hb⟩; have HB2 := Lib.hid hb; clear hb))
        go_roundw
        case rel => exact ⟨k + 1, s + x.size, by omega, by go_num, by go_num, HN'.out, Below.toA HB.out HB2.out⟩
        case measure => simp [intOf]; omega
      · have HF : Hid (s = t.size) := Lib.hid (by
          have h1 := HN.out
          rw [List.take_of_length_le (by rw [hln.out]; omega), ← HE.out] at h1; exact h1)
        go_wp2
        go_ret
        exact ⟨by rw [HF.out]; rfl, HB.out⟩

set_option maxRecDepth 100000 in
set_option maxHeartbeats 2000000 in
theorem depth_any (m : Nat) : ∀ (t : Tm) (n cap : Nat) (a : Option Addr) (w : World), t.size ≤ m → m ≤ 1048576 → MemW w (.s 4 (Tm.rows t.args)) (.slice a n cap) →
    Calls Try.prog 65 #[.agg #[.int .i64 t.kind, .string t.name, .int .i64 t.n, .slice a n cap]] w fun e w' => e = .returned (.int .i64 (depT t)) ∧ Below w.heap.size w w' := by
  induction m with
  | zero => intro t _ _ _ w h; have := t.size_pos; omega
  | succ m ih =>
    intro t n cap a w hm hmm h
    have IH := Lib.hid ih
    clear ih
    have hl := Tms.len h
    have hln := Lib.hid hl.1
    have hcap := hl.2.1
    have hmx := hl.2.2
    have HA := Lib.hid (show ∀ x ∈ t.args, x.size ≤ m from fun x hx => by have := Tm.size_arg hx; omega)
    have HE := Lib.hid (depT_eq t)
    have HMM := Lib.hid (show m ≤ 1048576 by omega)
    have H := Lib.hid h
    clear hm hmm hl h
    go_enter Try.func65, Try.ntmps65
    go_wp2
    go_loopw [3, 9] (fun v i wr => ∃ (k s : Nat), k ≤ n ∧ i = .int .i64 k ∧ v = .int .i64 s ∧ s ≤ 1048576 ∧ Hid (s = depTs (t.args.take k)) ∧ Hid (Below w.heap.size w wr)) (fun _ i _ => n - (intOf i).toNat)
    case atStart => exact ⟨0, 0, Nat.zero_le _, rfl, rfl, by omega, by show 0 = _; rw [List.take_zero, depTs], below_new _ _⟩
    case round =>
      obtain ⟨k, s, hk, rfl, rfl, hs, HN, HB⟩ := hrel
      by_cases hlt : k < n
      · obtain ⟨b, o, x, ax, nx, capx, rfl, hbB, Hx, x0, x1, x2, x3, GX⟩ := (Tms.keep H.out HB.out).at k hlt
        have GA := Lib.hid (HA.out x (mem_of_at Hx.out))
        have hd : depT x ≤ 1048576 := by have := depT_le x; have := GA.out; have := HMM.out; omega
        have HN' : Hid (max s (depT x) = depTs (t.args.take (k + 1))) := Lib.hid (by rw [take_at Hx.out, depTs_snoc, HN.out])
        have hmax : (if (depT x : Int) > (s : Int) then (depT x : Int) else (s : Int)) = ((max s (depT x) : Nat) : Int) := by split <;> omega
        by_cases hgt : s < depT x
        · have hgi : (s : Int) < depT x := by omega
          have HM : Hid (max s (depT x) = depT x) := Lib.hid (by omega)
          clear hmax
          go_wp2_with (first | (go_at_call 65 ; refine (IH.out x _ _ _ _ GA.out HMM.out (MemW.alloc GX.out _)).mono ?_; rintro e w2 ⟨rfl, hb⟩; have HB2 := Lib.hid hb; clear hb))
          go_roundw
          case rel => exact ⟨k + 1, depT x, by omega, by go_num, rfl, hd, HM.out.symm.trans HN'.out, Below.toA HB.out HB2.out⟩
          case measure => simp [intOf]; omega
        · have hgi : ¬ (s : Int) < depT x := by omega
          have HM : Hid (max s (depT x) = s) := Lib.hid (by omega)
          clear hmax
          go_wp2_with (first | (go_at_call 65 ; refine (IH.out x _ _ _ _ GA.out HMM.out (MemW.alloc GX.out _)).mono ?_; rintro e w2 ⟨rfl, hb⟩; have HB2 := Lib.hid hb; clear hb))
          go_roundw
          case rel => exact ⟨k + 1, s, by omega, by go_num, rfl, hs, HM.out.symm.trans HN'.out, Below.toA HB.out HB2.out⟩
          case measure => simp [intOf]; omega
      · have HF : Hid (depT t = s + 1) := Lib.hid (by rw [HE.out, HN.out, List.take_of_length_le (by rw [hln.out]; omega)])
        go_wp2
        go_ret
        exact ⟨by rw [HF.out]; rfl, HB.out⟩
end Go.Proofs.Ytppejoccljfblaa
