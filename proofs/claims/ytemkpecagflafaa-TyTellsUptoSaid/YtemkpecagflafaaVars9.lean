/-
  The reference's Vars of a type: its variables, each once, behind others. No condition but how it lies, and how many there are.
-/
import Derived.Test.YtemkpecagflafaaIntRows
import Derived.Test.YtemkpecagflafaaHolds
namespace Go.Proofs.Ytemkpecagflafaa
open Go.RowKit

mutual
/-- The numbers of a type's variables, each once, behind others. -/
def rvT : List Int → Tm → List Int
  | l, .mk k _ n ts => if k = 1 then putI l n else rvTs l ts
def rvTs : List Int → List Tm → List Int
  | l, [] => l
  | l, t :: ts => rvTs (rvT l t) ts
end
theorem rvT_eq (l : List Int) (t : Tm) : rvT l t = if t.kind = 1 then putI l t.n else rvTs l t.args := by cases t; rw [rvT]; rfl
theorem rvTs_snoc (l : List Int) (ts : List Tm) (x : Tm) : rvTs l (ts ++ [x]) = rvT (rvTs l ts) x := by
  induction ts generalizing l with
  | nil => rw [List.nil_append, rvTs, rvTs, rvTs]
  | cons t ts ih => rw [List.cons_append, rvTs, rvTs, ih]
theorem putI_len (l : List Int) (n : Int) : (putI l n).length ≤ l.length + 1 := by unfold putI; split <;> simp
theorem rvTs_len_of (ts : List Tm) (h : ∀ t ∈ ts, ∀ l, (rvT l t).length ≤ l.length + t.size) : ∀ l, (rvTs l ts).length ≤ l.length + (Tm.alls ts).length := by
  induction ts with
  | nil => intro l; rw [rvTs]; omega
  | cons t ts ih =>
    intro l
    rw [rvTs, Tm.alls, List.length_append]
    have h1 := h t (List.mem_cons_self ..) l
    have h2 := ih (fun t ht => h t (List.mem_cons_of_mem _ ht)) (rvT l t)
    have e : t.all.length = t.size := rfl
    omega
theorem rvT_len_of (m : Nat) : ∀ t, t.size ≤ m → ∀ l, (rvT l t).length ≤ l.length + t.size := by
  induction m with
  | zero => intro t h; have := t.size_pos; omega
  | succ m ih =>
    intro t h l
    rw [rvT_eq]
    have hz := t.size_eq
    split
    · have := putI_len l t.n; omega
    · have := rvTs_len_of t.args (fun x hx l => ih x (by have := Tm.size_arg hx; omega) l) l; omega
theorem rvT_len (t : Tm) (l : List Int) : (rvT l t).length ≤ l.length + t.size := rvT_len_of t.size t (Nat.le_refl _) l
theorem rvTs_len (ts : List Tm) (l : List Int) : (rvTs l ts).length ≤ l.length + (Tm.alls ts).length := rvTs_len_of ts (fun t _ l => rvT_len t l) l

/-- What the reference's Vars hands back: a slice of the caller's own, and nothing below is turned. -/
def GivesV (base : Nat) (l : List Int) (w : World) (e : Ending) (w' : World) : Prop :=
  ∃ v, e = .returned v ∧ OwnD 0 base 3 1 w' v (intRows l) ∧ Below base w w'

set_option maxRecDepth 100000 in
set_option maxHeartbeats 2000000 in
theorem vars9_any (m : Nat) : ∀ (t : Tm) (l : List Int) (base n cap : Nat) (a : Option Addr) (v : Value) (w : World), t.size ≤ m → m ≤ 1048576 → l.length + t.size ≤ 2097152 → OwnD 0 base 3 1 w v (intRows l) → Mem (· < base) w (.s 4 (Tm.rows t.args)) (.slice a n cap) → base ≤ w.heap.size →
    Calls Try.prog 61 #[v, .agg #[.int .i64 t.kind, .string t.name, .int .i64 t.n, .slice a n cap]] w (GivesV base (rvT l t) w) := by
  induction m with
  | zero => intro t _ _ _ _ _ _ w h; have := t.size_pos; omega
  | succ m ih =>
    intro t l base n cap a v w hm hmm hll hO ht hB
    have IH := Lib.hid ih
    clear ih
    have hl := ht.len
    rw [Tm.rows_len] at hl
    have hln := Lib.hid hl.1
    have hcap := hl.2.1
    have hmx := hl.2.2
    have HW1 := Lib.hid (below_new w (.cells #[.int .i64 t.kind, .string t.name, .int .i64 t.n, .slice a n cap] 52))
    have HX := Lib.hid (Bo.new w 52 #[.int .i64 t.kind, .string t.name, .int .i64 t.n, .slice a n cap]).c4
    have HO := Lib.hid (hO.alloc (.cells #[.int .i64 t.kind, .string t.name, .int .i64 t.n, .slice a n cap] 52))
    have HT := Lib.hid ht
    have H0 := Lib.hid hB
    obtain ⟨va, vc, rfl, hvc, hvm⟩ := hO.form
    rw [intRows_len] at hvc
    rw [intRows_len] at HO
    simp only [intRows_len]
    have HLL := Lib.hid hll
    by_cases hk : t.kind = 1
    · have e1 : (t.kind == 1) = true := by rw [beq_iff_eq]; exact hk
      have HF := Lib.hid ((rvT_eq l t).trans (if_pos hk))
      clear hO ht hB hm hmm hl hk hll
      obtain ⟨g0, g1, g2, g3⟩ := HX.out
      clear g0 g1 g3
      go_enter Try.func61, Try.ntmps61
      go_wp2
      go_loopw [6, 14] (fun _ i wr => ∃ k : Nat, k ≤ l.length ∧ i = .int .i64 k ∧ w.alloc (.cells #[.int .i64 t.kind, .string t.name, .int .i64 t.n, .slice a n cap] 52) = wr ∧ Hid (∀ j, j < k → l[j]? ≠ some t.n)) (fun _ i _ => l.length - (intOf i).toNat)
      case atStart => exact ⟨0, Nat.zero_le _, rfl, rfl, fun j hj => by omega⟩
      case round =>
        obtain ⟨k, hk, rfl, rfl, Hn⟩ := hrel
        by_cases hlt : k < l.length
        · obtain ⟨b, o, x, rfl, _, Hx, hc⟩ := int_at HO.out.memW k hlt
          by_cases hx : x = t.n
          · have HF2 : Hid (rvT l t = l) := Lib.hid (by rw [HF.out]; unfold putI; rw [if_pos (by rw [← hx]; exact List.mem_of_getElem? Hx.out)])
            have e2 : (x == t.n) = true := by rw [beq_iff_eq]; exact hx
            clear hx
            go_wp2
            go_ret
            rw [HF2.out]
            exact ⟨_, rfl, HO.out, HW1.out.mono H0.out⟩
          · have e2 : (x == t.n) = false := by rw [beq_eq_false_iff_ne]; exact hx
            have HN : Hid (∀ j, j < k + 1 → l[j]? ≠ some t.n) := fun j hj => by
              by_cases e : j = k
              · subst e; rw [Hx.out]; intro e; exact hx (Option.some.inj e)
              · exact Hn.out j (by omega)
            clear hx
            go_wp2
            go_roundw
            case rel => exact ⟨k + 1, by omega, by go_num, by first | rfl | trivial, HN.out⟩
            case measure => simp [intOf]; omega
        · have HF2 : Hid (rvT l t = l ++ [t.n]) := Lib.hid (by
            rw [HF.out]; unfold putI
            rw [if_neg (fun hm => by
              obtain ⟨j, hj, e⟩ := List.getElem_of_mem hm
              exact Hn.out j (by omega) (by rw [List.getElem?_eq_getElem hj, e]))])
          have HBD := Lib.hid (show ((intRows l).length + (intRows [t.n]).length) * 8 ≤ 140737488355328 ∧ (intRows l).length + (intRows [t.n]).length ≤ 4611686018427387904 by have := HLL.out; rw [intRows_len, intRows_len, List.length_cons, List.length_nil]; omega)
          have hbase1 := H0.out
          go_wp2_with (first
            | (at_builtin
               refine wpList_append_D rfl _ _ rfl Try.underlying22 info_int3 rfl (by decide) rfl rfl (HO.out.alloc _) (own_int t.n _ (World.size_alloc _ _).symm HO.out (by rw [World.size_alloc]; omega)) HBD.out.1 HBD.out.2 (by rw [World.size_alloc, World.size_alloc]; omega) ?_
               intro v' w7 ho hg
               have HO7 := Lib.hid ho
               have HG7 := Lib.hid hg
               clear ho hg))
          rw [← intRows_app] at HO7
          go_ret
          rw [HF2.out]
          exact ⟨_, rfl, HO7.out, grown_below (((Below.refl base w).alloc H0.out _).alloc (by rw [World.size_alloc]; have := H0.out; omega) _) HG7.out H0.out (fun b hb => (HO.out.lt b hb).1)⟩
    · have e1 : (t.kind == 1) = false := by rw [beq_eq_false_iff_ne]; exact hk
      have HF := Lib.hid ((rvT_eq l t).trans (if_neg hk))
      have HA := Lib.hid (show ∀ x ∈ t.args, x.size ≤ m from fun x hx => by have := Tm.size_arg hx; omega)
      have HMM := Lib.hid (show m ≤ 1048576 by omega)
      have HTZ := Lib.hid t.size_eq
      clear hO ht hB hm hmm hl hk hll
      obtain ⟨g0, g1, g2, g3⟩ := HX.out
      clear g0 g1 g2
      go_enter Try.func61, Try.ntmps61
      go_wp2
      go_loopw [0, 32] (fun v i wr => ∃ k : Nat, k ≤ n ∧ i = .int .i64 k ∧ Hid (Below base w wr) ∧ Hid (OwnD 0 base 3 1 wr v (intRows (rvTs l (t.args.take k))))) (fun _ i _ => n - (intOf i).toNat)
      case atStart => exact ⟨0, Nat.zero_le _, rfl, HW1.out.mono H0.out, by rw [List.take_zero, rvTs]; exact HO.out⟩
      case round =>
        obtain ⟨k, hk, rfl, HB, HO1⟩ := hrel
        by_cases hlt : k < n
        · obtain ⟨b, o, x, ax, nx, capx, rfl, hbB, Hx, x0, x1, x2, x3, GX⟩ := tm_at (HT.out.keep (Nat.le_refl _) HB.out) k hlt
          have GA := Lib.hid (HA.out x (mem_of_at Hx.out))
          have HN := Lib.hid (show rvTs l (t.args.take (k + 1)) = rvT (rvTs l (t.args.take k)) x by rw [take_at Hx.out, rvTs_snoc])
          have HLK := Lib.hid (show (rvTs l (t.args.take k)).length + x.size ≤ 2097152 by
            have h1 := rvTs_len (t.args.take k) l
            have h2 := Tm.alls_le (ts := t.args) (k + 1)
            rw [Tm.alls_at Hx.out, List.length_append] at h2
            have e : x.all.length = x.size := rfl
            have h3 := HLL.out
            have h4 := HTZ.out
            omega)
          have hz0 := HB.out.size
          have hz1 := H0.out
          go_wp2_with (first
            | (go_at_call 61
               refine (IH.out x _ base _ _ _ _ _ GA.out HMM.out HLK.out (HO1.out.alloc _) (GX.out.keep (Nat.le_refl _) ((below_new wr _).mono (by omega))) (by rw [World.size_alloc]; omega)).mono ?_
               rintro e w2 ⟨v2, rfl, ho, hb⟩
               have HO2 := Lib.hid ho
               have HB2 := Lib.hid hb
               clear ho hb))
          go_roundw
          case rel => exact ⟨k + 1, by omega, by go_num, (HB.out.alloc (by omega) _).trans HB2.out, by rw [HN.out]; exact HO2.out⟩
          case measure => simp [intOf]; omega
        · have HT2 : Hid (t.args.take k = t.args) := Lib.hid (List.take_of_length_le (by rw [hln.out]; omega))
          have HO2 : Hid (OwnD 0 base 3 1 wr _ (intRows (rvT l t))) := Lib.hid (by have := HO1.out; rw [HT2.out, ← HF.out] at this; exact this)
          go_wp2
          go_ret
          exact ⟨_, rfl, HO2.out, HB.out⟩
/-- Out of no list. -/
theorem vars9 {t : Tm} {n cap : Nat} {a : Option Addr} {w : World} (hs : t.size ≤ 1048576) (h : MemW w (.s 4 (Tm.rows t.args)) (.slice a n cap)) :
    Calls Try.prog 61 #[.slice none 0 0, .agg #[.int .i64 t.kind, .string t.name, .int .i64 t.n, .slice a n cap]] w (GivesV w.heap.size (rvT [] t) w) :=
  vars9_any 1048576 t [] w.heap.size n cap a (.slice none 0 0) w hs (Nat.le_refl _) (by simp; omega) (OwnD.nil _ _ _ _ _) h (Nat.le_refl _)
end Go.Proofs.Ytemkpecagflafaa
