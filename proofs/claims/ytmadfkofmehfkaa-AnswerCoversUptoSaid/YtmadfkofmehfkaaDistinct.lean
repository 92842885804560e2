/-
  answer.Distinct. No condition but how the answers lie, and how great they are.
-/
import Derived.Test.YtmadfkofmehfkaaAnsI
import Derived.Test.YtmadfkofmehfkaaAnsF
namespace Go.Proofs.Ytmadfkofmehfkaa
open Go.RowKit Go.Maps

theorem info_ans : (Try.prog.info? 48).map (fun i => (i.zero, i.size, i.bytes)) = some (some (.agg #[.slice none 0 0, .int .i64 0, .string .empty, .int .i64 0, .slice none 0 0]), 5, 80) := by kernel_rfl
/-- One answer, written down to be appended. -/
theorem own_ans {B base : Nat} {e e' : TypeId} {w : World} {y : Value} {rs : List (List At)} {x : Ans} {pb px : Option Addr} {npb cpb npx cpx : Nat} (h : OwnD B base e 5 w y rs) (hB : B ≤ base) (hs : base ≤ w.heap.size) (hx : Mem (· < B) w (.s 4 (Tm.rows x.binds)) (.slice pb npb cpb)) (hv : Mem (· < B) w (.s 4 (Tm.rows x.value.args)) (.slice px npx cpx)) :
    Mem (fun b => Nw B base (w.alloc (.cells #[.slice pb npb cpb, .int .i64 x.value.kind, .string x.value.name, .int .i64 x.value.n, .slice px npx cpx] e')).heap.size b ∧ y.ownBlock ≠ some b) (w.alloc (.cells #[.slice pb npb cpb, .int .i64 x.value.kind, .string x.value.name, .int .i64 x.value.n, .slice px npx cpx] e')) (.s 5 (ansRows [x])) (.slice (some ⟨w.heap.size, 0, none⟩) 1 1) := by
  have e1 : ansRows [x] = [x.row] := rfl
  rw [e1]
  refine own_row rfl h hs ?_
  unfold Ans.row
  rw [Tm.row_eq]
  exact .cons (h.old hB hs hx) (.cons (.v _ rfl) (.cons (.v _ rfl) (.cons (.v _ rfl) (.cons (h.old hB hs hv) .nil))))
def stepD (d : List Ans) (x : Ans) : List Ans := if d.any (fun y => sameA x y) then d else d ++ [x]
/-- Each once: as they come, less those that are the same as one ahead. -/
def distA (l : List Ans) : List Ans := l.foldl stepD []
theorem distA_at {l : List Ans} {k : Nat} {x : Ans} (h : l[k]? = some x) : distA (l.take (k + 1)) = stepD (distA (l.take k)) x := by
  rw [take_at h, distA, List.foldl_append]; rfl
theorem stepD_mem {d : List Ans} {x y : Ans} (h : y ∈ stepD d x) : y ∈ d ∨ y = x := by
  unfold stepD at h
  split at h
  · exact .inl h
  · simpa using h
theorem foldD_mem (l : List Ans) : ∀ (d : List Ans) (y : Ans), y ∈ l.foldl stepD d → y ∈ d ∨ y ∈ l := by
  induction l with
  | nil => intro d y h; exact .inl h
  | cons x l ih =>
    intro d y h
    rcases ih _ _ h with h | h
    · rcases stepD_mem h with h | h
      · exact .inl h
      · exact .inr (by rw [h]; exact List.mem_cons_self ..)
    · exact .inr (List.mem_cons_of_mem _ h)
theorem distA_mem {l : List Ans} {y : Ans} (h : y ∈ distA l) : y ∈ l := by
  rcases foldD_mem l [] y h with h | h
  · cases h
  · exact h
theorem stepD_len (d : List Ans) (x : Ans) : (stepD d x).length ≤ d.length + 1 := by
  unfold stepD
  split
  · omega
  · simp
theorem foldD_len (l : List Ans) : ∀ d : List Ans, (l.foldl stepD d).length ≤ d.length + l.length := by
  induction l with
  | nil => intro d; simp
  | cons x l ih =>
    intro d
    have h1 := ih (stepD d x)
    have h2 := stepD_len d x
    simp only [List.foldl_cons, List.length_cons]
    omega
theorem distA_len (l : List Ans) : (distA l).length ≤ l.length := by have := foldD_len l []; simpa [distA] using this

set_option maxRecDepth 100000 in
set_option maxHeartbeats 20000000 in
theorem dist1_any {x y : Ans} {qn : Nat} {pb px qb qx : Option Addr} {npb cpb npx cpx nqb cqb nqx cqx : Nat} (w : World) (hq : Bo w qn 48 #[.slice pb npb cpb, .int .i64 x.value.kind, .string x.value.name, .int .i64 x.value.n, .slice px npx cpx]) (hx : AnsW w x pb npb cpb px npx cpx) (hy : AnsW w y qb nqb cqb qx nqx cqx) (hxf : x.fit) (hyf : y.fit) :
    Calls Try.prog 49 #[.agg #[.slice qb nqb cqb, .int .i64 y.value.kind, .string y.value.name, .int .i64 y.value.n, .slice qx nqx cqx], .pointer (some ⟨qn, 0, none⟩)] w fun e w' => e = .returned (.bool (sameA x y)) ∧ Below w.heap.size w w' := by
  have HB := Lib.hid (below_new w (.cells #[.slice qb nqb cqb, .int .i64 y.value.kind, .string y.value.name, .int .i64 y.value.n, .slice qx nqx cqx] 48))
  have HX := Lib.hid (hq.alloc (.cells #[.slice qb nqb cqb, .int .i64 y.value.kind, .string y.value.name, .int .i64 y.value.n, .slice qx nqx cqx] 48))
  have HY := Lib.hid (Bo.new w 48 #[.slice qb nqb cqb, .int .i64 y.value.kind, .string y.value.name, .int .i64 y.value.n, .slice qx nqx cqx])
  have HC := Lib.hid (sameA_any (w.alloc (.cells #[.slice qb nqb cqb, .int .i64 y.value.kind, .string y.value.name, .int .i64 y.value.n, .slice qx nqx cqx] 48)) (hx.keep HB.out) (hy.keep HB.out) hxf hyf)
  have x0 : (w.alloc (.cells #[.slice qb nqb cqb, .int .i64 y.value.kind, .string y.value.name, .int .i64 y.value.n, .slice qx nqx cqx] 48)).cell? ⟨qn, 0, none⟩ = some (.slice pb npb cpb) := HX.out.cell (j := 0) rfl
  have x1 : (w.alloc (.cells #[.slice qb nqb cqb, .int .i64 y.value.kind, .string y.value.name, .int .i64 y.value.n, .slice qx nqx cqx] 48)).cell? ⟨qn, 1, none⟩ = some (.int .i64 x.value.kind) := HX.out.cell (j := 1) rfl
  have x2 : (w.alloc (.cells #[.slice qb nqb cqb, .int .i64 y.value.kind, .string y.value.name, .int .i64 y.value.n, .slice qx nqx cqx] 48)).cell? ⟨qn, 2, none⟩ = some (.string x.value.name) := HX.out.cell (j := 2) rfl
  have x3 : (w.alloc (.cells #[.slice qb nqb cqb, .int .i64 y.value.kind, .string y.value.name, .int .i64 y.value.n, .slice qx nqx cqx] 48)).cell? ⟨qn, 3, none⟩ = some (.int .i64 x.value.n) := HX.out.cell (j := 3) rfl
  have x4 : (w.alloc (.cells #[.slice qb nqb cqb, .int .i64 y.value.kind, .string y.value.name, .int .i64 y.value.n, .slice qx nqx cqx] 48)).cell? ⟨qn, 4, none⟩ = some (.slice px npx cpx) := HX.out.cell (j := 4) rfl
  have y0 : (w.alloc (.cells #[.slice qb nqb cqb, .int .i64 y.value.kind, .string y.value.name, .int .i64 y.value.n, .slice qx nqx cqx] 48)).cell? ⟨w.heap.size, 0, none⟩ = some (.slice qb nqb cqb) := HY.out.cell (j := 0) rfl
  have y1 : (w.alloc (.cells #[.slice qb nqb cqb, .int .i64 y.value.kind, .string y.value.name, .int .i64 y.value.n, .slice qx nqx cqx] 48)).cell? ⟨w.heap.size, 1, none⟩ = some (.int .i64 y.value.kind) := HY.out.cell (j := 1) rfl
  have y2 : (w.alloc (.cells #[.slice qb nqb cqb, .int .i64 y.value.kind, .string y.value.name, .int .i64 y.value.n, .slice qx nqx cqx] 48)).cell? ⟨w.heap.size, 2, none⟩ = some (.string y.value.name) := HY.out.cell (j := 2) rfl
  have y3 : (w.alloc (.cells #[.slice qb nqb cqb, .int .i64 y.value.kind, .string y.value.name, .int .i64 y.value.n, .slice qx nqx cqx] 48)).cell? ⟨w.heap.size, 3, none⟩ = some (.int .i64 y.value.n) := HY.out.cell (j := 3) rfl
  have y4 : (w.alloc (.cells #[.slice qb nqb cqb, .int .i64 y.value.kind, .string y.value.name, .int .i64 y.value.n, .slice qx nqx cqx] 48)).cell? ⟨w.heap.size, 4, none⟩ = some (.slice qx nqx cqx) := HY.out.cell (j := 4) rfl
  have hl := hq.lt
  clear hq hx hy hxf hyf
  go_enter Try.func49, Try.ntmps49
  go_wp2_with fail
  refine HC.out.mono ?_
  rintro e w4 ⟨rfl, hb⟩
  have HB4 := Lib.hid (HB.out.trans (hb.mono HB.out.size))
  clear hb
  generalize hr : sameA x y = r at *
  have HR := Lib.hid hr
  clear hr
  go_wp2_with fail
  go_ret
  exact ⟨by rw [HR.out]; rfl, HB4.out⟩
theorem entersD : EntersF 49 := fun _ _ => by kernel_rfl
set_option maxRecDepth 100000 in
set_option maxHeartbeats 20000000 in
theorem distinct_any {l : List Ans} {n cap : Nat} {a : Option Addr} (w : World) (h : MemW w (.s 5 (ansRows l)) (.slice a n cap)) (hf : ∀ y ∈ l, y.fit) (hn : n ≤ 100000) :
    Calls Try.prog 21 #[.slice a n cap] w fun e w' => ∃ a' n' c', e = .returned (.slice a' n' c') ∧ Below w.heap.size w w' ∧ MemW w' (.s 5 (ansRows (distA l))) (.slice a' n' c') := by
  have hl := ans_len h
  have HL := Lib.hid hl.1
  have hcap := hl.2.1
  have hmx := hl.2.2
  have H := Lib.hid h
  have HF := Lib.hid hf
  have HN := Lib.hid hn
  clear hl h hf hn
  go_enter Try.func21, Try.ntmps21
  go_wp2
  go_loopw [3, 8] (fun v i wr => ∃ k : Nat, k ≤ n ∧ i = .int .i64 k ∧ Hid (Below w.heap.size w wr) ∧ Hid (OwnD w.heap.size w.heap.size 48 5 wr v (ansRows (distA (l.take k))))) (fun _ i _ => n - (intOf i).toNat)
  case atStart => exact ⟨0, Nat.zero_le _, rfl, Lib.hid (Below.refl _ _), Lib.hid (OwnD.nil _ _ _ _ _)⟩
  case round =>
    obtain ⟨k, hk, rfl, HB, HO⟩ := hrel
    obtain ⟨av, cv, rfl, _, _⟩ := HO.out.form
    by_cases hlt : k < n
    · have hltz : (k : Int) < (n : Int) := by omega
      obtain ⟨b, o, x, pb, npb, cpb, px, npx, cpx, rfl, hbB, Hx, x0, x1, x2, x3, x4, GB, GV⟩ := ans_at (Mem.keep H.out (Nat.le_refl _) HB.out) k hlt
      have hs0 : w.heap.size ≤ wr.heap.size := HB.out.size
      have HXF := Lib.hid (HF.out x (mem_of_at Hx.out))
      have HD1 := Lib.hid (distA_at Hx.out)
      have HDL : Hid ((distA (l.take k)).length ≤ 100000) := Lib.hid (by
        have h1 := distA_len (l.take k)
        rw [List.length_take] at h1
        have := HN.out
        omega)
      have HDF : Hid (∀ y ∈ distA (l.take k), y.fit) := Lib.hid fun y hy => HF.out y (List.mem_of_mem_take (distA_mem hy))
      have HBA := Lib.hid (HB.out.alloc HB.out.size (.cells #[.slice pb npb cpb, .int .i64 x.value.kind, .string x.value.name, .int .i64 x.value.n, .slice px npx cpx] 48))
      have HOA := Lib.hid (HO.out.alloc (.cells #[.slice pb npb cpb, .int .i64 x.value.kind, .string x.value.name, .int .i64 x.value.n, .slice px npx cpx] 48))
      have HBX := Lib.hid (Bo.new wr 48 #[.slice pb npb cpb, .int .i64 x.value.kind, .string x.value.name, .int .i64 x.value.n, .slice px npx cpx])
      have HXW : Hid (AnsW wr x pb npb cpb px npx cpx) := Lib.hid ⟨GB.out.le hs0, GV.out.le hs0⟩
      have HXA := Lib.hid (HXW.out.keep (below_new wr (.cells #[.slice pb npb cpb, .int .i64 x.value.kind, .string x.value.name, .int .i64 x.value.n, .slice px npx cpx] 48)))
      have HC := Lib.hid (containsA_any (l := distA (l.take k)) (p := fun y => sameA x y) (w := wr.alloc (.cells #[.slice pb npb cpb, .int .i64 x.value.kind, .string x.value.name, .int .i64 x.value.n, .slice px npx cpx] 48)) (c := .pointer (some ⟨wr.heap.size, 0, none⟩)) entersD (fun w' hb y hy qb nqb cqb qx nqx cqx hyw => dist1_any w' (HBX.out.keep hb) (HXA.out.keep hb) hyw HXF.out (HDF.out y hy)) HOA.out.memW)
      clear HXA
      cases hr : (distA (l.take k)).any (fun y => sameA x y) with
      | true =>
        rw [hr] at HC
        have HS : Hid (distA (l.take (k + 1)) = distA (l.take k)) := Lib.hid (by rw [HD1.out, stepD, hr]; rfl)
        clear hr
        generalize (ansRows (distA (l.take k))).length = rl at *
        go_wp2_with fail
        refine HC.out.mono ?_
        rintro e w4 ⟨rfl, hb⟩
        have HB4 := Lib.hid (HBA.out.trans (hb.mono HBA.out.size))
        have HO4 := Lib.hid (HOA.out.keep hb)
        clear hb
        go_wp2_with fail
        go_roundw
        case rel => exact ⟨k + 1, by omega, by go_num, HB4, Lib.hid (by rw [HS.out]; exact HO4.out)⟩
        case measure => simp [intOf]; omega
      | false =>
        rw [hr] at HC
        have HS : Hid (ansRows (distA (l.take (k + 1))) = ansRows (distA (l.take k)) ++ ansRows [x]) := Lib.hid (by rw [HD1.out, stepD, hr, if_neg (by simp), ansRows, List.map_append]; rfl)
        clear hr
        generalize (ansRows (distA (l.take k))).length = rl at *
        go_wp2_with fail
        refine HC.out.mono ?_
        rintro e w4 ⟨rfl, hb⟩
        have HB4 := Lib.hid (HBA.out.trans (hb.mono HBA.out.size))
        have HO4 := Lib.hid (HOA.out.keep hb)
        have HBX4 := Lib.hid (HBX.out.keep hb)
        have z0 : w4.cell? ⟨wr.heap.size, 0, none⟩ = some (.slice pb npb cpb) := HBX4.out.cell (j := 0) rfl
        have z1 : w4.cell? ⟨wr.heap.size, 1, none⟩ = some (.int .i64 x.value.kind) := HBX4.out.cell (j := 1) rfl
        have z2 : w4.cell? ⟨wr.heap.size, 2, none⟩ = some (.string x.value.name) := HBX4.out.cell (j := 2) rfl
        have z3 : w4.cell? ⟨wr.heap.size, 3, none⟩ = some (.int .i64 x.value.n) := HBX4.out.cell (j := 3) rfl
        have z4 : w4.cell? ⟨wr.heap.size, 4, none⟩ = some (.slice px npx cpx) := HBX4.out.cell (j := 4) rfl
        have HW4 : Hid (w.heap.size ≤ w4.heap.size) := Lib.hid HB4.out.size
        have HB05 := Lib.hid ((below_new wr (.cells #[.slice pb npb cpb, .int .i64 x.value.kind, .string x.value.name, .int .i64 x.value.n, .slice px npx cpx] 48)).trans (hb.mono (below_new wr (.cells #[.slice pb npb cpb, .int .i64 x.value.kind, .string x.value.name, .int .i64 x.value.n, .slice px npx cpx] 48)).size))
        have HOX := Lib.hid (own_ans (e' := 48) (x := x) HO4.out (Nat.le_refl _) HW4.out (Mem.keep GB.out (Nat.le_refl _) (HB05.out.mono hs0)) (Mem.keep GV.out (Nat.le_refl _) (HB05.out.mono hs0)))
        have HBB := Lib.hid (HB4.out.alloc HB4.out.size (.cells #[.slice pb npb cpb, .int .i64 x.value.kind, .string x.value.name, .int .i64 x.value.n, .slice px npx cpx] 48))
        clear hb x0 x1 x2 x3 x4
        go_wp2_with (first
          | (at_builtin
             refine wpList_append_D2 rfl _ _ rfl Try.underlying41 info_ans rfl (by decide) rfl rfl (HO4.out.alloc (.cells #[.slice pb npb cpb, .int .i64 x.value.kind, .string x.value.name, .int .i64 x.value.n, .slice px npx cpx] 48)) HOX.out (by have := HDL.out; simp only [ansRows_len, List.length_cons, List.length_nil] at *; omega) (by have := HDL.out; simp only [ansRows_len, List.length_cons, List.length_nil] at *; omega) (by rw [World.size_alloc]; exact Nat.le_succ_of_le HW4.out) ?_
             intro v' w6 ho hg _
             have HO6 := Lib.hid ho
             have HB6 := Lib.hid (grown_below HBB.out hg (Nat.le_refl _) (fun k hk => (HO4.out.lt k hk).1))
             rw [← HS.out] at HO6
             clear ho hg))
        go_roundw
        case rel => exact ⟨k + 1, by omega, by go_num, HB6, HO6⟩
        case measure => simp [intOf]; omega
    · obtain rfl : k = n := by omega
      have hltz : ¬ (k : Int) < (k : Int) := by omega
      have HD := Lib.hid (show distA (l.take k) = distA l by rw [List.take_of_length_le (by rw [HL.out]; exact Nat.le_refl _)])
      go_wp2_with fail
      go_ret
      exact ⟨av, _, cv, rfl, HB.out, by have := HO.out.memW; rw [HD.out] at this ⊢; exact this⟩
end Go.Proofs.Ytmadfkofmehfkaa
