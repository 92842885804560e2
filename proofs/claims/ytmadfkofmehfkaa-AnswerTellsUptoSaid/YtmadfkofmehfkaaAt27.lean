/-
  answer.Distinct. No condition but how the answers lie, and how great they are.
-/
import Derived.Test.YtmadfkofmehfkaaAt26
import Derived.Test.YtmadfkofmehfkaaAt25
import Derived.Deep.OwnRows
import Derived.Lib.LazyBuf
import Derived.Laws.IdiomCopy
import Derived.ArgAppend
import Derived.Deep.RegionHeld3
namespace Go.Proofs.Ytmadfkofmehfkaa
open Go.RowKit Go.Maps

theorem info_ans : (Try.prog.info? 48).map (fun i => (i.zero, i.size, i.bytes)) = some (some (.agg #[.slice none 0 0, .int .i64 0, .string .empty, .int .i64 0, .slice none 0 0]), 5, 80) := by kernel_rfl
/-- One answer, written down to be appended. -/
theorem own_ans {B base : Nat} {e e' : TypeId} {w : World} {y : Value} {rs : List (List At)} {x : Ans} {pb px : Option Addr} {npb cpb npx cpx : Nat} (h : OwnD B base e 5 w y rs) (hB : B ≤ base) (hs : base ≤ w.heap.size) (hx : Mem (· < B) w (.s 4 (Tm.rows x.binds)) (.slice pb npb cpb)) (hv : Mem (· < B) w (.s 4 (Tm.rows x.value.args)) (.slice px npx cpx)) :
    Mem (fun b => Nw B base (w.alloc (.cells #[.slice pb npb cpb, .int .i64 x.value.kind, .string x.value.name, .int .i64 x.value.n, .slice px npx cpx] e')).heap.size b ∧ y.ownBlock ≠ some b) (w.alloc (.cells #[.slice pb npb cpb, .int .i64 x.value.kind, .string x.value.name, .int .i64 x.value.n, .slice px npx cpx] e')) (.s 5 (ansRows [x])) (.slice (some ⟨w.heap.size, 0, none⟩) 1 1) := by
  have e1 : ansRows [x] = [x.row] := rfl
  rw [e1]
  refine own_row rfl h hs ?_
  unfold Ans.row
  rw [Tm.row_eq]
  exact .cons (h.old hB hs hx) (.cons (.v _ rfl) (.cons (.v _ rfl) (.cons (.v _ rfl) (.cons (h.old hB hs hv) .nil))))
def stepD (d : List Ans) (x : Ans) : List Ans := if d.any (fun y => sameA x y) then d else d ++ [x]
/-- Each once: as they come, less those that are the same as one ahead. -/
def distA (l : List Ans) : List Ans := l.foldl stepD []
theorem distA_at {l : List Ans} {k : Nat} {x : Ans} (h : l[k]? = some x) : distA (l.take (k + 1)) = stepD (distA (l.take k)) x := by
  rw [take_at h, distA, List.foldl_append]; rfl
theorem stepD_mem {d : List Ans} {x y : Ans} (h : y ∈ stepD d x) : y ∈ d ∨ y = x := by
  unfold stepD at h
  split at h
  · exact .inl h
  · simpa using h
theorem foldD_mem (l : List Ans) : ∀ (d : List Ans) (y : Ans), y ∈ l.foldl stepD d → y ∈ d ∨ y ∈ l := by
  induction l with
  | nil => intro d y h; exact .inl h
  | cons x l ih =>
    intro d y h
    rcases ih _ _ h with h | h
    · rcases stepD_mem h with h | h
      · exact .inl h
      · exact .inr (by rw [h]; exact List.mem_cons_self ..)
    · exact .inr (List.mem_cons_of_mem _ h)
theorem distA_mem {l : List Ans} {y : Ans} (h : y ∈ distA l) : y ∈ l := by
  rcases foldD_mem l [] y h with h | h
  · cases h
  · exact h
theorem stepD_len (d : List Ans) (x : Ans) : (stepD d x).length ≤ d.length + 1 := by
  unfold stepD
  split
  · omega
  · simp
theorem foldD_len (l : List Ans) : ∀ d : List Ans, (l.foldl stepD d).length ≤ d.length + l.length := by
  induction l with
  | nil => intro d; simp
  | cons x l ih =>
    intro d
    have h1 := ih (stepD d x)
    have h2 := stepD_len d x
    simp only [List.foldl_cons, List.length_cons]
    omega
theorem distA_len (l : List Ans) : (distA l).length ≤ l.length := by have := foldD_len l []; simpa [distA] using this

set_option maxRecDepth 100000 in
set_option maxHeartbeats 20000000 in
theorem dist1_any {x y : Ans} {qn : Nat} {pb px qb qx : Option Addr} {npb cpb npx cpx nqb cqb nqx cqx : Nat} (w : World) (hq : Bo w qn 48 #[.slice pb npb cpb, .int .i64 x.value.kind, .string x.value.name, .int .i64 x.value.n, .slice px npx cpx]) (hx : AnsW w x pb npb cpb px npx cpx) (hy : AnsW w y qb nqb cqb qx nqx cqx) (hxf : x.fit) (hyf : y.fit) :
    Calls Try.prog 49 #[.agg #[.slice qb nqb cqb, .int .i64 y.value.kind, .string y.value.name, .int .i64 y.value.n, .slice qx nqx cqx], .pointer (some ⟨qn, 0, none⟩)] w fun e w' => e = .returned (.bool (sameA x y)) ∧ Below w.heap.size w w' := by
  have HB := Lib.hid (below_new w (.cells #[.slice qb nqb cqb, .int .i64 y.value.kind, .string y.value.name, .int .i64 y.value.n, .slice qx nqx cqx] 48))
  have HX := Lib.hid (hq.alloc (.cells #[.slice qb nqb cqb, .int .i64 y.value.kind, .string y.value.name, .int .i64 y.value.n, .slice qx nqx cqx] 48))
  have HY := Lib.hid (Bo.new w 48 #[.slice qb nqb cqb, .int .i64 y.value.kind, .string y.value.name, .int .i64 y.value.n, .slice qx nqx cqx])
  have HC := Lib.hid (sameA_any (w.alloc (.cells #[.slice qb nqb cqb, .int .i64 y.value.kind, .string y.value.name, .int .i64 y.value.n, .slice qx nqx cqx] 48)) (hx.keep HB.out) (hy.keep HB.out) hxf hyf)
  have x0 : (w.alloc (.cells #[.slice qb nqb cqb, .int .i64 y.value.kind, .string y.value.name, .int .i64 y.value.n, .slice qx nqx cqx] 48)).cell? ⟨qn, 0, none⟩ = some (.slice pb npb cpb) := HX.out.cell (j := 0) rfl
  have x1 : (w.alloc (.cells #[.slice qb nqb cqb, .int .i64 y.value.kind, .string y.value.name, .int .i64 y.value.n, .slice qx nqx cqx] 48)).cell? ⟨qn, 1, none⟩ = some (.int .i64 x.value.kind) := HX.out.cell (j := 1) rfl
  have x2 : (w.alloc (.cells #[.slice qb nqb cqb, .int .i64 y.value.kind, .string y.value.name, .int .i64 y.value.n, .slice qx nqx cqx] 48)).cell? ⟨qn, 2, none⟩ = some (.string x.value.name) := HX.out.cell (j := 2) rfl
  have x3 : (w.alloc (.cells #[.slice qb nqb cqb, .int .i64 y.value.kind, .string y.value.name, .int .i64 y.value.n, .slice qx nqx cqx] 48)).cell? ⟨qn, 3, none⟩ = some (.int .i64 x.value.n) := HX.out.cell (j := 3) rfl
  have x4 : (w.alloc (.cells #[.slice qb nqb cqb, .int .i64 y.value.kind, .string y.value.name, .int .i64 y.value.n, .slice qx nqx cqx] 48)).cell? ⟨qn, 4, none⟩ = some (.slice px npx cpx) := HX.out.cell (j := 4) rfl
  have y0 : (w.alloc (.cells #[.slice qb nqb cqb, .int .i64 y.value.kind, .string y.value.name, .int .i64 y.value.n, .slice qx nqx cqx] 48)).cell? ⟨w.heap.size, 0, none⟩ = some (.slice qb nqb cqb) := HY.out.cell (j := 0) rfl
  have y1 : (w.alloc (.cells #[.slice qb nqb cqb, .int .i64 y.value.kind, .string y.value.name, .int .i64 y.value.n, .slice qx nqx cqx] 48)).cell? ⟨w.heap.size, 1, none⟩ = some (.int .i64 y.value.kind) := HY.out.cell (j := 1) rfl
  have y2 : (w.alloc (.cells #[.slice qb nqb cqb, .int .i64 y.value.kind, .string y.value.name, .int .i64 y.value.n, .slice qx nqx cqx] 48)).cell? ⟨w.heap.size, 2, none⟩ = some (.string y.value.name) := HY.out.cell (j := 2) rfl
  have y3 : (w.alloc (.cells #[.slice qb nqb cqb, .int .i64 y.value.kind, .string y.value.name, .int .i64 y.value.n, .slice qx nqx cqx] 48)).cell? ⟨w.heap.size, 3, none⟩ = some (.int .i64 y.value.n) := HY.out.cell (j := 3) rfl
  have y4 : (w.alloc (.cells #[.slice qb nqb cqb, .int .i64 y.value.kind, .string y.value.name, .int .i64 y.value.n, .slice qx nqx cqx] 48)).cell? ⟨w.heap.size, 4, none⟩ = some (.slice qx nqx cqx) := HY.out.cell (j := 4) rfl
  have hl := hq.lt
  clear hq hx hy hxf hyf
  go_enter Try.func49, Try.ntmps49
  go_wp2_with fail
  refine HC.out.mono ?_
  rintro e w4 ⟨rfl, hb⟩
  have HB4 := Lib.hid (HB.out.trans (hb.mono HB.out.size))
  clear hb
  generalize hr : sameA x y = r at *
  have HR := Lib.hid hr
  clear hr
  go_wp2_with fail
  go_ret
  exact ⟨by rw [HR.out]; rfl, HB4.out⟩
theorem entersD : EntersF 49 := fun _ _ => by kernel_rfl
set_option maxRecDepth 100000 in
set_option maxHeartbeats 20000000 in
theorem distinct_any {l : List Ans} {n cap : Nat} {a : Option Addr} (w : World) (h : MemW w (.s 5 (ansRows l)) (.slice a n cap)) (hf : ∀ y ∈ l, y.fit) (hn : n ≤ 100000) :
    Calls Try.prog 21 #[.slice a n cap] w fun e w' => ∃ a' n' c', e = .returned (.slice a' n' c') ∧ Below w.heap.size w w' ∧ MemW w' (.s 5 (ansRows (distA l))) (.slice a' n' c') := by
  have hl := ans_len h
  have HL := Lib.hid hl.1
  have hcap := hl.2.1
  have hmx := hl.2.2
  have H := Lib.hid h
  have HF := Lib.hid hf
  have HN := Lib.hid hn
  clear hl h hf hn
  go_enter Try.func21, Try.ntmps21
  go_wp2
  go_loopw [3, 8] (fun v i wr => ∃ k : Nat, k ≤ n ∧ i = .int .i64 k ∧ Hid (Below w.heap.size w wr) ∧ Hid (OwnD w.heap.size w.heap.size 48 5 wr v (ansRows (distA (l.take k))))) (fun _ i _ => n - (intOf i).toNat)
  case atStart => exact ⟨0, Nat.zero_le _, rfl, Lib.hid (Below.refl _ _), Lib.hid (OwnD.nil _ _ _ _ _)⟩
  case round =>
    obtain ⟨k, hk, rfl, HB, HO⟩ := hrel
    obtain ⟨av, cv, rfl, _, _⟩ := HO.out.form
    by_cases hlt : k < n
    · have hltz : (k : Int) < (n : Int) := by omega
      obtain ⟨b, o, x, pb, npb, cpb, px, npx, cpx, rfl, hbB, Hx, x0, x1, x2, x3, x4, GB, GV⟩ := ans_at (Mem.keep H.out (Nat.le_refl _) HB.out) k hlt
      have hs0 : w.heap.size ≤ wr.heap.size := HB.out.size
      have HXF := Lib.hid (HF.out x (mem_of_at Hx.out))
      have HD1 := Lib.hid (distA_at Hx.out)
      have HDL : Hid ((distA (l.take k)).length ≤ 100000) := Lib.hid (by
        have h1 := distA_len (l.take k)
        rw [List.length_take] at h1
        have := HN.out
        omega)
      have HDF : Hid (∀ y ∈ distA (l.take k), y.fit) := Lib.hid fun y hy => HF.out y (List.mem_of_mem_take (distA_mem hy))
      have HBA := Lib.hid (HB.out.alloc HB.out.size (.cells #[.slice pb npb cpb, .int .i64 x.value.kind, .string x.value.name, .int .i64 x.value.n, .slice px npx cpx] 48))
      have HOA := Lib.hid (HO.out.alloc (.cells #[.slice pb npb cpb, .int .i64 x.value.kind, .string x.value.name, .int .i64 x.value.n, .slice px npx cpx] 48))
      have HBX := Lib.hid (Bo.new wr 48 #[.slice pb npb cpb, .int .i64 x.value.kind, .string x.value.name, .int .i64 x.value.n, .slice px npx cpx])
      have HXW : Hid (AnsW wr x pb npb cpb px npx cpx) := Lib.hid ⟨GB.out.le hs0, GV.out.le hs0⟩
      have HXA := Lib.hid (HXW.out.keep (below_new wr (.cells #[.slice pb npb cpb, .int .i64 x.value.kind, .string x.value.name, .int .i64 x.value.n, .slice px npx cpx] 48)))
      have HC := Lib.hid (containsA_any (l := distA (l.take k)) (p := fun y => sameA x y) (w := wr.alloc (.cells #[.slice pb npb cpb, .int .i64 x.value.kind, .string x.value.name, .int .i64 x.value.n, .slice px npx cpx] 48)) (c := .pointer (some ⟨wr.heap.size, 0, none⟩)) entersD (fun w' hb y hy qb nqb cqb qx nqx cqx hyw => dist1_any w' (HBX.out.keep hb) (HXA.out.keep hb) hyw HXF.out (HDF.out y hy)) HOA.out.memW)
      clear HXA
      cases hr : (distA (l.take k)).any (fun y => sameA x y) with
      | true =>
        rw [hr] at HC
        have HS : Hid (distA (l.take (k + 1)) = distA (l.take k)) := Lib.hid (by rw [HD1.out, stepD, hr]; rfl)
        clear hr
        generalize (ansRows (distA (l.take k))).length = rl at *
        go_wp2_with fail
        refine HC.out.mono ?_
        rintro e w4 ⟨rfl, hb⟩
        have HB4 := Lib.hid (HBA.out.trans (hb.mono HBA.out.size))
        have HO4 := Lib.hid (HOA.out.keep hb)
        clear hb
        go_wp2_with fail
        go_roundw
        case rel => exact ⟨k + 1, by omega, by go_num, HB4, Lib.hid (by rw [HS.out]; exact HO4.out)⟩
        case measure => simp [intOf]; omega
      | false =>
        rw [hr] at HC
        have HS : Hid (ansRows (distA (l.take (k + 1))) = ansRows (distA (l.take k)) ++ ansRows [x]) := Lib.hid (by rw [HD1.out, stepD, hr, if_neg (by simp), ansRows, List.map_append]; rfl)
        clear hr
        generalize (ansRows (distA (l.take k))).length = rl at *
        go_wp2_with fail
        refine HC.out.mono ?_
        rintro e w4 ⟨rfl, hb⟩
        have HB4 := Lib.hid (HBA.out.trans (hb.mono HBA.out.size))
        have HO4 := Lib.hid (HOA.out.keep hb)
        have HBX4 := Lib.hid (HBX.out.keep hb)
        have z0 : w4.cell? ⟨wr.heap.size, 0, none⟩ = some (.slice pb npb cpb) := HBX4.out.cell (j := 0) rfl
        have z1 : w4.cell? ⟨wr.heap.size, 1, none⟩ = some (.int .i64 x.value.kind) := HBX4.out.cell (j := 1) rfl
        have z2 : w4.cell? ⟨wr.heap.size, 2, none⟩ = some (.string x.value.name) := HBX4.out.cell (j := 2) rfl
        have z3 : w4.cell? ⟨wr.heap.size, 3, none⟩ = some (.int .i64 x.value.n) := HBX4.out.cell (j := 3) rfl
        have z4 : w4.cell? ⟨wr.heap.size, 4, none⟩ = some (.slice px npx cpx) := HBX4.out.cell (j := 4) rfl
        have HW4 : Hid (w.heap.size ≤ w4.heap.size) := Lib.hid HB4.out.size
        have HB05 := Lib.hid ((below_new wr (.cells #[.slice pb npb cpb, .int .i64 x.value.kind, .string x.value.name, .int .i64 x.value.n, .slice px npx cpx] 48)).trans (hb.mono (below_new wr (.cells #[.slice pb npb cpb, .int .i64 x.value.kind, .string x.value.name, .int .i64 x.value.n, .slice px npx cpx] 48)).size))
        have HOX := Lib.hid (own_ans (e' := 48) (x := x) HO4.out (Nat.le_refl _) HW4.out (Mem.keep GB.out (Nat.le_refl _) (HB05.out.mono hs0)) (Mem.keep GV.out (Nat.le_refl _) (HB05.out.mono hs0)))
        have HBB := Lib.hid (HB4.out.alloc HB4.out.size (.cells #[.slice pb npb cpb, .int .i64 x.value.kind, .string x.value.name, .int .i64 x.value.n, .slice px npx cpx] 48))
        clear hb x0 x1 x2 x3 x4
        go_wp2_with (first
          | (at_builtin
             refine wpList_append_D2 rfl _ _ rfl Try.underlying41 info_ans rfl (by decide) rfl rfl (HO4.out.alloc (.cells #[.slice pb npb cpb, .int .i64 x.value.kind, .string x.value.name, .int .i64 x.value.n, .slice px npx cpx] 48)) HOX.out (by have := HDL.out; simp only [ansRows_len, List.length_cons, List.length_nil] at *; omega) (by have := HDL.out; simp only [ansRows_len, List.length_cons, List.length_nil] at *; omega) (by rw [World.size_alloc]; exact Nat.le_succ_of_le HW4.out) ?_
             intro v' w6 ho hg _
             have HO6 := Lib.hid ho
             have HB6 := Lib.hid (grown_below HBB.out hg (Nat.le_refl _) (fun k hk => (HO4.out.lt k hk).1))
             rw [← HS.out] at HO6
             clear ho hg))
        go_roundw
        case rel => exact ⟨k + 1, by omega, by go_num, HB6, HO6⟩
        case measure => simp [intOf]; omega
    · obtain rfl : k = n := by omega
      have hltz : ¬ (k : Int) < (k : Int) := by omega
      have HD := Lib.hid (show distA (l.take k) = distA l by rw [List.take_of_length_le (by rw [HL.out]; exact Nat.le_refl _)])
      go_wp2_with fail
      go_ret
      exact ⟨av, _, cv, rfl, HB.out, by have := HO.out.memW; rw [HD.out] at this ⊢; exact this⟩
end Go.Proofs.Ytmadfkofmehfkaa

/-
  slices.Delete of one answer out of a row of the call's own. No condition but how they lie.
-/
namespace Go.Proofs.Ytmadfkofmehfkaa
open Go.RowKit

theorem All2.erase {α β : Type} {R : α → β → Prop} {xs : List α} {ys : List β} (h : All2 R xs ys) : ∀ i : Nat, All2 R (xs.eraseIdx i) (ys.eraseIdx i) := by
  induction h with
  | nil => intro i; exact .nil
  | cons h _ ih =>
    intro i
    cases i with
    | zero => assumption
    | succ i => exact .cons h (ih i)
theorem flatLen {α : Type} {sz : Nat} : ∀ {css : List (List α)}, (∀ c ∈ css, c.length = sz) → css.flatten.length = css.length * sz
  | [], _ => by simp
  | c :: css, h => by
    rw [List.flatten_cons, List.length_append, flatLen (fun x hx => h x (List.mem_cons_of_mem _ hx)), h c (List.mem_cons_self ..), List.length_cons, Nat.succ_mul]; omega
theorem flat_erase {α : Type} {sz : Nat} : ∀ {css : List (List α)}, (∀ c ∈ css, c.length = sz) → ∀ i : Nat, i < css.length → (css.eraseIdx i).flatten = css.flatten.take (i * sz) ++ css.flatten.drop ((i + 1) * sz)
  | [], _, i, hi => absurd hi (Nat.not_lt_zero _)
  | c :: css, h, 0, _ => by
    have h1 := h c (List.mem_cons_self ..)
    rw [List.eraseIdx_cons_zero, Nat.zero_mul, List.take_zero, List.nil_append, List.flatten_cons, Nat.zero_add, Nat.one_mul, ← h1, List.drop_left]
  | c :: css, h, i + 1, hi => by
    have h1 := h c (List.mem_cons_self ..)
    have ih := flat_erase (css := css) (fun x hx => h x (List.mem_cons_of_mem _ hx)) i (by simpa using hi)
    rw [List.eraseIdx_cons_succ, List.flatten_cons, ih, List.flatten_cons, ← List.append_assoc]
    congr 1
    · rw [show (i + 1) * sz = c.length + i * sz by rw [h1, Nat.succ_mul]; omega, List.take_length_add_append]
    · rw [show (i + 1 + 1) * sz = c.length + (i + 1) * sz by rw [h1, Nat.succ_mul]; omega, List.drop_length_add_append]
theorem size_setCs (w : World) (g : Nat) : ∀ (cs : List Value) (p : Nat), (w.setCells g p cs).heap.size = w.heap.size := by
  intro cs
  induction cs generalizing w with
  | nil => intro p; rfl
  | cons c cs ih => intro p; rw [World.setCells, ih]; simp [World.setCell]
theorem heap_setCs (w : World) (g b : Nat) (hb : b ≠ g) : ∀ (cs : List Value) (p : Nat), (w.setCells g p cs).heap[b]? = w.heap[b]? := by
  intro cs
  induction cs generalizing w with
  | nil => intro p; rfl
  | cons c cs ih => intro p; rw [World.setCells, ih]; exact heap_setCell_other w ⟨g, p, none⟩ b c hb
theorem grown_setCs (w : World) (g : Nat) (cs : List Value) : ∀ p, w.grownBy (w.setCells g p cs) (some g) := by
  induction cs generalizing w with
  | nil => intro p; exact grownBy_refl _ _
  | cons c cs ih => intro p; rw [World.setCells]; exact grownBy_trans (grownBy_setCell w g p c) (ih _ _)
def zeroA : List Value := [.slice none 0 0, .int .i64 0, .string .empty, .int .i64 0, .slice none 0 0]
set_option maxHeartbeats 2000000 in
theorem OwnD.del {B base : Nat} {e : TypeId} {w : World} {g n cap i : Nat} {rs : List (List At)} (h : OwnD B base e 5 w (.slice (some ⟨g, 0, none⟩) n cap) rs) (hi : i < n) :
    ∃ news : List Value, news.length = (n - (i + 1)) * 5 ∧ (∀ j u, news[j]? = some u → w.cell? ⟨g, (i + 1) * 5 + j, none⟩ = some u) ∧ (∀ u ∈ news, u.oneCell' = true) ∧ (∀ j, j < n * 5 → (w.cell? ⟨g, j, none⟩).isSome = true ∧ w.frozen? ⟨g, j, none⟩ = false) ∧
      OwnD B base e 5 ((w.setCells g (i * 5) news).setCells g ((n - 1) * 5) zeroA) (.slice (some ⟨g, 0, none⟩) (n - 1) cap) (rs.eraseIdx i) := by
  obtain ⟨css, ho, hm⟩ := h
  have hlen := hm.len
  have hcs : ∀ cs ∈ css, cs.length = 5 := fun cs hcs => by
    obtain ⟨k, hk, rfl⟩ := List.getElem_of_mem hcs
    exact (hm.at k (by omega) hk).1
  have hone : ∀ u ∈ css.flatten, u.oneCell' = true := by
    intro u hu
    obtain ⟨cs, hcs', hu'⟩ := List.mem_flatten.1 hu
    obtain ⟨k, hk, rfl⟩ := List.getElem_of_mem hcs'
    obtain ⟨j, hj, rfl⟩ := List.getElem_of_mem hu'
    have h2 := (hm.at k (by omega) hk).2
    exact (h2.at j (by have := h2.len; omega) hj).one
  rcases ho.2 with ⟨h1, _⟩ | ⟨g', cap', cur, hv, hb, hgg, hncap, hcap, hsz, htake⟩
  · cases h1
  · have hrl : rs.length = n := by cases hv; rfl
    obtain rfl : g = g' := by cases hv; rfl
    obtain rfl : cap = cap' := by cases hv; rfl
    clear hv
    have hF : css.flatten.length = n * 5 := by rw [flatLen hcs]; omega
    have hat : ∀ j, j < n * 5 → css.flatten[j]? = cur[j]? := fun j hj => by
      rw [← htake, List.getElem?_take, if_pos (by rw [hrl]; exact hj), Array.getElem?_toList]
    have hn5 : n * 5 ≤ cap * 5 := Nat.mul_le_mul_right _ (by omega)
    have hcell : ∀ j, j < n * 5 → ∃ v, css.flatten[j]? = some v ∧ w.cell? ⟨g, j, none⟩ = some v := fun j hj => by
      have hc : j < cur.size := by omega
      refine ⟨cur[j], ?_, ?_⟩
      · rw [hat j hj, Array.getElem?_eq_getElem hc]
      · rw [cell_of_row w g j cur e (0, 0) hgg, Array.getElem?_eq_getElem hc]
    have hrow : w.rowIs g e (cap * 5) (fun j => (cur[j]?).getD default) := ⟨cur, hgg, hsz, fun j hj => by
      have hc : j < cur.size := by omega
      simp only [Array.getElem?_eq_getElem hc, Option.getD_some]⟩
    have hnl : (css.flatten.drop ((i + 1) * 5)).length = (n - (i + 1)) * 5 := by rw [List.length_drop, hF, Nat.sub_mul]
    have hr2 := rowIs_setCells zeroA ((n - 1) * 5) _ _ (rowIs_setCells (css.flatten.drop ((i + 1) * 5)) (i * 5) w _ hrow)
    refine ⟨css.flatten.drop ((i + 1) * 5), hnl, fun j u hu => ?_, fun u hu => hone u (List.mem_of_mem_drop hu), fun j hj => ?_, ?_⟩
    · rw [List.getElem?_drop] at hu
      have hj0 := (List.getElem?_eq_some_iff.1 hu).1
      have hj : (i + 1) * 5 + j < n * 5 := Nat.lt_of_lt_of_eq hj0 hF
      obtain ⟨v, h1, h2⟩ := hcell _ hj
      rw [h1] at hu
      rw [h2, ← hu]
    · obtain ⟨v, h1, h2⟩ := hcell j hj
      exact ⟨by rw [h2]; rfl, frozen_of_row w g j cur e hgg⟩
    · obtain ⟨cur2, hg2, hsz2, hc2⟩ := hr2
      have hel : (rs.eraseIdx i).length = n - 1 := by rw [List.length_eraseIdx_of_lt (by omega), hrl]
      have hF2 : (css.eraseIdx i).flatten = css.flatten.take (i * 5) ++ css.flatten.drop ((i + 1) * 5) := flat_erase hcs i (by omega)
      have hF2l : (css.eraseIdx i).flatten.length = (n - 1) * 5 := by
        rw [flatLen (fun c hc => hcs c (List.mem_of_mem_eraseIdx hc)), List.length_eraseIdx_of_lt (by omega), ← hlen, hrl]
      refine ⟨css.eraseIdx i, ⟨by rw [hF2l, hel], .inr ⟨g, cap, cur2, by rw [hel], hb, hg2, by rw [hel]; omega, hcap, hsz2, ?_⟩⟩, (All2.erase hm i).imp fun r cs ⟨hc, hmm⟩ => ⟨hc, hmm.imp fun x y hx => hx.mono (fun b ⟨⟨h3, h4⟩, h5⟩ => ⟨⟨h3, by rw [size_setCs, size_setCs]; exact h4⟩, h5⟩) fun b ⟨⟨_, h4⟩, h5⟩ => ?_⟩⟩
      · rw [hel]
        refine List.ext_getElem? fun j => ?_
        rw [List.getElem?_take]
        by_cases hj : j < (n - 1) * 5
        · have hn1 : (n - 1) * 5 + 5 = n * 5 := by omega
          have hi1 : i * 5 + (n - (i + 1)) * 5 = (n - 1) * 5 := by omega
          rw [if_pos hj, Array.getElem?_toList, hc2 j (by omega), hF2]
          have hz : ¬ ((n - 1) * 5 ≤ j ∧ j < (n - 1) * 5 + zeroA.length) := fun h => by have := h.1; omega
          simp only [if_neg hz]
          by_cases hji : j < i * 5
          · rw [if_neg (by omega), List.getElem?_append_left (by rw [List.length_take, hF]; omega), List.getElem?_take, if_pos hji, hat j (by omega)]
            have hc : j < cur.size := by omega
            rw [Array.getElem?_eq_getElem hc]; rfl
          · have hlt : (css.flatten.take (i * 5)).length = i * 5 := by rw [List.length_take, hF]; omega
            have hd : j - i * 5 < (css.flatten.drop ((i + 1) * 5)).length := by rw [hnl]; omega
            rw [if_pos ⟨by omega, by rw [hnl]; omega⟩, List.getElem?_append_right (by rw [hlt]; omega), hlt, List.getElem?_eq_getElem hd]
            rfl
        · rw [if_neg hj]
          rw [List.getElem?_eq_none (by rw [hF2l]; omega)]
      · have hne : b ≠ g := fun e => h5 (by rw [e]; rfl)
        rw [heap_setCs _ _ _ hne, heap_setCs _ _ _ hne]
theorem zeroA_one : ∀ v ∈ zeroA, v.oneCell' = true := fun v hv => by
  simp only [zeroA, List.mem_cons, List.not_mem_nil, or_false] at hv
  rcases hv with rfl | rfl | rfl | rfl | rfl <;> rfl
theorem run_clear_ans (ty : TypeId) (w : World) (q p c : Nat) (h : ∀ j, j < 5 → (w.cell? ⟨q, p + j, none⟩).isSome = true ∧ w.frozen? ⟨q, p + j, none⟩ = false) :
    (Builtin.clear_ #[41] ty #[.slice (some ⟨q, p, none⟩) 1 c]).run Try.prog w = .ok (.tuple #[]) (w.setCells q p zeroA) := by
  have hz : (zeroValue 48).run Try.prog w = .ok (.agg #[.slice none 0 0, .int .i64 0, .string .empty, .int .i64 0, .slice none 0 0]) w := Try.zeroValue48 w
  have hs := run_storeCells_cells (P := Try.prog) q p zeroA 0 w (fun j hj => (h j hj).1) (fun j hj => (h j hj).2) zeroA_one
  have he : (Builtin.zeroCells #[.slice none 0 0, .int .i64 0, .string .empty, .int .i64 0, .slice none 0 0] 1).toList = zeroA := by simp [Builtin.zeroCells, List.range_succ, zeroA]
  simp only [Nat.add_zero] at hs
  simp [Builtin.clear_, run_underlying Try.underlying41, hz, Value.cells, he, hs]
theorem app_del {w : World} {g n m cap i c ty : Nat} {a : Addr} {news : List Value} (hin : i + (n - (i + 1)) = m) (hic : m ≤ cap) (hl : news.length = (n - (i + 1)) * 5) (hn : ∀ j u, news[j]? = some u → w.cell? (a.add j) = some u) (h1 : ∀ u ∈ news, u.oneCell' = true) (hw : ∀ j, j < n * 5 → (w.cell? ⟨g, j, none⟩).isSome = true ∧ w.frozen? ⟨g, j, none⟩ = false) (hmn : m ≤ n) :
    ∃ v' w', (Builtin.append_ #[41, 41] ty #[.slice (some ⟨g, 0, none⟩) i cap, .slice (some a) (n - (i + 1)) c]).run Try.prog w = .ok v' w' ∧ (v' = .slice (some ⟨g, 0, none⟩) m cap ∧ w' = w.setCells g (i * 5) news) := by
  have hq := info_ans
  cases hI : Try.prog.info? 48 with
  | none => rw [hI] at hq; cases hq
  | some x =>
    rw [hI] at hq
    have hx : x.size = 5 := by simp only [Option.map_some, Option.some.injEq, Prod.mk.injEq] at hq; exact hq.2.1
    have hr := run_append_room_cells (P := Try.prog) w 41 ty 48 x Try.underlying41 hI g 0 i cap a (n - (i + 1)) c news (by rw [hx]; exact hl) hn h1 (by omega) (fun j hj => by rw [hx, Nat.zero_add]; exact (hw _ (by omega)).1) (fun j hj => by rw [hx, Nat.zero_add]; exact (hw _ (by omega)).2)
    rw [hin, hx, Nat.zero_add] at hr
    exact ⟨_, _, hr, rfl, rfl⟩
set_option maxRecDepth 100000 in
set_option maxHeartbeats 20000000 in
theorem deleteA_any {B base : Nat} {w : World} {g n cap i : Nat} {rs : List (List At)} (h : OwnD B base 48 5 w (.slice (some ⟨g, 0, none⟩) n cap) rs) (hi : i < n) :
    Calls Try.prog 48 #[.slice (some ⟨g, 0, none⟩) n cap, .int .i64 i, .int .i64 ((i : Int) + 1)] w fun e w' => e = .returned (.slice (some ⟨g, 0, none⟩) (n - 1) cap) ∧ OwnD B base 48 5 w' (.slice (some ⟨g, 0, none⟩) (n - 1) cap) (rs.eraseIdx i) ∧ w.grownBy w' (some g) := by
  have hl := h.mem.len
  have hcap := hl.2.1
  have hmx := hl.2.2
  obtain ⟨news, h1, h2, h3, h4, h5⟩ := (h.keep (below_drew w)).del hi
  obtain ⟨m, hm⟩ : ∃ m, m = n - 1 := ⟨_, rfl⟩
  rw [← hm] at h5 ⊢
  have hw2 := run_clear_ans 0 (w.drew.setCells g (i * 5) news) g (m * 5) (cap - m) (fun j hj => by
    refine ⟨?_, by rw [World.frozen?_setCells]; exact (h4 _ (by omega)).2⟩
    by_cases hj2 : m * 5 + j < i * 5 + news.length
    · by_cases hj3 : i * 5 ≤ m * 5 + j
      · obtain ⟨q, hq⟩ : ∃ q, m * 5 + j = i * 5 + q := ⟨m * 5 + j - i * 5, by omega⟩
        rw [hq, World.cell?_setCells_in g news (i * 5) _ (fun k hk => (h4 _ (by rw [h1] at hk; omega)).1) q (by omega)]; rfl
      · omega
    · rw [World.cell?_setCells_out g news (i * 5) _ _ (fun _ _ => .inr (by show i * 5 + news.length ≤ m * 5 + j; omega))]
      exact (h4 _ (by omega)).1)
  have H5 := Lib.hid h5
  have HG : Hid (w.grownBy ((w.drew.setCells g (i * 5) news).setCells g (m * 5) zeroA) (some g)) := Lib.hid (grownBy_trans (grownBy_trans (grownBy_drew w _) (grown_setCs _ _ _ _)) (grown_setCs _ _ _ _))
  have HA1 : Hid (∀ c, ∃ v' w', (Builtin.append_ #[41, 41] 41 #[.slice (some ⟨g, 0, none⟩) i cap, .slice (some ⟨g, (i + 1) * 5, none⟩) (n - (i + 1)) c]).run Try.prog w.drew = .ok v' w' ∧ (v' = .slice (some ⟨g, 0, none⟩) m cap ∧ w' = w.drew.setCells g (i * 5) news)) := Lib.hid fun c => app_del (by omega) (by omega) h1 (fun j u hu => by rw [Addr.add_lit]; exact h2 j u hu) h3 h4 (by omega)
  have HA2 : Hid (cap = i + 1 → ∀ c, ∃ v' w', (Builtin.append_ #[41, 41] 41 #[.slice (some ⟨g, 0, none⟩) i cap, .slice (some ⟨g, 0, none⟩) (n - (i + 1)) c]).run Try.prog w.drew = .ok v' w' ∧ (v' = .slice (some ⟨g, 0, none⟩) m cap ∧ w' = w.drew.setCells g (i * 5) news)) := Lib.hid fun hc c => app_del (by omega) (by omega) h1 (fun j u hu => by
    have : news = [] := List.eq_nil_of_length_eq_zero (by rw [h1]; omega)
    rw [this] at hu
    simp at hu) h3 h4 (by omega)
  clear h1 h2 h3 h4 h5 hl h
  have hiz : (i : Int) < (n : Int) := by omega
  have hne : ((i : Int) == (i : Int) + 1) = false := by rw [beq_eq_false_iff_ne]; omega
  have hin : (i : Int) ≤ (n : Int) := by omega
  have hic : (i : Int) ≤ (cap : Int) := by omega
  have hi1n : (i : Int) + 1 ≤ (n : Int) := by omega
  have hi0 : (0 : Int) ≤ (i : Int) + 1 := by omega
  have hmn : (m : Int) ≤ (n : Int) := by omega
  have hmc : (m : Int) ≤ (cap : Int) := by omega
  have hnc : (n : Int) ≤ (cap : Int) := by omega
  have hcm : ¬ cap = m := by omega
  have hnm : n - m = 1 := by omega
  clear hm
  by_cases hc1 : cap = i + 1
  · have HA := Lib.hid (HA2.out hc1)
    have hct : (cap = i + 1) = True := eq_true hc1
    clear HA1 HA2 hc1
    go_enter Try.func48, Try.ntmps48
    go_wp2
    go_still_tail 6, (by kernel_rfl)
    change wpList _ _ _ _ _ w.drew
    go_wp2_with (first
      | (at_builtin
         refine listx_app rfl (.tmp 22) (.tmp 25) rfl rfl rfl (HA.out _) ?_
         rintro v' w' ⟨rfl, rfl⟩))
    go_ret
    exact ⟨rfl, H5.out, HG.out⟩
  · have HA := Lib.hid HA1.out
    clear HA1 HA2
    go_enter Try.func48, Try.ntmps48
    go_wp2
    go_still_tail 6, (by kernel_rfl)
    change wpList _ _ _ _ _ w.drew
    go_wp2_with (first
      | (at_builtin
         refine listx_app rfl (.tmp 22) (.tmp 25) rfl rfl rfl (HA.out _) ?_
         rintro v' w' ⟨rfl, rfl⟩))
    go_ret
    exact ⟨rfl, H5.out, HG.out⟩
end Go.Proofs.Ytmadfkofmehfkaa
