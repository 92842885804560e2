/-
  slices.Clone of answers; answer.Alike. No condition but how they lie, and how great they are.
-/
import Derived.Test.YtmadfkofmehfkaaAt27
import Derived.Test.YtmadfkofmehfkaaAt26
import Derived.Test.YtmadfkofmehfkaaAt25
namespace Go.Proofs.Ytmadfkofmehfkaa
open Go.RowKit Go.Maps

set_option maxRecDepth 100000 in
set_option maxHeartbeats 2000000 in
theorem cloneA_any {B : Nat} {l : List Ans} {a : Option Addr} {n cap : Nat} (w : World) (hB : B ≤ w.heap.size) (h : Mem (· < B) w (.s 5 (ansRows l)) (.slice a n cap)) (hn : n ≤ 100000) :
    Calls Try.prog 47 #[.slice a n cap] w fun e w' => ∃ y, e = .returned y ∧ OwnD B w.heap.size 48 5 w' y (ansRows l) ∧ Below w.heap.size w w' := by
  have hl := Mem.len h
  rw [ansRows_len] at hl
  have HB := Lib.hid hB
  clear hB
  cases a with
  | none =>
    have h0 : l = [] := by
      have hp := h
      cases l with
      | nil => rfl
      | cons x l => rw [show ansRows (x :: l) = x.row :: ansRows l from rfl] at hp; cases hp
    subst h0
    have hn0 : n = 0 := by have := hl.1; simpa using this.symm
    subst hn0
    have hq := fun W : World => run_eql_slice_nil (P := Try.prog) W 41 48 none 0 cap Try.underlying41
    simp only [Option.isNone_none] at hq
    clear h hl hn
    go_enter Try.func47, Try.ntmps47
    go_wp2
    go_ret
    exact ⟨_, rfl, OwnD.nil _ _ _ _ _, Below.refl _ _⟩
  | some ad =>
    have HW0 : Hid (OwnD B w.heap.size 48 5 (w.alloc (.cells #[] 48)) (.slice (some ⟨w.heap.size, 0, none⟩) 0 0) []) := Lib.hid (OwnD.built (css := []) .nil (Nat.le_refl _) 0 rfl (by decide) _ rfl)
    have HM : Hid (Mem (fun b => Nw B w.heap.size (w.alloc (.cells #[] 48)).heap.size b ∧ (Value.slice (some ⟨w.heap.size, 0, none⟩) 0 0).ownBlock ≠ some b) (w.alloc (.cells #[] 48)) (.s 5 (ansRows l)) (.slice (some ad) n cap)) :=
      Lib.hid (HW0.out.old HB.out (by rw [World.size_alloc]; omega) (Mem.keep h (Nat.le_refl _) ((below_new w _).mono HB.out)))
    have HN : Hid ((ansRows l).length = n) := Lib.hid (by rw [ansRows_len]; exact hl.1)
    have hq := fun W : World => run_eql_slice_nil (P := Try.prog) W 41 48 (some ad) n cap Try.underlying41
    simp only [Option.isNone_some] at hq
    clear h hl
    go_enter Try.func47, Try.ntmps47
    go_wp2_with (first
      | (at_builtin
         refine wpList_append_D2 rfl _ _ rfl Try.underlying41 info_ans rfl (by decide) rfl rfl HW0.out HM.out (by rw [HN.out, List.length_nil]; omega) (by rw [HN.out, List.length_nil]; omega) (by rw [World.size_alloc]; omega) ?_
         intro v' w6 ho hg _
         have HO := Lib.hid ho
         have HG := Lib.hid hg
         clear ho hg))
    go_ret
    exact ⟨_, rfl, by simpa using HO.out, grown_below (below_new w _) HG.out (Nat.le_refl _) (fun k hk => by cases hk; exact Nat.le_refl _)⟩

theorem ansRows_erase (l : List Ans) : ∀ i : Nat, (ansRows l).eraseIdx i = ansRows (l.eraseIdx i) := by
  induction l with
  | nil => intro i; rfl
  | cons x l ih =>
    intro i
    cases i with
    | zero => rfl
    | succ i => show x.row :: (ansRows l).eraseIdx i = x.row :: ansRows (l.eraseIdx i); rw [ih]
/-- Each found in what is left, and taken out. -/
def alikeG : List Ans → List Ans → Bool
  | [], _ => true
  | x :: xs, left => if left.any (fun y => sameA x y) then alikeG xs (left.eraseIdx (left.findIdx fun y => sameA x y)) else false
def alikeA (a b : List Ans) : Bool := decide (a.length = b.length) && alikeG a b
theorem find_at {p : Ans → Bool} {l : List Ans} {k : Nat} {x : Ans} (hx : l[k]? = some x) (h : p x = true) (hn : ∀ j y, j < k → l[j]? = some y → p y = false) : l.any p = true ∧ l.findIdx p = k := by
  have hk := (List.getElem?_eq_some_iff.1 hx).1
  have e := (List.getElem?_eq_some_iff.1 hx).2
  exact ⟨List.any_eq_true.2 ⟨x, List.mem_of_getElem? hx, h⟩, (List.findIdx_eq hk).2 ⟨by rw [e]; exact h, fun j hj => hn j l[j] hj (List.getElem?_eq_getElem (by omega))⟩⟩
theorem find_no {p : Ans → Bool} {l : List Ans} (hn : ∀ j y, j < l.length → l[j]? = some y → p y = false) : l.any p = false := by
  rw [Bool.eq_false_iff]
  intro h
  obtain ⟨y, hy, e⟩ := List.any_eq_true.1 h
  obtain ⟨j, hj, rfl⟩ := List.getElem_of_mem hy
  rw [hn j _ hj (List.getElem?_eq_getElem hj)] at e
  cases e
theorem OwnD.ptr {B base sz : Nat} {e : TypeId} {w : World} {rs : List (List At)} {a : Option Addr} {n c : Nat} (h : OwnD B base e sz w (.slice a n c) rs) (hn : 0 < n) : ∃ g, a = some ⟨g, 0, none⟩ ∧ base ≤ g ∧ g < w.heap.size := by
  obtain ⟨css, ho, _⟩ := h
  rcases ho.2 with ⟨h1, h2⟩ | ⟨g, cap, cur, h1, hb, hg, _⟩
  · cases h1; omega
  · cases h1; exact ⟨g, rfl, hb, (Array.getElem?_eq_some_iff.1 hg).1⟩

set_option maxRecDepth 100000 in
set_option maxHeartbeats 20000000 in
theorem alike_any {la lb : List Ans} {n cap m cb : Nat} {a b : Option Addr} (w : World) (ha : MemW w (.s 5 (ansRows la)) (.slice a n cap)) (hb : MemW w (.s 5 (ansRows lb)) (.slice b m cb)) (haf : ∀ y ∈ la, y.fit) (hbf : ∀ y ∈ lb, y.fit) (hm : m ≤ 100000) :
    Calls Try.prog 20 #[.slice a n cap, .slice b m cb] w fun e w' => e = .returned (.bool (alikeA la lb)) ∧ Below w.heap.size w w' := by
  have hla := ans_len ha
  have hlb := ans_len hb
  have HLA := Lib.hid hla.1
  have HLB := Lib.hid hlb.1
  have hcap := hla.2.1
  have hmx := hla.2.2
  have HA := Lib.hid ha
  have HAF := Lib.hid haf
  have HBF := Lib.hid hbf
  have HC := Lib.hid (cloneA_any (B := w.heap.size) (l := lb) w (Nat.le_refl _) hb hm)
  clear ha hb haf hbf hm hla hlb
  by_cases hnm : n = m
  · have HE : Hid (alikeA la lb = alikeG la lb) := Lib.hid (by rw [alikeA, HLA.out, HLB.out, decide_eq_true hnm]; rfl)
    subst hnm
    have e1 : ((n : Int) != (n : Int)) = false := by simp
    go_enter Try.func20, Try.ntmps20
    go_wp2
    go_step3
    go_wp2_with fail
    refine HC.out.mono ?_
    rintro e w2 ⟨y2, rfl, ho2, hb2⟩
    have HO2 := Lib.hid ho2
    have HB2 := Lib.hid hb2
    clear ho2 hb2
    go_wp2_with fail
    go_step3
    go_wp2
    go_loopw [5, 19] (fun v i wr => ∃ (k : Nat) (left : List Ans), k ≤ n ∧ i = .int .i64 k ∧ Hid (Below w.heap.size w wr) ∧ Hid (OwnD w.heap.size w.heap.size 48 5 wr v (ansRows left)) ∧ Hid (alikeG la lb = alikeG (la.drop k) left) ∧ Hid (∀ y ∈ left, y ∈ lb)) (fun _ i _ => n - (intOf i).toNat)
    case atStart => exact ⟨0, lb, Nat.zero_le _, rfl, HB2, HO2, Lib.hid rfl, Lib.hid fun y hy => hy⟩
    case round =>
      obtain ⟨k, left, hk, rfl, HB, HO, HG, HIN⟩ := hrel
      obtain ⟨av, cv, rfl, hcv, hcm⟩ := HO.out.form
      have HLF : Hid (left.length = (ansRows left).length) := Lib.hid (ansRows_len left).symm
      generalize (ansRows left).length = m at *
      rename World => wr
      by_cases hlt : k < n
      · have hltz : (k : Int) < (n : Int) := by omega
        obtain ⟨bx, ox, x, pb, npb, cpb, px, npx, cpx, rfl, hbB, Hx, x0, x1, x2, x3, x4, GB, GV⟩ := ans_at (MemW.keep HA.out HB.out) k hlt
        have HXF := Lib.hid (HAF.out x (mem_of_at Hx.out))
        have HG1 : Hid (alikeG la lb = if left.any (fun y => sameA x y) then alikeG (la.drop (k + 1)) (left.eraseIdx (left.findIdx fun y => sameA x y)) else false) := Lib.hid (by
          have hd := List.drop_eq_getElem_cons (l := la) (i := k) (by have := HLA.out; omega)
          have hx := (List.getElem?_eq_some_iff.1 Hx.out).2
          rw [HG.out, hd, hx, alikeG])
        have HBX := Lib.hid (Bo.new wr 48 #[.slice pb npb cpb, .int .i64 x.value.kind, .string x.value.name, .int .i64 x.value.n, .slice px npx cpx])
        have HXW : Hid (AnsW (wr.alloc (.cells #[.slice pb npb cpb, .int .i64 x.value.kind, .string x.value.name, .int .i64 x.value.n, .slice px npx cpx] 48)) x pb npb cpb px npx cpx) := Lib.hid (AnsW.keep ⟨GB.out, GV.out⟩ (below_new wr (.cells #[.slice pb npb cpb, .int .i64 x.value.kind, .string x.value.name, .int .i64 x.value.n, .slice px npx cpx] 48)))
        have HBA := Lib.hid (HB.out.alloc HB.out.size (.cells #[.slice pb npb cpb, .int .i64 x.value.kind, .string x.value.name, .int .i64 x.value.n, .slice px npx cpx] 48))
        have HOA := Lib.hid (HO.out.alloc (.cells #[.slice pb npb cpb, .int .i64 x.value.kind, .string x.value.name, .int .i64 x.value.n, .slice px npx cpx] 48))
        clear GB GV
        go_wp2_with fail
        generalize hW : wr.alloc (.cells #[.slice pb npb cpb, .int .i64 x.value.kind, .string x.value.name, .int .i64 x.value.n, .slice px npx cpx] 48) = wa at *
        go_loopw [5, 25] (fun v i w2 => ∃ k2 : Nat, k2 ≤ m ∧ i = .int .i64 k2 ∧ v = .slice av m cv ∧ Hid (Below wa.heap.size wa w2) ∧ Hid (∀ j y, j < k2 → left[j]? = some y → sameA x y = false)) (fun _ i _ => m - (intOf i).toNat)
        case atStart => exact ⟨0, Nat.zero_le _, rfl, rfl, Lib.hid (Below.refl _ _), Lib.hid fun j y hj => absurd hj (Nat.not_lt_zero _)⟩
        case round =>
          obtain ⟨k2, hk2, rfl, rfl, HB2, HN2⟩ := hrel
          rename World => w2
          by_cases hlt2 : k2 < m
          · have hltz2 : (k2 : Int) < (m : Int) := by omega
            obtain ⟨g, rfl, hgb, hgl⟩ := HOA.out.ptr (by omega)
            obtain ⟨by', oy, y, qb, nqb, cqb, qx, nqx, cqx, he, hbB2, Hy, y0, y1, y2, y3, y4, GY, GW⟩ := ans_at (MemW.keep HOA.out.memW HB2.out) k2 hlt2
            cases he
            rw [Nat.zero_add] at y0 y1 y2 y3 y4
            have HYF := Lib.hid (HBF.out y (HIN.out y (mem_of_at Hy.out)))
            have HB3 := Lib.hid (HB2.out.alloc HB2.out.size (.cells #[.slice qb nqb cqb, .int .i64 y.value.kind, .string y.value.name, .int .i64 y.value.n, .slice qx nqx cqx] 48))
            have HX3 := Lib.hid (HBX.out.keep HB3.out)
            have HY3 := Lib.hid (Bo.new w2 48 #[.slice qb nqb cqb, .int .i64 y.value.kind, .string y.value.name, .int .i64 y.value.n, .slice qx nqx cqx])
            have HXW3 := Lib.hid (HXW.out.keep HB3.out)
            have HYW3 : Hid (AnsW (w2.alloc (.cells #[.slice qb nqb cqb, .int .i64 y.value.kind, .string y.value.name, .int .i64 y.value.n, .slice qx nqx cqx] 48)) y qb nqb cqb qx nqx cqx) := Lib.hid (AnsW.keep ⟨GY.out, GW.out⟩ (below_new w2 (.cells #[.slice qb nqb cqb, .int .i64 y.value.kind, .string y.value.name, .int .i64 y.value.n, .slice qx nqx cqx] 48)))
            have HO3 := Lib.hid (HOA.out.keep HB3.out)
            have HB30 := Lib.hid (HBA.out.trans (HB3.out.mono HBA.out.size))
            have HC3 := Lib.hid (sameA_any (w2.alloc (.cells #[.slice qb nqb cqb, .int .i64 y.value.kind, .string y.value.name, .int .i64 y.value.n, .slice qx nqx cqx] 48)) HXW3.out HYW3.out HXF.out HYF.out)
            have z0 : (w2.alloc (.cells #[.slice qb nqb cqb, .int .i64 y.value.kind, .string y.value.name, .int .i64 y.value.n, .slice qx nqx cqx] 48)).cell? ⟨wr.heap.size, 0, none⟩ = some (.slice pb npb cpb) := HX3.out.cell (j := 0) rfl
            have z1 : (w2.alloc (.cells #[.slice qb nqb cqb, .int .i64 y.value.kind, .string y.value.name, .int .i64 y.value.n, .slice qx nqx cqx] 48)).cell? ⟨wr.heap.size, 1, none⟩ = some (.int .i64 x.value.kind) := HX3.out.cell (j := 1) rfl
            have z2 : (w2.alloc (.cells #[.slice qb nqb cqb, .int .i64 y.value.kind, .string y.value.name, .int .i64 y.value.n, .slice qx nqx cqx] 48)).cell? ⟨wr.heap.size, 2, none⟩ = some (.string x.value.name) := HX3.out.cell (j := 2) rfl
            have z3 : (w2.alloc (.cells #[.slice qb nqb cqb, .int .i64 y.value.kind, .string y.value.name, .int .i64 y.value.n, .slice qx nqx cqx] 48)).cell? ⟨wr.heap.size, 3, none⟩ = some (.int .i64 x.value.n) := HX3.out.cell (j := 3) rfl
            have z4 : (w2.alloc (.cells #[.slice qb nqb cqb, .int .i64 y.value.kind, .string y.value.name, .int .i64 y.value.n, .slice qx nqx cqx] 48)).cell? ⟨wr.heap.size, 4, none⟩ = some (.slice px npx cpx) := HX3.out.cell (j := 4) rfl
            have u0 : (w2.alloc (.cells #[.slice qb nqb cqb, .int .i64 y.value.kind, .string y.value.name, .int .i64 y.value.n, .slice qx nqx cqx] 48)).cell? ⟨w2.heap.size, 0, none⟩ = some (.slice qb nqb cqb) := HY3.out.cell (j := 0) rfl
            have u1 : (w2.alloc (.cells #[.slice qb nqb cqb, .int .i64 y.value.kind, .string y.value.name, .int .i64 y.value.n, .slice qx nqx cqx] 48)).cell? ⟨w2.heap.size, 1, none⟩ = some (.int .i64 y.value.kind) := HY3.out.cell (j := 1) rfl
            have u2 : (w2.alloc (.cells #[.slice qb nqb cqb, .int .i64 y.value.kind, .string y.value.name, .int .i64 y.value.n, .slice qx nqx cqx] 48)).cell? ⟨w2.heap.size, 2, none⟩ = some (.string y.value.name) := HY3.out.cell (j := 2) rfl
            have u3 : (w2.alloc (.cells #[.slice qb nqb cqb, .int .i64 y.value.kind, .string y.value.name, .int .i64 y.value.n, .slice qx nqx cqx] 48)).cell? ⟨w2.heap.size, 3, none⟩ = some (.int .i64 y.value.n) := HY3.out.cell (j := 3) rfl
            have u4 : (w2.alloc (.cells #[.slice qb nqb cqb, .int .i64 y.value.kind, .string y.value.name, .int .i64 y.value.n, .slice qx nqx cqx] 48)).cell? ⟨w2.heap.size, 4, none⟩ = some (.slice qx nqx cqx) := HY3.out.cell (j := 4) rfl
            clear GY GW
            cases hr : sameA x y with
            | true =>
              have HFD := Lib.hid (find_at (p := fun y => sameA x y) Hy.out hr HN2.out)
              have HG2 : Hid (alikeG la lb = alikeG (la.drop (k + 1)) (left.eraseIdx k2)) := Lib.hid (by rw [HG1.out, HFD.out.1, HFD.out.2]; rfl)
              rw [hr] at HC3
              clear hr
              go_wp2_with fail
              refine HC3.out.mono ?_
              rintro e w4 ⟨rfl, hb⟩
              have HO4 := Lib.hid (HO3.out.keep hb)
              have HB4 := Lib.hid (HB30.out.trans (hb.mono HB30.out.size))
              clear hb z0 z1 z2 z3 z4 u0 u1 u2 u3 u4 y0 y1 y2 y3 y4
              go_wp2_with fail
              refine (deleteA_any HO4.out hlt2).mono ?_
              rintro e w5 ⟨rfl, ho5, hg5⟩
              rw [ansRows_erase] at ho5
              have HO5 := Lib.hid ho5
              have HB5 := Lib.hid (grown_below HB4.out hg5 (Nat.le_refl _) (fun k hk => by cases hk; exact hgb))
              have HIN5 : Hid (∀ y ∈ left.eraseIdx k2, y ∈ lb) := Lib.hid fun y hy => HIN.out y (List.mem_of_mem_eraseIdx hy)
              clear ho5 hg5
              go_wp2
              go_roundw
              case rel => exact ⟨k + 1, left.eraseIdx k2, by omega, by go_num, HB5, HO5, HG2, HIN5⟩
              case measure => simp [intOf]; omega
            | false =>
              have HN3 : Hid (∀ j y, j < k2 + 1 → left[j]? = some y → sameA x y = false) := Lib.hid fun j y' hj hy => by
                by_cases e : j = k2
                · subst e
                  rw [Hy.out] at hy
                  rw [← Option.some.inj hy]; exact hr
                · exact HN2.out j y' (by omega) hy
              rw [hr] at HC3
              clear hr
              go_wp2_with fail
              refine HC3.out.mono ?_
              rintro e w4 ⟨rfl, hb⟩
              have HB4 := Lib.hid (HB3.out.trans (hb.mono HB3.out.size))
              clear hb z0 z1 z2 z3 z4 u0 u1 u2 u3 u4 y0 y1 y2 y3 y4
              go_wp2_with fail
              go_roundw
              case rel => exact ⟨k2 + 1, by omega, by go_num, rfl, HB4, HN3⟩
              case measure => simp [intOf]; omega
          · obtain rfl : k2 = m := by omega
            have hltz2 : ¬ (k2 : Int) < (k2 : Int) := by omega
            have HF : Hid (alikeA la lb = false) := Lib.hid (by rw [HE.out, HG1.out, find_no (p := fun y => sameA x y) (by rw [HLF.out]; exact HN2.out)]; rfl)
            have HBZ := Lib.hid (HBA.out.trans (HB2.out.mono HBA.out.size))
            go_wp2
            try rw [Exit.noGoto_ret]
            go_ret
            exact ⟨ret_bool HF.out.symm, HBZ.out⟩
      · obtain rfl : k = n := by omega
        have hltz : ¬ (k : Int) < (k : Int) := by omega
        have HF : Hid (alikeA la lb = true) := Lib.hid (by rw [HE.out, HG.out, List.drop_eq_nil_of_le (by rw [HLA.out]; exact Nat.le_refl _)]; rfl)
        go_wp2
        try rw [Exit.noGoto_ret]
        go_ret
        exact ⟨ret_bool HF.out.symm, HB.out⟩
  · have HE : Hid (alikeA la lb = false) := Lib.hid (by rw [alikeA, HLA.out, HLB.out, decide_eq_false hnm]; rfl)
    have e1 : ((n : Int) != (m : Int)) = true := by simp; omega
    clear hnm
    go_enter Try.func20, Try.ntmps20
    go_wp2
    go_step3
    go_wp2
    try rw [Exit.noGoto_ret]
    go_ret
    exact ⟨by rw [HE.out]; rfl, Below.refl _ _⟩
end Go.Proofs.Ytmadfkofmehfkaa

/-
  answer.Covered. No condition but how the answers lie, and how great they are.
-/
namespace Go.Proofs.Ytmadfkofmehfkaa
open Go.RowKit Go.Maps

set_option maxRecDepth 100000 in
set_option maxHeartbeats 20000000 in
theorem cov11_any {x y : Ans} {qn : Nat} {pb px qb qx : Option Addr} {npb cpb npx cpx nqb cqb nqx cqx : Nat} (w : World) (hq : Bo w qn 48 #[.slice pb npb cpb, .int .i64 x.value.kind, .string x.value.name, .int .i64 x.value.n, .slice px npx cpx]) (hx : AnsW w x pb npb cpb px npx cpx) (hy : AnsW w y qb nqb cqb qx nqx cqx) (hxf : x.fit) (hyf : y.fit) :
    Calls Try.prog 46 #[.agg #[.slice qb nqb cqb, .int .i64 y.value.kind, .string y.value.name, .int .i64 y.value.n, .slice qx nqx cqx], .pointer (some ⟨qn, 0, none⟩)] w fun e w' => e = .returned (.bool (instA y x)) ∧ Below w.heap.size w w' := by
  have HB := Lib.hid (below_new w (.cells #[.slice qb nqb cqb, .int .i64 y.value.kind, .string y.value.name, .int .i64 y.value.n, .slice qx nqx cqx] 48))
  have HX := Lib.hid (hq.alloc (.cells #[.slice qb nqb cqb, .int .i64 y.value.kind, .string y.value.name, .int .i64 y.value.n, .slice qx nqx cqx] 48))
  have HY := Lib.hid (Bo.new w 48 #[.slice qb nqb cqb, .int .i64 y.value.kind, .string y.value.name, .int .i64 y.value.n, .slice qx nqx cqx])
  have HC := Lib.hid (instA_any (w.alloc (.cells #[.slice qb nqb cqb, .int .i64 y.value.kind, .string y.value.name, .int .i64 y.value.n, .slice qx nqx cqx] 48)) (hy.keep HB.out) (hx.keep HB.out) hyf hxf)
  have x0 : (w.alloc (.cells #[.slice qb nqb cqb, .int .i64 y.value.kind, .string y.value.name, .int .i64 y.value.n, .slice qx nqx cqx] 48)).cell? ⟨qn, 0, none⟩ = some (.slice pb npb cpb) := HX.out.cell (j := 0) rfl
  have x1 : (w.alloc (.cells #[.slice qb nqb cqb, .int .i64 y.value.kind, .string y.value.name, .int .i64 y.value.n, .slice qx nqx cqx] 48)).cell? ⟨qn, 1, none⟩ = some (.int .i64 x.value.kind) := HX.out.cell (j := 1) rfl
  have x2 : (w.alloc (.cells #[.slice qb nqb cqb, .int .i64 y.value.kind, .string y.value.name, .int .i64 y.value.n, .slice qx nqx cqx] 48)).cell? ⟨qn, 2, none⟩ = some (.string x.value.name) := HX.out.cell (j := 2) rfl
  have x3 : (w.alloc (.cells #[.slice qb nqb cqb, .int .i64 y.value.kind, .string y.value.name, .int .i64 y.value.n, .slice qx nqx cqx] 48)).cell? ⟨qn, 3, none⟩ = some (.int .i64 x.value.n) := HX.out.cell (j := 3) rfl
  have x4 : (w.alloc (.cells #[.slice qb nqb cqb, .int .i64 y.value.kind, .string y.value.name, .int .i64 y.value.n, .slice qx nqx cqx] 48)).cell? ⟨qn, 4, none⟩ = some (.slice px npx cpx) := HX.out.cell (j := 4) rfl
  have y0 : (w.alloc (.cells #[.slice qb nqb cqb, .int .i64 y.value.kind, .string y.value.name, .int .i64 y.value.n, .slice qx nqx cqx] 48)).cell? ⟨w.heap.size, 0, none⟩ = some (.slice qb nqb cqb) := HY.out.cell (j := 0) rfl
  have y1 : (w.alloc (.cells #[.slice qb nqb cqb, .int .i64 y.value.kind, .string y.value.name, .int .i64 y.value.n, .slice qx nqx cqx] 48)).cell? ⟨w.heap.size, 1, none⟩ = some (.int .i64 y.value.kind) := HY.out.cell (j := 1) rfl
  have y2 : (w.alloc (.cells #[.slice qb nqb cqb, .int .i64 y.value.kind, .string y.value.name, .int .i64 y.value.n, .slice qx nqx cqx] 48)).cell? ⟨w.heap.size, 2, none⟩ = some (.string y.value.name) := HY.out.cell (j := 2) rfl
  have y3 : (w.alloc (.cells #[.slice qb nqb cqb, .int .i64 y.value.kind, .string y.value.name, .int .i64 y.value.n, .slice qx nqx cqx] 48)).cell? ⟨w.heap.size, 3, none⟩ = some (.int .i64 y.value.n) := HY.out.cell (j := 3) rfl
  have y4 : (w.alloc (.cells #[.slice qb nqb cqb, .int .i64 y.value.kind, .string y.value.name, .int .i64 y.value.n, .slice qx nqx cqx] 48)).cell? ⟨w.heap.size, 4, none⟩ = some (.slice qx nqx cqx) := HY.out.cell (j := 4) rfl
  have hl := hq.lt
  clear hq hx hy hxf hyf
  go_enter Try.func46, Try.ntmps46
  go_wp2_with fail
  refine HC.out.mono ?_
  rintro e w4 ⟨rfl, hb⟩
  have HB4 := Lib.hid (HB.out.trans (hb.mono HB.out.size))
  clear hb
  generalize hr : instA y x = r at *
  have HR := Lib.hid hr
  clear hr
  go_wp2_with fail
  go_ret
  exact ⟨by rw [HR.out]; rfl, HB4.out⟩
theorem enters11 : EntersF 46 := fun _ _ => by kernel_rfl
theorem enters1 : EntersF 45 := fun _ _ => by kernel_rfl
set_option maxRecDepth 100000 in
set_option maxHeartbeats 20000000 in
theorem cov1_any {x : Ans} {l : List Ans} {qn n cap : Nat} {a : Option Addr} {pb px : Option Addr} {npb cpb npx cpx : Nat} (w : World) (hq : w.cell? ⟨qn, 0, none⟩ = some (.slice a n cap)) (hl : MemW w (.s 5 (ansRows l)) (.slice a n cap)) (hx : AnsW w x pb npb cpb px npx cpx) (hxf : x.fit) (hlf : ∀ y ∈ l, y.fit) :
    Calls Try.prog 45 #[.agg #[.slice pb npb cpb, .int .i64 x.value.kind, .string x.value.name, .int .i64 x.value.n, .slice px npx cpx], .pointer (some ⟨qn, 0, none⟩)] w fun e w' => e = .returned (.bool (!(l.any fun y => instA y x))) ∧ Below w.heap.size w w' := by
  have HB := Lib.hid (below_new w (.cells #[.slice pb npb cpb, .int .i64 x.value.kind, .string x.value.name, .int .i64 x.value.n, .slice px npx cpx] 48))
  have HX := Lib.hid (Bo.new w 48 #[.slice pb npb cpb, .int .i64 x.value.kind, .string x.value.name, .int .i64 x.value.n, .slice px npx cpx])
  have HXW := Lib.hid (hx.keep HB.out)
  have HQ := Lib.hid (cell_below hq HB.out)
  have h0 := HQ.out
  have HC := Lib.hid (containsA_any (l := l) (p := fun y => instA y x) (w := w.alloc (.cells #[.slice pb npb cpb, .int .i64 x.value.kind, .string x.value.name, .int .i64 x.value.n, .slice px npx cpx] 48)) (c := .pointer (some ⟨w.heap.size, 0, none⟩)) enters11 (fun w' hb y hy qb nqb cqb qx nqx cqx hyw => cov11_any w' (HX.out.keep hb) (HXW.out.keep hb) hyw hxf (hlf y hy)) (MemW.keep hl HB.out))
  clear hq hx hxf hlf hl
  go_enter Try.func45, Try.ntmps45
  go_wp2_with fail
  refine HC.out.mono ?_
  rintro e w4 ⟨rfl, hb⟩
  have HB4 := Lib.hid (HB.out.trans (hb.mono HB.out.size))
  clear hb
  generalize hr : (l.any fun y => instA y x) = r at *
  have HR := Lib.hid hr
  clear hr
  go_wp2_with fail
  go_ret
  exact ⟨by rw [HR.out]; rfl, HB4.out⟩
/-- Whether each of a list is an instance of one of another list. -/
def coveredA (a b : List Ans) : Bool := !(a.any fun x => !(b.any fun y => instA y x))
set_option maxRecDepth 100000 in
set_option maxHeartbeats 20000000 in
theorem covered_any {la lb : List Ans} {n cap m cb : Nat} {a b : Option Addr} (w : World) (ha : MemW w (.s 5 (ansRows la)) (.slice a n cap)) (hb : MemW w (.s 5 (ansRows lb)) (.slice b m cb)) (haf : ∀ y ∈ la, y.fit) (hbf : ∀ y ∈ lb, y.fit) :
    Calls Try.prog 19 #[.slice a n cap, .slice b m cb] w fun e w' => e = .returned (.bool (coveredA la lb)) ∧ Below w.heap.size w w' := by
  have HB := Lib.hid (below_new w (.cells #[.slice b m cb] 41))
  have HX := Lib.hid (Bo.new w 41 #[.slice b m cb])
  have HBW := Lib.hid (MemW.keep hb HB.out)
  have HC := Lib.hid (containsA_any (l := la) (p := fun x => !(lb.any fun y => instA y x)) (w := w.alloc (.cells #[.slice b m cb] 41)) (c := .pointer (some ⟨w.heap.size, 0, none⟩)) enters1 (fun w' hb' x hx pb npb cpb px npx cpx hxw => cov1_any w' ((HX.out.keep hb').cell (j := 0) rfl) (MemW.keep HBW.out hb') hxw (haf x hx) hbf) (MemW.keep ha HB.out))
  have HE : Hid (coveredA la lb = !(la.any fun x => !(lb.any fun y => instA y x))) := Lib.hid rfl
  clear ha hb haf hbf
  go_enter Try.func19, Try.ntmps19
  go_wp2_with fail
  refine HC.out.mono ?_
  rintro e w4 ⟨rfl, hb⟩
  have HB4 := Lib.hid (HB.out.trans (hb.mono HB.out.size))
  clear hb
  generalize (la.any fun x => !(lb.any fun y => instA y x)) = r at *
  go_wp2_with fail
  go_ret
  exact ⟨by rw [HE.out]; rfl, HB4.out⟩
end Go.Proofs.Ytmadfkofmehfkaa
