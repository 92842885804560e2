/-
  deps.groups: the groups of a graph, by their least nodes. No condition but how the graph lies, and how great it is.
-/
import Derived.Test.YtlhkkkmjoobpcaaReach
import Derived.Test.YtlhkkkmjoobpcaaMarks
import Derived.Test.YtlhkkkmjoobpcaaIndexI
import Derived.Test.YtlhkkkmjoobpcaaCanT
import Derived.Test.YtlhkkkmjoobpcaaFar
namespace Go.Proofs.Ytlhkkkmjoobpcaa
open Go.RowKit

theorem info_sl : (Try.prog.info? 27).map (fun i => (i.zero, i.size, i.bytes)) = some (some (.slice none 0 0), 1, 24) := by kernel_rfl
theorem OwnD.farQ {base q sz : Nat} {e : TypeId} {w w' : World} {y : Value} {rs : List (List At)} (h : OwnD 0 base e sz w y rs) (hf : Far (fun b => b = q) w w') (hq : q < base) : OwnD 0 base e sz w' y rs := by
  obtain ⟨css, ho, hm⟩ := h
  refine ⟨css, ⟨ho.1, ?_⟩, hm.imp fun r cs ⟨hc, hmm⟩ => ⟨hc, hmm.imp fun x y hx => hx.mono (fun b ⟨⟨h3, h4⟩, h5⟩ => ⟨⟨h3, Nat.lt_of_lt_of_le h4 hf.size⟩, h5⟩) fun b ⟨⟨h3, h4⟩, _⟩ => hf.block b h4 (by rcases h3 with h3 | h3 <;> omega)⟩⟩
  rcases ho.2 with h | ⟨g, cap, cur, h1, hb, hgg, rest⟩
  · exact .inl h
  · exact .inr ⟨g, cap, cur, h1, hb, (hf.block g (Array.getElem?_eq_some_iff.1 hgg).1 (by omega)).trans hgg, rest⟩
theorem far_cell {S : Nat → Prop} {w w' : World} (h : Far S w w') {p : Addr} (hp : S p.block) (v : Value) : Far S w (w'.setCell p v) :=
  ⟨h.os, h.tape, h.output, by rw [World.size_setCell]; exact h.size, fun k hk hs => (heap_setCell_other w' p k v (fun e => hs (e ▸ hp))).trans (h.block k hk hs)⟩
theorem far_below {S : Nat → Prop} {w w1 w2 : World} (h : Far S w w1) (hb : Below w1.heap.size w1 w2) : Far S w w2 :=
  ⟨hb.os.trans h.os, hb.tape.trans h.tape, hb.output.trans h.output, Nat.le_trans h.size hb.size, fun k hk hs => (hb.block k (Nat.lt_of_lt_of_le hk h.size)).trans (h.block k hk hs)⟩
theorem far_grown {S : Nat → Prop} {w w1 w2 : World} {r : Option Nat} (h : Far S w w1) (hg : w1.grownBy w2 r) (hr : ∀ k, r = some k → w.heap.size ≤ k) : Far S w w2 :=
  ⟨hg.os.trans h.os, hg.tape.trans h.tape, hg.output.trans h.output, Nat.le_trans h.size hg.size, fun k hk hs => (hg.block k (Nat.lt_of_lt_of_le hk h.size) (fun e => by have := hr k e.symm; omega)).trans (h.block k hk hs)⟩
theorem far_low {B q : Nat} {w w' : World} (h : Far (fun b => b = q) w w') (hq : B ≤ q) (hB : B ≤ w.heap.size) : Below B w w' := (h.mono (T := fun k => B ≤ k) (fun k hk => by omega)).toB hB
theorem OwnD.downQ {B base base' : Nat} {e : TypeId} {sz : Nat} {w : World} {y : Value} {rs : List (List At)} (h : OwnD B base e sz w y rs) (hb : base' ≤ base) : OwnD B base' e sz w y rs := by
  obtain ⟨css, ho, hm⟩ := h
  refine ⟨css, ⟨ho.1, ?_⟩, hm.imp fun r cs' ⟨hc, hm⟩ => ⟨hc, hm.imp fun x y' hx => hx.mono (fun b ⟨⟨h1, h3⟩, h2⟩ => ⟨⟨h1.imp id fun h4 => Nat.le_trans hb h4, h3⟩, h2⟩) fun b _ => rfl⟩⟩
  rcases ho.2 with hn | ⟨g', cap, cur, rfl, hb', rest⟩
  · exact .inl hn
  · exact .inr ⟨g', cap, cur, rfl, Nat.le_trans hb hb', rest⟩
theorem OwnD.cellAt1 {base : Nat} {e : TypeId} {sz : Nat} {w : World} {y : Value} {rs : List (List At)} (h : OwnD 0 base e sz w y rs) (g j : Nat) (v : Value) (h1 : g < base) : OwnD 0 base e sz (w.setCell ⟨g, j, none⟩ v) y rs :=
  h.farQ (q := g) (Far.setCell (S := fun b => b = g) (Far.refl _ w) (p := ⟨g, j, none⟩) rfl v) h1
/-- A slice of numbers, written down to be appended to a row of such. -/
theorem own_sl {B base : Nat} {e e' : TypeId} {w : World} {y v : Value} {rs : List (List At)} {r : List Int} (h : OwnD B base e 1 w y rs) (hs : base ≤ w.heap.size) (hv : Mem (fun b => Nw B base w.heap.size b ∧ y.ownBlock ≠ some b) w (.s 1 (intRows r)) v) :
    Mem (fun b => Nw B base (w.alloc (.cells #[v] e')).heap.size b ∧ y.ownBlock ≠ some b) (w.alloc (.cells #[v] e')) (.s 1 (grRows [r])) (.slice (some ⟨w.heap.size, 0, none⟩) 1 1) :=
  own_row (row := [.s 1 (intRows r)]) rfl h hs (.cons hv .nil)
theorem grRows_app (l m : List (List Int)) : grRows (l ++ m) = grRows l ++ grRows m := by simp [grRows]
/-- Whom each node comes to. -/
def reachP (l : List (List Int)) (k : Nat) : List (List Int) := (List.range k).map fun i : Nat => risingL (marksR l (i : Int))
theorem reachP_succ (l : List (List Int)) (k : Nat) : reachP l (k + 1) = reachP l k ++ [risingL (marksR l (k : Int))] := by
  unfold reachP; rw [List.range_succ, List.map_append]; rfl
theorem reachP_len (l : List (List Int)) (k : Nat) : (reachP l k).length = k := by simp [reachP]
theorem reachP_at {l : List (List Int)} {n k : Nat} (h : k < n) : (reachP l n)[k]? = some (risingL (marksR l (k : Int))) := by
  unfold reachP; rw [List.getElem?_map, List.getElem?_range h]; rfl
/-- Whether two nodes are in one group. -/
def ownG (l : List (List Int)) (i k : Nat) : Bool := decide (k = i) || (decide ((k : Int) ∈ risingL (marksR l (i : Int))) && decide ((i : Int) ∈ risingL (marksR l (k : Int))))
def grpP (l : List (List Int)) (i k : Nat) : List Int := ((List.range k).filter (ownG l i)).map fun j : Nat => (j : Int)
def doneP (l : List (List Int)) (i : Nat) (d : List Bool) (k : Nat) : List Bool := (List.range k).foldl (fun d j => if ownG l i j then d.set j true else d) d
theorem grpP_succ (l : List (List Int)) (i k : Nat) : grpP l i (k + 1) = if ownG l i k then grpP l i k ++ [(k : Int)] else grpP l i k := by
  unfold grpP
  rw [List.range_succ, List.filter_append, List.map_append]
  cases h : ownG l i k with
  | true => simp [h]
  | false => simp [h]
theorem grpP_len (l : List (List Int)) (i k : Nat) : (grpP l i k).length ≤ k := by
  unfold grpP
  rw [List.length_map]
  exact Nat.le_trans (List.length_filter_le ..) (by rw [List.length_range]; exact Nat.le_refl _)
theorem doneP_succ (l : List (List Int)) (i : Nat) (d : List Bool) (k : Nat) : doneP l i d (k + 1) = if ownG l i k then (doneP l i d k).set k true else doneP l i d k := by
  unfold doneP
  rw [List.range_succ, List.foldl_append]; rfl
theorem doneP_len (l : List (List Int)) (i : Nat) (d : List Bool) : ∀ k, (doneP l i d k).length = d.length
  | 0 => rfl
  | k + 1 => by
    rw [doneP_succ]
    split
    · rw [List.length_set]; exact doneP_len l i d k
    · exact doneP_len l i d k
/-- What is done, and the groups, behind the first nodes. -/
def groupsS (l : List (List Int)) : Nat → List Bool × List (List Int)
  | 0 => (List.replicate l.length false, [])
  | k + 1 => if on (groupsS l k).1 k then groupsS l k else (doneP l k (groupsS l k).1 l.length, (groupsS l k).2 ++ [grpP l k l.length])
theorem groupsS_len (l : List (List Int)) : ∀ k, (groupsS l k).1.length = l.length ∧ (groupsS l k).2.length ≤ k
  | 0 => ⟨by rw [groupsS, List.length_replicate], Nat.le_refl _⟩
  | k + 1 => by
    obtain ⟨h1, h2⟩ := groupsS_len l k
    rw [groupsS]
    split
    · exact ⟨h1, by omega⟩
    · exact ⟨by rw [doneP_len]; exact h1, by rw [List.length_append]; simp; omega⟩
set_option maxRecDepth 100000 in
set_option maxHeartbeats 20000000 in
theorem groups_any {l : List (List Int)} {n cap : Nat} {a : Option Addr} (w : World) (h : MemW w (.s 1 (grRows l)) (.slice a n cap)) (hd : ∀ r ∈ l, r.length ≤ 1000) (hn : n ≤ 1000) :
    Calls Try.prog 15 #[.slice a n cap] w fun e w' => ∃ y, e = .returned y ∧ OwnD 0 w.heap.size 27 1 w' y (grRows (groupsS l n).2) ∧ Below w.heap.size w w' := by
  have hl := gr_len h
  have HL := Lib.hid hl.1
  have hcap := hl.2.1
  have hmx := hl.2.2
  have H := Lib.hid h
  have HD := Lib.hid hd
  have HN := Lib.hid hn
  clear hl h hd
  go_enter Try.func15, Try.ntmps15
  go_wp2
  go_loopw [3, 12] (fun v i wr => ∃ k : Nat, k ≤ n ∧ i = .int .i64 k ∧ Hid (Below w.heap.size w wr) ∧ Hid (OwnD 0 w.heap.size 27 1 wr v (grRows (reachP l k)))) (fun _ i _ => n - (intOf i).toNat)
  case atStart => exact ⟨0, Nat.zero_le _, rfl, Lib.hid (Below.refl _ _), Lib.hid (OwnD.nil _ _ _ _ _)⟩
  case round =>
    obtain ⟨k, hk, rfl, HB, HO⟩ := hrel
    by_cases hlt : k < n
    · have hltz : (k : Int) < (n : Int) := by omega
      have HRS := Lib.hid (reachP_succ l k)
      have HRL := Lib.hid (reachP_len l k)
      have hs := HB.out.size
      obtain ⟨a3, c3, rfl, hc3, hm3⟩ := HO.out.form
      have hol := HO.out.lt
      generalize (grRows (reachP l k)).length = rl at *
      go_wp2_with (first
        | (go_at_call 12
           refine (reach_any (k : Int) wr (MemW.keep H.out HB.out) HD.out HN.out).mono ?_
           rintro e w2 ⟨y2, rfl, ho2, hb2⟩
           obtain ⟨a2, c2, rfl, _, _⟩ := ho2.form
           have HO2 := Lib.hid (HO.out.keep hb2)
           have HB2 := Lib.hid (Below.to HB.out hb2)
           have hs2 := HB2.out.size
           have hs3 := hb2.size
           have HM2 := Lib.hid (ho2.mem.mono (S' := fun b => Nw 0 w.heap.size w2.heap.size b ∧ (Value.slice a3 rl c3).ownBlock ≠ some b) (w' := w2) (fun b hb => ⟨⟨.inr (by rcases hb.1 with h | h <;> omega), hb.2⟩, fun e => by have := (hol b e).2; rcases hb.1 with h | h <;> omega⟩) fun _ _ => rfl)
           clear ho2 hb2
           generalize (intRows (risingL (marksR l (k : Int)))).length = m2 at *)
        | (at_builtin
           refine wpList_append_D2 rfl _ _ rfl Try.underlying22 info_sl rfl (by decide) rfl rfl (HO2.out.alloc _) (own_sl HO2.out hs2 HM2.out) (by have := HRL.out; have := HN.out; simp only [grRows_len, List.length_cons, List.length_nil]; omega) (by have := HRL.out; have := HN.out; simp only [grRows_len, List.length_cons, List.length_nil]; omega) (by rw [World.size_alloc]; omega) ?_
           intro v' w6 ho hg _
           have HO6 := Lib.hid ho
           have HB6 := Lib.hid (grown_below (HB2.out.alloc hs2 _) hg (Nat.le_refl _) (fun k hk => (HO2.out.lt k hk).1))
           clear ho hg))
      go_roundw
      case rel => exact ⟨k + 1, by omega, by go_num, HB6, Lib.hid (by rw [HRS.out, grRows_app]; exact HO6.out)⟩
      case measure => simp [intOf]; omega
    · obtain rfl : n = k := by omega
      have hltz : ¬ (n : Int) < (n : Int) := by omega
      obtain ⟨a3, c3, rfl, hc3, hm3⟩ := HO.out.form
      rw [grRows_len, reachP_len] at HO hc3 ⊢
      have HRM := Lib.hid HO.out.memW
      have hws := HB.out.size
      clear HO
      have hmk := run_madeB n (by omega)
      have HD0 := Lib.hid (Bo.new wr 4 (boolCells (List.replicate n false)))
      have HW1 := Lib.hid (below_new wr (.cells (boolCells (List.replicate n false)) 4))
      have HSZ : Hid ((wr.alloc (.cells (boolCells (List.replicate n false)) 4)).heap.size = wr.heap.size + 1) := Lib.hid (World.size_alloc _ _)
      have HLG := Lib.hid (groupsS_len l)
      have HG0 : Hid (groupsS l 0 = (List.replicate n false, [])) := Lib.hid (by rw [groupsS, HL.out])
      go_wp2
      clear hmk
      generalize hgd : wr.heap.size = gD at *
      have HGD := Lib.hid hgd
      generalize wr.alloc (.cells (boolCells (List.replicate n false)) 4) = wq at *
      go_loopw [5, 27] (fun v i w3 => ∃ k : Nat, k ≤ n ∧ i = .int .i64 k ∧ Hid (Far (fun b => b = gD) wq w3) ∧ Hid (BoB w3 gD (groupsS l k).1) ∧ Hid (OwnD 0 (gD + 1) 27 1 w3 v (grRows (groupsS l k).2))) (fun _ i _ => n - (intOf i).toNat)
      case atStart => exact ⟨0, Nat.zero_le _, rfl, Lib.hid (Far.refl _ _), Lib.hid (by rw [HG0.out]; exact HD0.out), Lib.hid (by rw [HG0.out]; exact OwnD.nil _ _ _ _ _)⟩
      case round =>
        obtain ⟨k, hk, rfl, HF, HM, HO⟩ := hrel
        rename World => w3
        by_cases hlt : k < n
        · have hltz : (k : Int) < (n : Int) := by omega
          have HGS : Hid (groupsS l (k + 1) = if on (groupsS l k).1 k then groupsS l k else (doneP l k (groupsS l k).1 n, (groupsS l k).2 ++ [grpP l k n])) := Lib.hid (by rw [groupsS, HL.out])
          have HLk := Lib.hid (HLG.out k)
          rw [HL.out] at HLk
          have c0 := HM.out.at (k := k) (by have := HLk.out.1; omega)
          have hq3 := Bo.lt HM.out
          cases hon : on (groupsS l k).1 k with
          | true =>
            rw [hon, if_pos rfl] at HGS
            rw [hon] at c0
            clear hon
            go_wp2
            go_roundw
            case rel => exact ⟨k + 1, by omega, by go_num, HF, Lib.hid (by rw [HGS.out]; exact HM.out), Lib.hid (by rw [HGS.out]; exact HO.out)⟩
            case measure => simp [intOf]; omega
          | false =>
            rw [hon, if_neg (by simp)] at HGS
            rw [hon] at c0
            clear hon
            obtain ⟨a5, c5, rfl, hc5, hm5⟩ := HO.out.form
            generalize hgs : groupsS l k = gs at *
            obtain ⟨d, gs⟩ := gs
            clear hgs
            simp only at HGS HM HO HLk c0 hc5
            generalize hrl : (grRows gs).length = rl at *
            have HRL := Lib.hid (show gs.length = rl by rw [← hrl, grRows_len])
            clear hrl
            go_wp2
            go_loopw [8, 36] (fun v i w4 => ∃ j : Nat, j ≤ n ∧ i = .int .i64 j ∧ Hid (Far (fun b => b = gD) w3 w4) ∧ Hid (BoB w4 gD (doneP l k d j)) ∧ Hid (OwnD 0 w3.heap.size 3 1 w4 v (intRows (grpP l k j)))) (fun _ i _ => n - (intOf i).toNat)
            case atStart => exact ⟨0, Nat.zero_le _, rfl, Lib.hid (Far.refl _ _), HM, Lib.hid (OwnD.nil _ _ _ _ _)⟩
            case round =>
              obtain ⟨j, hj, rfl, HF4, HM4, HO4⟩ := hrel
              rename World => w4
              have HFr : Hid (Far (fun b => b = gD) wr w4) := Lib.hid ((Far.of (by rw [HGD.out]; exact HW1.out)).trans (HF.out.trans HF4.out))
              have HR4 : Hid (MemW w4 (.s 1 (grRows (reachP l n))) (.slice a3 n c3)) := Lib.hid (HRM.out.mono (fun b hb => Nat.lt_of_lt_of_le hb HFr.out.size) fun b hb => HFr.out.block b hb (fun e => by have := HGD.out; omega))
              by_cases hlj : j < n
              · have hljz : (j : Int) < (n : Int) := by omega
                have HGP := Lib.hid (grpP_succ l k j)
                have HDP := Lib.hid (doneP_succ l k d j)
                have HLN := Lib.hid (grpP_len l k j)
                have c4 := HM4.out.at (k := j) (by rw [doneP_len]; have := HLk.out.1; omega)
                have hq4 := Bo.lt HM4.out
                have hs4 := HF4.out.size
                obtain ⟨a8, c8, rfl, hc8, hm8⟩ := HO4.out.form
                generalize hr8 : (intRows (grpP l k j)).length = r8 at *
                clear hr8
                obtain ⟨b1, o1, r1, a1, n1, c1, he1, hb1, Hr1, x0, G1⟩ := gr_at HR4.out k hlt
                obtain ⟨b2, o2, r2, a2, n2, c2, he2, hb2, Hr2, y0, G2⟩ := gr_at HR4.out j hlj
                rw [he1] at he2
                cases he2
                subst he1
                have hr1 := Hr1.out
                rw [reachP_at hlt] at hr1
                obtain rfl := Option.some.inj hr1
                have hr2 := Hr2.out
                rw [reachP_at hlj] at hr2
                obtain rfl := Option.some.inj hr2
                clear hr1 hr2
                by_cases hjk : j = k
                · have e1 : ((j : Int) == (k : Int)) = true := by rw [beq_iff_eq]; omega
                  have hown : ownG l k j = true := by rw [ownG, decide_eq_true hjk]; rfl
                  rw [hown, if_pos rfl] at HGP HDP
                  clear hown hjk
                  go_wp2_with (first
                    | (at_builtin
                       refine wpList_append_D2 rfl _ _ rfl Try.underlying27 info_intG rfl (by decide) rfl rfl (HO4.out.alloc _) (own_int (j : Int) _ rfl HO4.out hs4) (by have := HLN.out; simp only [intRows_len, List.length_cons, List.length_nil]; omega) (by have := HLN.out; simp only [intRows_len, List.length_cons, List.length_nil]; omega) (by rw [World.size_alloc]; omega) ?_
                       intro v6 w6 ho hg _
                       have hlt8 := HO4.out.lt
                       have HO6 := Lib.hid ho
                       have HM6 : Hid (BoB w6 gD (doneP l k d j)) := Lib.hid (Bo.grown (Bo.alloc HM4.out _) hg (fun q hq => by have := (hlt8 q hq).1; omega))
                       have HF6 := Lib.hid (far_grown (far_below HF4.out (below_new w4 _)) hg (fun q hq => (hlt8 q hq).1))
                       have c6 := HM6.out.at (k := j) (by rw [doneP_len]; have := HLk.out.1; omega)
                       have hfr := Bo.frozen HM6.out j
                       have hq6 := Bo.lt HM6.out
                       clear ho hg hlt8))
                  go_roundw
                  case rel => exact ⟨j + 1, by omega, by go_num, Lib.hid (HF6.out.setCell rfl _), Lib.hid (by rw [HDP.out]; exact HM6.out.put j), Lib.hid (by rw [HGP.out, intRows_app]; exact HO6.out.cellAt1 gD j (.bool true) (by omega))⟩
                  case measure => simp [intOf]; omega
                · have e1 : ((j : Int) == (k : Int)) = false := by rw [beq_eq_false_iff_ne]; omega
                  have hown : ownG l k j = (decide ((j : Int) ∈ risingL (marksR l (k : Int))) && decide ((k : Int) ∈ risingL (marksR l (j : Int)))) := by rw [ownG, decide_eq_false hjk]; rfl
                  have C1 := Lib.hid (contains_int_any (j : Int) w4 G1.out)
                  have C2 := Lib.hid (contains_int_any (k : Int) w4 G2.out)
                  have tk0 : True := trivial
                  have tk1 : True := trivial
                  cases m1 : decide ((j : Int) ∈ risingL (marksR l (k : Int))) with
                  | true =>
                    rw [m1] at hown C1
                    cases m2 : decide ((k : Int) ∈ risingL (marksR l (j : Int))) with
                    | true =>
                      rw [m2] at hown C2
                      rw [hown, if_pos (by rfl)] at HGP HDP
                      clear hown hjk m1 m2
                      go_wp2_with (first
                        | (go_at_call 18
                           have _t := tk0
                           clear _t tk0
                           refine (C1.out).mono ?_
                           rintro e w5 ⟨rfl, rfl⟩)
                        | (go_at_call 18
                           have _t := tk1
                           clear _t tk1
                           refine (C2.out).mono ?_
                           rintro e w5 ⟨rfl, rfl⟩)
                        | (at_builtin
                           refine wpList_append_D2 rfl _ _ rfl Try.underlying27 info_intG rfl (by decide) rfl rfl (HO4.out.alloc _) (own_int (j : Int) _ rfl HO4.out hs4) (by have := HLN.out; simp only [intRows_len, List.length_cons, List.length_nil]; omega) (by have := HLN.out; simp only [intRows_len, List.length_cons, List.length_nil]; omega) (by rw [World.size_alloc]; omega) ?_
                           intro v6 w6 ho hg _
                           have hlt8 := HO4.out.lt
                           have HO6 := Lib.hid ho
                           have HM6 : Hid (BoB w6 gD (doneP l k d j)) := Lib.hid (Bo.grown (Bo.alloc HM4.out _) hg (fun q hq => by have := (hlt8 q hq).1; omega))
                           have HF6 := Lib.hid (far_grown (far_below HF4.out (below_new w4 _)) hg (fun q hq => (hlt8 q hq).1))
                           have c6 := HM6.out.at (k := j) (by rw [doneP_len]; have := HLk.out.1; omega)
                           have hfr := Bo.frozen HM6.out j
                           have hq6 := Bo.lt HM6.out
                           clear ho hg hlt8))
                      go_roundw
                      case rel => exact ⟨j + 1, by omega, by go_num, Lib.hid (HF6.out.setCell rfl _), Lib.hid (by rw [HDP.out]; exact HM6.out.put j), Lib.hid (by rw [HGP.out, intRows_app]; exact HO6.out.cellAt1 gD j (.bool true) (by omega))⟩
                      case measure => simp [intOf]; omega
                    | false =>
                      rw [m2] at hown C2
                      rw [hown, if_neg (by simp)] at HGP HDP
                      clear hown hjk m1 m2
                      go_wp2_with (first
                        | (go_at_call 18
                           have _t := tk0
                           clear _t tk0
                           refine (C1.out).mono ?_
                           rintro e w5 ⟨rfl, rfl⟩)
                        | (go_at_call 18
                           have _t := tk1
                           clear _t tk1
                           refine (C2.out).mono ?_
                           rintro e w5 ⟨rfl, rfl⟩))
                      go_roundw
                      case rel => exact ⟨j + 1, by omega, by go_num, HF4, Lib.hid (by rw [HDP.out]; exact HM4.out), Lib.hid (by rw [HGP.out]; exact HO4.out)⟩
                      case measure => simp [intOf]; omega
                  | false =>
                    rw [m1] at hown C1
                    rw [hown, if_neg (by simp)] at HGP HDP
                    clear hown hjk m1
                    go_wp2_with (first
                      | (go_at_call 18
                         have _t := tk0
                         clear _t tk0
                         refine (C1.out).mono ?_
                         rintro e w5 ⟨rfl, rfl⟩))
                    go_roundw
                    case rel => exact ⟨j + 1, by omega, by go_num, HF4, Lib.hid (by rw [HDP.out]; exact HM4.out), Lib.hid (by rw [HGP.out]; exact HO4.out)⟩
                    case measure => simp [intOf]; omega
              · obtain rfl : n = j := by omega
                have hljz : ¬ (n : Int) < (n : Int) := by omega
                obtain ⟨a8, c8, rfl, hc8, hm8⟩ := HO4.out.form
                have HO5 := Lib.hid (HO.out.farQ HF4.out (by omega))
                have hs4 := HF4.out.size
                have hol := HO.out.lt
                have HM8 := Lib.hid (HO4.out.mem.mono (S' := fun b => Nw 0 (gD + 1) w4.heap.size b ∧ (Value.slice a5 rl c5).ownBlock ≠ some b) (w' := w4) (fun b hb => ⟨⟨.inr (by rcases hb.1 with h | h <;> omega), hb.2⟩, fun e => by have := (hol b e).2; rcases hb.1 with h | h <;> omega⟩) fun _ _ => rfl)
                generalize hr8 : (intRows (grpP l k n)).length = r8 at *
                clear hr8
                have hs5 : gD + 1 ≤ w4.heap.size := by omega
                have HLr := Lib.hid (show gs.length ≤ n by have := HLk.out.2; omega)
                go_wp2_with (first
                  | (at_builtin
                     refine wpList_append_D2 rfl _ _ rfl Try.underlying22 info_sl rfl (by decide) rfl rfl (HO5.out.alloc _) (own_sl HO5.out hs5 HM8.out) (by have := HLr.out; simp only [grRows_len, List.length_cons, List.length_nil]; omega) (by have := HLr.out; simp only [grRows_len, List.length_cons, List.length_nil]; omega) (by rw [World.size_alloc]; omega) ?_
                     intro v6 w6 ho hg _
                     have hlt5 := HO5.out.lt
                     have HO6 := Lib.hid ho
                     have HM6 : Hid (BoB w6 gD (doneP l k d n)) := Lib.hid (Bo.grown (Bo.alloc HM4.out _) hg (fun q hq => by have := (hlt5 q hq).1; omega))
                     have HF6 : Hid (Far (fun b => b = gD) wq w6) := Lib.hid (far_grown (far_below (HF.out.trans HF4.out) (below_new w4 _)) hg (fun q hq => by have := (hlt5 q hq).1; have := HSZ.out; omega))
                     clear ho hg hlt5))
                go_roundw
                case rel => exact ⟨k + 1, by omega, by go_num, HF6, Lib.hid (by rw [HGS.out]; exact HM6.out), Lib.hid (by rw [HGS.out, grRows_app]; exact HO6.out)⟩
                case measure => simp [intOf]; omega
        · obtain rfl : n = k := by omega
          have hltz : ¬ (n : Int) < (n : Int) := by omega
          go_wp2
          go_ret
          exact ⟨_, rfl, HO.out.downQ (by omega), (HB.out.trans (HW1.out.mono hws)).trans (far_low HF.out (by omega) (by have := HSZ.out; omega))⟩
end Go.Proofs.Ytlhkkkmjoobpcaa
