/-
  gen.rule, walked: a rule is the text of its draws. No condition but sizes.
-/
import Derived.Test.YtppejoccljfblaaGen1
import Derived.Laws.EntriesVeiled
namespace Go.Proofs.Ytppejoccljfblaa
open Go.RowKit
attribute [local go_sem] conv_one

/-- The variables' names. -/
def varN (j : Nat) : ByteArray := ⟨[UInt8.ofNat ((120 : Int) + (j : Int)).toNat].toArray⟩
/-- A rule's left side: the text, the variables, the seed. -/
def ruleV (t0 : ByteArray) (s0 : Int) : Nat → ByteArray × List ByteArray × Int
  | 0 => (t0, [], s0)
  | i + 1 => if dr (ruleV t0 s0 i).2.2 3 = 0 then ((ruleV t0 s0 i).1 ++ ⟨#[32, 90]⟩, (ruleV t0 s0 i).2.1, nxt (ruleV t0 s0 i).2.2)
      else if dr (ruleV t0 s0 i).2.2 3 = 1 then ((ruleV t0 s0 i).1 ++ (⟨#[32, 40, 83, 32]⟩ ++ varN i ++ ⟨#[41]⟩), (ruleV t0 s0 i).2.1 ++ [varN i], nxt (ruleV t0 s0 i).2.2)
      else ((ruleV t0 s0 i).1 ++ (⟨#[32]⟩ ++ varN i), (ruleV t0 s0 i).2.1 ++ [varN i], nxt (ruleV t0 s0 i).2.2)
theorem varN_size (j : Nat) : (varN j).size = 1 := rfl
theorem ruleV_ok (t0 : ByteArray) (s0 : Int) : ∀ i, (ruleV t0 s0 i).1.size ≤ t0.size + 6 * i ∧ (ruleV t0 s0 i).2.1.length ≤ i ∧ ∀ v ∈ (ruleV t0 s0 i).2.1, v.size ≤ 1
  | 0 => ⟨Nat.le_refl _, by rw [ruleV]; exact Nat.le_refl _, by rw [ruleV]; exact fun _ h => by cases h⟩
  | i + 1 => by
    obtain ⟨h1, h2, h3⟩ := ruleV_ok t0 s0 i
    have h4 : ∀ v ∈ (ruleV t0 s0 i).2.1 ++ [varN i], v.size ≤ 1 := fun v hv => by
      rcases List.mem_append.1 hv with hv | hv
      · exact h3 v hv
      · rw [List.mem_singleton.1 hv, varN_size]; exact Nat.le_refl _
    rw [ruleV]
    split
    · refine ⟨?_, by simp only; omega, h3⟩
      simp only [ByteArray.size_append]
      show _ + 2 ≤ _; omega
    · split
      · refine ⟨?_, by simp only [List.length_append, List.length_cons, List.length_nil]; omega, h4⟩
        simp only [ByteArray.size_append, varN_size]
        show _ + (4 + 1 + 1) ≤ _; omega
      · refine ⟨?_, by simp only [List.length_append, List.length_cons, List.length_nil]; omega, h4⟩
        simp only [ByteArray.size_append, varN_size]
        show _ + (1 + 1) ≤ _; omega
/-- A rule. -/
def ruleQ (k d : Nat) (s : Int) : ByteArray × Int :=
  ((ruleV (nameS k) s (1 + k % 2)).1 ++ ⟨#[32, 61, 32]⟩ ++ (exprQ (ruleV (nameS k) s (1 + k % 2)).2.1 k d (ruleV (nameS k) s (1 + k % 2)).2.2).1, (exprQ (ruleV (nameS k) s (1 + k % 2)).2.1 k d (ruleV (nameS k) s (1 + k % 2)).2.2).2)
theorem ruleQ_size {k d : Nat} (hk : k ≤ 1000) (hd : d ≤ 4) (s : Int) : (ruleQ k d s).1.size ≤ 660 := by
  unfold ruleQ
  simp only [ByteArray.size_append]
  obtain ⟨h1, h2, h3⟩ := ruleV_ok (nameS k) s (1 + k % 2)
  have h4 := nameS_size (k := k) (by omega)
  have h5 := exprQ_size h3 hk d (ruleV (nameS k) s (1 + k % 2)).2.2
  have h6 := exS_le hd
  show _ + 3 + _ ≤ _
  omega
theorem strRows_app (l m : List ByteArray) : strRows (l ++ m) = strRows l ++ strRows m := by simp [strRows]
theorem info_str1 : (Try.prog.info? 9).map (fun i => (i.zero, i.size, i.bytes)) = some (some (.string .empty), 1, 16) := by kernel_rfl
/-- One text, written down to be appended. -/
theorem own_str {B base : Nat} {e e' : TypeId} {w : World} {y : Value} {rs : List (List At)} (x : ByteArray) (h : OwnD B base e 1 w y rs) (hs : base ≤ w.heap.size) :
    Mem (fun b => Nw B base (w.alloc (.cells #[.string x] e')).heap.size b ∧ y.ownBlock ≠ some b) (w.alloc (.cells #[.string x] e')) (.s 1 (strRows [x])) (.slice (some ⟨w.heap.size, 0, none⟩) 1 1) := by
  have hb := Bo.new w e' #[.string x]
  refine .s w.heap.size 0 1 1 1 _ (fun _ _ => .string x) rfl (Nat.le_refl _) (by decide) ⟨⟨.inr hs, by rw [World.size_alloc]; omega⟩, fun e => by have := h.lt _ e; omega⟩ (fun i hi => ?_) (fun i j hi hj => ?_) (fun i j hi hj => ?_)
  · obtain rfl : i = 0 := by simpa [strRows] using hi
    rfl
  · obtain rfl : i = 0 := by omega
    obtain rfl : j = 0 := by omega
    exact hb.cell rfl
  · obtain rfl : i = 0 := by simpa [strRows] using hi
    have hj0 : j = 0 := by have : j < 1 := hj; omega
    subst hj0
    exact .v _ rfl
theorem OwnD.cellFar {B base : Nat} {e : TypeId} {sz : Nat} {w : World} {y : Value} {rs : List (List At)} (h : OwnD B base e sz w y rs) (g o : Nat) (v : Value) (h1 : g < base) (h2 : B ≤ g) : OwnD B base e sz (w.setCell ⟨g, o, none⟩ v) y rs := by
  obtain ⟨css, ho, hm⟩ := h
  have hs : (w.setCell ⟨g, o, none⟩ v).heap.size = w.heap.size := by simp [World.setCell]
  refine ⟨css, ⟨ho.1, ?_⟩, hm.imp fun r cs' ⟨hc, hm⟩ => ⟨hc, hm.imp fun x y' hx => hx.mono (fun b ⟨⟨h1, h3⟩, h2⟩ => ⟨⟨h1, by rw [hs]; exact h3⟩, h2⟩) fun b ⟨⟨h3, _⟩, _⟩ => heap_setCell_other w ⟨g, o, none⟩ b v (by show b ≠ g; rcases h3 with h3 | h3 <;> omega)⟩⟩
  rcases ho.2 with hn | ⟨g', cap, cur, rfl, hb, hgg, rest⟩
  · exact .inl hn
  · exact .inr ⟨g', cap, cur, rfl, hb, (heap_setCell_other w ⟨g, o, none⟩ g' v (by show g' ≠ g; omega)).trans hgg, rest⟩
theorem Bo.set1 {w : World} {q : Nat} {t : TypeId} {c0 c1 c2 v : Value} (h : Bo w q t #[c0, c1, c2]) : Bo (w.setCell ⟨q, 1, none⟩ v) q t #[c0, v, c2] := h.set 1 v
theorem Sd.far {t q g o : Nat} {s : Int} {w : World} (h : Sd t q s w) (v : Value) (hg : q ≠ g) : Sd t q s (w.setCell ⟨g, o, none⟩ v) := ⟨h.1.far o v hg, h.2⟩
theorem Sd.same {t q : Nat} {s : Int} {w w' : World} (h : Sd t q s w) (hb : w'.heap[q]? = w.heap[q]?) : Sd t q s w' := ⟨hb.trans h.1, h.2⟩

theorem cellFar_new {S : Nat → Prop} {w w' : World} {o : Nat} {v : Value} (_ : w.heap.size ≤ w'.heap.size) : Far S w w' → Far S w (w'.setCell ⟨w.heap.size, o, none⟩ v) := fun h => ⟨h.os, h.tape, h.output, by have := h.size; simpa [World.setCell] using this, fun b hb hs => (heap_setCell_other w' ⟨w.heap.size, o, none⟩ b v (by show b ≠ w.heap.size; omega)).trans (h.block b hb hs)⟩
theorem OwnD.farO {base q sz : Nat} {e : TypeId} {w w' : World} {y : Value} {rs : List (List At)} (h : OwnD 0 base e sz w y rs) (hf : Far (fun b => b = q) w w') (hq : q < base) : OwnD 0 base e sz w' y rs := by
  obtain ⟨css, ho, hm⟩ := h
  refine ⟨css, ⟨ho.1, ?_⟩, hm.imp fun r cs' ⟨hc, hm⟩ => ⟨hc, hm.imp fun x y' hx => hx.mono (fun b ⟨⟨h1, h3⟩, h2⟩ => ⟨⟨h1, Nat.lt_of_lt_of_le h3 hf.size⟩, h2⟩) fun b ⟨⟨h3, h4⟩, _⟩ => hf.block b h4 (by rcases h3 with h3 | h3 <;> omega)⟩⟩
  rcases ho.2 with hn | ⟨g', cap, cur, rfl, hb, hgg, rest⟩
  · exact .inl hn
  · exact .inr ⟨g', cap, cur, rfl, hb, (hf.block g' (Array.getElem?_eq_some_iff.1 hgg).1 (by omega)).trans hgg, rest⟩

set_option maxRecDepth 100000 in
set_option maxHeartbeats 20000000 in
theorem rule_any {k d q : Nat} (hk : k ≤ 1000) (hd : d ≤ 4) {s : Int} (w : World) (hS : Sd 53 q s w) :
    Calls Try.prog 86 #[.func (.func 137) #[] #[.pointer (some ⟨q, 0, none⟩)], .int .i64 k, .int .i64 d] w fun e w' => e = .returned (.string (ruleQ k d s).1) ∧ Far (fun b => b = q) w w' ∧ Sd 53 q (ruleQ k d s).2 w' := by
  have HRQ : Hid (ruleQ k d s = _) := Lib.hid (by rw [ruleQ])
  have hkl : k ≤ 1099511627776 := by omega
  have HBX := Lib.hid (Bo.new w 133 #[.func (.func 137) #[] #[.pointer (some ⟨q, 0, none⟩)], .slice none 0 0, .int .i64 k])
  have HF0 : Hid (Far (fun b => b = q) w (w.alloc (.cells #[.func (.func 137) #[] #[.pointer (some ⟨q, 0, none⟩)], .slice none 0 0, .int .i64 k] 133))) := Lib.hid (Far.of (below_new w _))
  have HS0 := Lib.hid (hS.new (.cells #[.func (.func 137) #[] #[.pointer (some ⟨q, 0, none⟩)], .slice none 0 0, .int .i64 k] 133))
  have HQ : Hid (w.heap.size ≠ q ∧ q < w.heap.size) := Lib.hid (by have := hS.lt; omega)
  clear hS
  go_enter Try.func86, Try.ntmps86
  go_wp2_with fail
  refine (gname_any hkl _).mono ?_
  rintro e w1 ⟨rfl, hb1⟩
  have HBX1 := Lib.hid (HBX.out.keep hb1)
  have HF1 := Lib.hid (HF0.out.trans (Far.of hb1))
  have HS1 := Lib.hid (HS0.out.keep hb1)
  have HZ1 : Hid (w.heap.size + 1 ≤ w1.heap.size) := Lib.hid (by have := hb1.size; rw [World.size_alloc] at this; exact this)
  clear hb1 HBX HF0 HS0
  obtain ⟨m, hm⟩ : ∃ m, 1 + k % 2 = m := ⟨_, rfl⟩
  have hm2 : m ≤ 2 := by omega
  have hnm := nameS_size hkl
  obtain ⟨t0, ht0⟩ : ∃ t, nameS k = t := ⟨_, rfl⟩
  rw [hm, ht0] at HRQ
  rw [ht0] at hnm ⊢
  have HM := Lib.hid hm
  clear hm ht0
  go_wp2_with (first | (go_at_call 31 ; refine (arity_any hkl _).mono ?_; rintro e w' ⟨rfl, rfl⟩; rw [HM.out]))
  go_loopw [8, 9, 10, 18] (fun v8 _ _ vi wr => ∃ (j : Nat) (y : Value), vi = .int .i64 j ∧ j ≤ m ∧ v8 = .string (ruleV t0 s j).1 ∧ Hid (Far (fun b => b = q) w wr) ∧ Hid (Sd 53 q (ruleV t0 s j).2.2 wr) ∧ Hid (Bo wr w.heap.size 133 #[.func (.func 137) #[] #[.pointer (some ⟨q, 0, none⟩)], y, .int .i64 k]) ∧ Hid (OwnD 0 (w.heap.size + 1) 9 1 wr y (strRows (ruleV t0 s j).2.1)) ∧ Hid (w.heap.size + 1 ≤ wr.heap.size)) (fun _ _ _ vi _ => m - (intOf vi).toNat)
  case atStart => exact ⟨0, .slice none 0 0, rfl, Nat.zero_le _, rfl, HF1, HS1, HBX1, Lib.hid (OwnD.nil _ _ _ _ _), HZ1⟩
  case round =>
    obtain ⟨j, y, rfl, hj, rfl, HF, HS, HB, HO, HZ⟩ := hrel
    obtain ⟨ya, yc, rfl, hyn, hyc⟩ := HO.out.form
    by_cases hlt : j < m
    · have hltz : (j : Int) < (m : Int) := by omega
      have HN : Hid (ruleV t0 s (j + 1) = _) := Lib.hid (by rw [ruleV])
      obtain ⟨q1, q2, q3⟩ := ruleV_ok t0 s j
      have h8 : IntKind.u8.wrap ((120 : Int) + (j : Int)) = (120 : Int) + (j : Int) := by rw [IntKind.wrap_u8]; omega
      have hrl := dr_lt (ruleV t0 s j).2.2 (n := 3) (by decide)
      obtain ⟨P1, hP1⟩ : ∃ p, (ruleV t0 s j).1 = p := ⟨_, rfl⟩
      obtain ⟨P2, hP2⟩ : ∃ p, (ruleV t0 s j).2.1 = p := ⟨_, rfl⟩
      obtain ⟨P3, hP3⟩ : ∃ p, (ruleV t0 s j).2.2 = p := ⟨_, rfl⟩
      rw [hP1, hP2, hP3] at HN
      rw [hP1] at q1 ⊢
      rw [strRows_len] at HO HB hyn
      rw [hP2] at q2 HO HB hyn
      rw [hP3] at HS hrl
      clear q3 hP1 hP2 hP3
      obtain ⟨nl, hnl⟩ : ∃ nl, P2.length = nl := ⟨_, rfl⟩
      rw [hnl] at HO HB hyn q2
      have HNL := Lib.hid hnl
      clear hnl
      have hv1 : (varN j).size = 1 := varN_size j
      have HVN : Hid ((⟨[UInt8.ofNat ((120 : Int) + (j : Int)).toNat].toArray⟩ : ByteArray) = varN j) := Lib.hid rfl
      have hconv := conv_one wr ((120 : Int) + (j : Int))
      rw [HVN.out] at hconv
      have HWA : Hid (Far (fun b => b = q) w (wr.alloc (.cells #[.int .u8 ((120 : Int) + (j : Int))] 5))) := Lib.hid (HF.out.trans (Far.of (below_new wr _)))
      have HSA := Lib.hid (HS.out.new (.cells #[.int .u8 ((120 : Int) + (j : Int))] 5))
      have HBA := Lib.hid (HB.out.alloc (.cells #[.int .u8 ((120 : Int) + (j : Int))] 5))
      have HOA := Lib.hid (HO.out.alloc (.cells #[.int .u8 ((120 : Int) + (j : Int))] 5))
      have HZA : Hid (w.heap.size + 1 ≤ (wr.alloc (.cells #[.int .u8 ((120 : Int) + (j : Int))] 5)).heap.size) := Lib.hid (Nat.le_trans HZ.out (below_new wr _).size)
      generalize hvj : varN j = vj at *
      by_cases r0 : dr P3 3 = 0
      · rw [if_pos r0] at HN
        have HR := Lib.hid r0
        clear r0 hrl
        go_wp2_with fail
        refine (draw_any (n := 3) (by decide) (by decide) _ HSA.out).mono ?_
        rintro e w2 ⟨rfl, hf2, hs2⟩
        rw [HR.out]
        have HF2 := Lib.hid (HWA.out.trans hf2)
        have HS2 := Lib.hid hs2
        have HB2 := Lib.hid (HBA.out.away hf2 HQ.out.1)
        have HO2 : Hid (OwnD 0 (w.heap.size + 1) 9 1 w2 (.slice ya nl yc) (strRows P2)) := Lib.hid (HOA.out.farO hf2 (by have := HQ.out.2; omega))
        have HZ2 := Lib.hid (Nat.le_trans HZA.out hf2.size)
        clear hf2 hs2 HR hconv
        go_wp2_with fail
        go_roundw
        case rel => exact ⟨j + 1, _, by go_num, by omega, by rw [HN.out], HF2, Lib.hid (by rw [HN.out]; exact HS2.out), HB2, Lib.hid (by rw [HN.out]; exact HO2.out), HZ2⟩
        case measure => simp [intOf] <;> omega
      rw [if_neg r0] at HN
      by_cases r1 : dr P3 3 = 1
      · rw [if_pos r1] at HN
        have HR := Lib.hid r1
        clear r0 r1 hrl
        go_wp2_with fail
        refine (draw_any (n := 3) (by decide) (by decide) _ HSA.out).mono ?_
        rintro e w2 ⟨rfl, hf2, hs2⟩
        rw [HR.out]
        have HF2 := Lib.hid (HWA.out.trans hf2)
        have HS2 := Lib.hid hs2
        have HB2 := Lib.hid (HBA.out.away hf2 HQ.out.1)
        have HO2 : Hid (OwnD 0 (w.heap.size + 1) 9 1 w2 (.slice ya nl yc) (strRows P2)) := Lib.hid (HOA.out.farO hf2 (by have := HQ.out.2; omega))
        have HZ2 := Lib.hid (Nat.le_trans HZA.out hf2.size)
        clear hf2 hs2 HR hconv
        obtain ⟨c0, c1, c2⟩ := HB2.out.c3
        go_wp2_with (first
          | (at_builtin
             refine wpList_append_D2 rfl _ _ rfl Try.underlying29 info_str1 rfl (by decide) rfl rfl (HO2.out.alloc _) (own_str vj HO2.out HZ2.out) (by rw [strRows_len]; have := HNL.out; simp only [strRows, List.map_cons, List.map_nil, List.length_cons, List.length_nil]; omega) (by rw [strRows_len]; have := HNL.out; simp only [strRows, List.map_cons, List.map_nil, List.length_cons, List.length_nil]; omega) (by rw [World.size_alloc]; exact Nat.le_trans HZ2.out (Nat.le_succ _)) ?_
             intro v6 w6 ho hg hy6
             obtain ⟨a6, c6, rfl, h6a, h6b⟩ := ho.form
             generalize (strRows P2 ++ strRows [vj]).length = n6 at ho hy6 h6a ⊢
             have HO6 := Lib.hid ho
             have HNY : Hid (∀ b, (Value.slice ya nl yc).ownBlock = some b → w.heap.size + 1 ≤ b) := Lib.hid fun b hb => (HO2.out.lt b hb).1
             have HB6 : Hid (Bo w6 w.heap.size 133 #[.func (.func 137) #[] #[.pointer (some ⟨q, 0, none⟩)], .slice ya nl yc, .int .i64 k]) := Lib.hid ((HB2.out.alloc _).grown hg (fun b hb e => by have := HNY.out b hb; omega))
             have HF6 : Hid (Far (fun b => b = q) w w6) := Lib.hid ⟨hg.os.trans HF2.out.os, hg.tape.trans HF2.out.tape, hg.output.trans HF2.out.output, Nat.le_trans HF2.out.size (Nat.le_trans (below_new w2 _).size hg.size), fun b hb hs => ((hg.block b (by have := HF2.out.size; rw [World.size_alloc]; omega) (fun e => by have := HNY.out b e.symm; omega)).trans ((below_new w2 _).block b (Nat.lt_of_lt_of_le hb HF2.out.size))).trans (HF2.out.block b hb hs)⟩
             have HS6 : Hid (Sd 53 q (nxt P3) w6) := Lib.hid ((HS2.out.new _).same (hg.block q (by have := HS2.out.lt; rw [World.size_alloc]; omega) (fun e => by have := HNY.out q e.symm; have := HQ.out.2; omega)))
             have HZ6 := Lib.hid (Nat.le_trans HZ2.out (Nat.le_trans (below_new w2 (.cells #[.string vj] 9)).size hg.size))
             obtain ⟨d0, d1, d2⟩ := HB6.out.c3
             have f1 : ¬ w6.frozen? ⟨w.heap.size, 1, none⟩ = true := by rw [HB6.out.frozen 1]; decide
             clear ho hg hy6 c0 c1 c2))
        go_roundw
        case rel => exact ⟨j + 1, .slice a6 n6 c6, by go_num, by omega, by rw [HN.out], Lib.hid (cellFar_new HF6.out.size HF6.out), Lib.hid (by rw [HN.out]; exact HS6.out.far _ (fun e => HQ.out.1 e.symm)), Lib.hid HB6.out.set1, Lib.hid (by rw [HN.out]; have := HO6.out.cellFar w.heap.size 1 (.slice a6 n6 c6) (Nat.lt_succ_self _) (Nat.zero_le _); rw [← strRows_app] at this; exact this), Lib.hid (by have := HZ6.out; simpa [World.setCell] using this)⟩
        case measure => simp [intOf] <;> omega
      · rw [if_neg r1] at HN
        have HR : Hid (dr P3 3 = 2) := Lib.hid (by omega)
        clear r0 r1 hrl
        go_wp2_with fail
        refine (draw_any (n := 3) (by decide) (by decide) _ HSA.out).mono ?_
        rintro e w2 ⟨rfl, hf2, hs2⟩
        rw [HR.out]
        have HF2 := Lib.hid (HWA.out.trans hf2)
        have HS2 := Lib.hid hs2
        have HB2 := Lib.hid (HBA.out.away hf2 HQ.out.1)
        have HO2 : Hid (OwnD 0 (w.heap.size + 1) 9 1 w2 (.slice ya nl yc) (strRows P2)) := Lib.hid (HOA.out.farO hf2 (by have := HQ.out.2; omega))
        have HZ2 := Lib.hid (Nat.le_trans HZA.out hf2.size)
        clear hf2 hs2 HR hconv
        obtain ⟨c0, c1, c2⟩ := HB2.out.c3
        go_wp2_with (first
          | (at_builtin
             refine wpList_append_D2 rfl _ _ rfl Try.underlying29 info_str1 rfl (by decide) rfl rfl (HO2.out.alloc _) (own_str vj HO2.out HZ2.out) (by rw [strRows_len]; have := HNL.out; simp only [strRows, List.map_cons, List.map_nil, List.length_cons, List.length_nil]; omega) (by rw [strRows_len]; have := HNL.out; simp only [strRows, List.map_cons, List.map_nil, List.length_cons, List.length_nil]; omega) (by rw [World.size_alloc]; exact Nat.le_trans HZ2.out (Nat.le_succ _)) ?_
             intro v6 w6 ho hg hy6
             obtain ⟨a6, c6, rfl, h6a, h6b⟩ := ho.form
             generalize (strRows P2 ++ strRows [vj]).length = n6 at ho hy6 h6a ⊢
             have HO6 := Lib.hid ho
             have HNY : Hid (∀ b, (Value.slice ya nl yc).ownBlock = some b → w.heap.size + 1 ≤ b) := Lib.hid fun b hb => (HO2.out.lt b hb).1
             have HB6 : Hid (Bo w6 w.heap.size 133 #[.func (.func 137) #[] #[.pointer (some ⟨q, 0, none⟩)], .slice ya nl yc, .int .i64 k]) := Lib.hid ((HB2.out.alloc _).grown hg (fun b hb e => by have := HNY.out b hb; omega))
             have HF6 : Hid (Far (fun b => b = q) w w6) := Lib.hid ⟨hg.os.trans HF2.out.os, hg.tape.trans HF2.out.tape, hg.output.trans HF2.out.output, Nat.le_trans HF2.out.size (Nat.le_trans (below_new w2 _).size hg.size), fun b hb hs => ((hg.block b (by have := HF2.out.size; rw [World.size_alloc]; omega) (fun e => by have := HNY.out b e.symm; omega)).trans ((below_new w2 _).block b (Nat.lt_of_lt_of_le hb HF2.out.size))).trans (HF2.out.block b hb hs)⟩
             have HS6 : Hid (Sd 53 q (nxt P3) w6) := Lib.hid ((HS2.out.new _).same (hg.block q (by have := HS2.out.lt; rw [World.size_alloc]; omega) (fun e => by have := HNY.out q e.symm; have := HQ.out.2; omega)))
             have HZ6 := Lib.hid (Nat.le_trans HZ2.out (Nat.le_trans (below_new w2 (.cells #[.string vj] 9)).size hg.size))
             obtain ⟨d0, d1, d2⟩ := HB6.out.c3
             have f1 : ¬ w6.frozen? ⟨w.heap.size, 1, none⟩ = true := by rw [HB6.out.frozen 1]; decide
             clear ho hg hy6 c0 c1 c2))
        go_roundw
        case rel => exact ⟨j + 1, .slice a6 n6 c6, by go_num, by omega, by rw [HN.out], Lib.hid (cellFar_new HF6.out.size HF6.out), Lib.hid (by rw [HN.out]; exact HS6.out.far _ (fun e => HQ.out.1 e.symm)), Lib.hid HB6.out.set1, Lib.hid (by rw [HN.out]; have := HO6.out.cellFar w.heap.size 1 (.slice a6 n6 c6) (Nat.lt_succ_self _) (Nat.zero_le _); rw [← strRows_app] at this; exact this), Lib.hid (by have := HZ6.out; simpa [World.setCell] using this)⟩
        case measure => simp [intOf] <;> omega
    · obtain rfl : j = m := by omega
      have hltz : ¬ (j : Int) < (j : Int) := by omega
      obtain ⟨q1, q2, q3⟩ := ruleV_ok t0 s j
      have hes := exprQ_size q3 hk d (ruleV t0 s j).2.2
      have hed := exS_le hd
      have HGE := Lib.hid (ge_any (q := q) (by omega) q3 hk d hd)
      have HV : Hid (VM q wr (ruleV t0 s j).2.1 ya (strRows (ruleV t0 s j).2.1).length yc) := Lib.hid (HO.out.mem.mono (fun b hb => ⟨by rcases hb.1 with h | h <;> (have := HQ.out; omega), hb.2⟩) fun _ _ => rfl)
      obtain ⟨c0, c1, c2⟩ := HB.out.c3
      go_wp2_with fail
      refine (HGE.out wr (ruleV t0 s j).2.2 _ _ _ HV.out HS.out).mono ?_
      rintro e w9 ⟨rfl, hf9, hs9⟩
      have HF9 := Lib.hid (HF.out.trans hf9)
      have HS9 := Lib.hid hs9
      clear hf9 hs9
      go_wp2_with fail
      go_ret
      exact ⟨by rw [HRQ.out]; rfl, HF9.out, by rw [HRQ.out]; exact HS9.out⟩
end Go.Proofs.Ytppejoccljfblaa
