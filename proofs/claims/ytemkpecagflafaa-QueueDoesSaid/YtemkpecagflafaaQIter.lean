/-
  The walks of slices.Values, of the queue's iterator, and of the law's list of a queue. No condition but sizes.
-/
import Derived.Test.YtemkpecagflafaaQueueOf
import Derived.Test.YtemkpecagflafaaIter
import Derived.Deep.AppendLies
namespace Go.Proofs.Ytemkpecagflafaa
open Go.RowKit
attribute [local go_sem] Oper.semAt_some

theorem wide_ok (n : Nat) : Fence.wide.depth.isSome = true → 1 ≤ n := fun h => by cases h

set_option maxRecDepth 100000 in
set_option maxHeartbeats 2000000 in
theorem values1_any {n cap : Nat} {a : Option Addr} {xs : List Int} {vs bs : List Nat} {cb : Nat} {w : World} (hcb : w.cell? ⟨cb, 0, none⟩ = some (.slice a n cap)) (hR : Rd w.heap.size w a n cap 1 (ints xs)) 
    (hal : ∀ b o, a = some ⟨b, o, none⟩ → ¬ ownB vs bs w b) (hbs : ∀ b, b ∈ bs → b < w.heap.size) :
    Iter Try.prog 125 #[.pointer (some ⟨cb, 0, none⟩)] (fun x : Int => #[.int .i64 x]) xs vs bs w := by
  intro m l J Jx W hW hJ hJx hY h0
  have hcb' := (hW.cell (p := ⟨cb, 0, none⟩) (World.block_lt_of_cell? w _ hcb)).trans hcb
  have hR' := hR.mono hW
  have hsize := hW.size
  have hal' : ∀ b o, a = some ⟨b, o, none⟩ → ¬ ownB vs bs W b := fun b o e hY => hal b o e ((ownB_below hW hbs b).1 hY)
  have hcap := hR'.2.1
  have hm := hR'.2.2.1
  have HL := Lib.hid hR'.intLen
  have H := Lib.hid hR'
  have HY := Lib.hid hY
  have HA := Lib.hid hal'
  clear hR hR' hY hal hal' hcb hW
  refine callsIn_of_wp Try.func125 rfl trivial ?_ rfl; simp only [Try.ntmps125, List.size_toArray, List.length_cons, List.length_nil, Nat.reduceAdd, Nat.reduceSub, Array.replicate_succ, Array.replicate_zero, List.push_toArray, List.append_toArray, List.nil_append, List.cons_append]
  gi_wp2
  gi_loopw [4, 7] (fun _ i wr => ∃ k : Nat, k ≤ n ∧ i = .int .i64 k ∧ Hid (J (xs.take k) wr) ∧ Hid (Rd wr.heap.size wr a n cap 1 (ints xs)) ∧ Hid (∀ b o, a = some ⟨b, o, none⟩ → ¬ ownB vs bs wr b)) (fun _ i _ => n - (intOf i).toNat)
  case atStart => exact ⟨0, Nat.zero_le _, rfl, h0, H.out.le hsize, HA.out⟩
  case round =>
    obtain ⟨k, hk, rfl, HJ, HR, HA2⟩ := hrel
    by_cases hlt : k < n
    · obtain ⟨b, o, rfl, hl, hc⟩ := HR.out.intAt k hlt
      have HT := Lib.hid (take_snoc_int xs k hl)
      have hlen : (xs.take k).length < xs.length := by rw [List.length_take]; omega
      generalize xs[k] = x at *
      obtain ⟨fn, tmps, assign, body, hy, hR⟩ := HY.out _ x wr HJ.out hlen
      have HK := Lib.hid (fun W' hk => HR.out.kpo (W' := W') (by omega) hk HA2.out)
      gi_wp2
      refine ⟨wide_ok _, ?_⟩
      refine hR.mono ?_
      rintro e W3 (⟨rfl, hJ3, hk3⟩ | ⟨rfl, hJx3⟩)
      · have HJ3 := Lib.hid hJ3
        have HK3 := Lib.hid (HK.out W3 hk3)
        clear hJ3 hk3
        gi_wp2
        go_roundw
        case rel => exact ⟨k + 1, by omega, by go_num, by have := HJ3.out; rw [HT.out] at this; exact this, HK3.out.1, HK3.out.2⟩
        case measure => simp [intOf]; omega
      · have HJ3 := Lib.hid hJx3
        clear hJx3
        gi_wp2
        refine bodyPost_ret (results_none rfl _ _ _) rfl ?_
        exact ⟨⟨_, rfl⟩, .inr ⟨_, List.take_prefix _ _, by have := HJ3.out; rw [HT.out] at this; exact this⟩⟩
    · have HT : Hid (xs.take k = xs) := List.take_of_length_le (by have := HL.out; omega)
      gi_wp2
      go_end0
      exact ⟨⟨_, rfl⟩, .inl ⟨_, rfl, by have := HJ.out; rw [HT.out] at this; exact this⟩⟩

theorem qAll_any (p : Option Addr) (w : World) :
    Calls Try.prog 82 #[.pointer p] w fun e w' => e = .returned (.func (.func 114) #[] #[.pointer (some ⟨w.heap.size, 0, none⟩)]) ∧ w.alloc (.cells #[.pointer p] 24) = w' := by
  go_enter Try.func82, Try.ntmps82
  go_wp2
  go_ret
  exact ⟨rfl, rfl⟩
theorem values_any (a : Option Addr) (n cap : Nat) (w : World) :
    Calls Try.prog 115 #[.slice a n cap] w fun e w' => e = .returned (.func (.func 125) #[] #[.pointer (some ⟨w.heap.size, 0, none⟩)]) ∧ w.alloc (.cells #[.slice a n cap] 22) = w' := by
  go_enter Try.func115, Try.ntmps115
  go_wp2
  go_ret
  exact ⟨rfl, rfl⟩

theorem QS.below {S : Nat → Prop} {qb m f : Nat} {a : Option Addr} {ys xs : List Int} {w w' : World} (h : QS S w qb xs a m f ys) (hb : Below w.heap.size w w') : QS S w' qb xs a m f ys := by
  obtain ⟨h1, h2, c0, c1, c2, hfz, hy, hxm, hm, hf, hring, hval⟩ := h
  have hs := hb.size
  refine ⟨h1, by omega, (hb.cell (p := ⟨qb, 0, none⟩) h2).trans c0, (hb.cell (p := ⟨qb, 1, none⟩) h2).trans c1, (hb.cell (p := ⟨qb, 2, none⟩) h2).trans c2, fun o => (hb.frozen (p := ⟨qb, o, none⟩) h2).trans (hfz o), hy, hxm, hm, hf, fun h0 => ?_, hval⟩
  obtain ⟨g1, lb, g2, g3, g4, g5, g6, g7⟩ := hring h0
  exact ⟨g1, lb, g2, g3, g4, by omega, fun o => (hb.frozen (p := ⟨lb, o, none⟩) g5).trans (g6 o), fun i hi => (hb.cell (p := ⟨lb, i, none⟩) g5).trans (g7 i hi)⟩

/-- A row of the call's own reads as these. -/
theorem owns_rd {w : World} {base n : Nat} {e : TypeId} {v : Value} {xs : List Value} (h : w.ownsRow base e 1 v n xs) (hn : n ≤ 9223372036854775807) : ∃ a cap, v = .slice a n cap ∧ Rd w.heap.size w a n cap 1 xs ∧ ∀ b o, a = some ⟨b, o, none⟩ → base ≤ b := by
  obtain ⟨h1, h2⟩ := h
  rcases h2 with ⟨rfl, rfl⟩ | ⟨g, cap, cur, rfl, hb, hg, hc1, hc2, hc3, hc4⟩
  · exact ⟨none, 0, rfl, ⟨h1, Nat.le_refl _, by decide, .inl rfl⟩, fun b o e => by cases e⟩
  · refine ⟨some ⟨g, 0, none⟩, cap, rfl, ⟨h1, hc1, by unfold maxLen at hc2; omega, .inr ⟨g, 0, rfl, (Array.getElem?_eq_some_iff.1 hg).1, fun j hj => ?_⟩⟩, fun b o e => by cases e; exact hb⟩
    rw [Nat.zero_add]
    simp only [World.cell?, hg, Option.isSome_none, Bool.false_eq_true, if_false]
    have hj' : j < cur.toList.length := by rw [Array.length_toList, hc3]; omega
    rw [← Array.getElem?_toList, List.getElem?_eq_getElem hj', Option.some_inj]
    subst hc4
    rw [List.getElem_take]

theorem ownsRow_dra {w wx : World} {o : Obj} {base n size : Nat} {e : TypeId} {v : Value} {xs : List Value} (h : w.ownsRow base e size v n xs) (hd : Dr w wx) : (wx.alloc o).ownsRow base e size v n xs := by
  refine World.ownsRow.alloc (w := wx) ?_ o
  obtain ⟨h1, h2⟩ := h
  rw [← hd.1] at h2
  exact ⟨h1, h2⟩
theorem news_dra {wx : World} {v : Value} {t : TypeId} {B : Nat} (hB : wx.heap.size = B) : ∀ j u, [v][j]? = some u → (wx.alloc (.cells #[v] t)).cell? ((⟨B, 0, none⟩ : Addr).add j) = some u := by
  subst hB
  exact World.news_of_block (cs := #[v]) (heap_alloc_new wx _)

theorem grow_dra {w wr wx w1 : World} {o : Obj} {v : Value} (hb : Below w.heap.size w wr) (hg : (wx.alloc o).grownBy w1 v.ownBlock) (hv : ∀ b, v.ownBlock = some b → w.heap.size ≤ b) (hd : Dr wr wx) : Below w.heap.size w w1 := by
  have h1 := hd.below hb
  exact (h1.alloc h1.size o).grown hg (by rw [World.size_alloc]; have := h1.size; omega) hv

theorem ints_snoc (l : List Int) (x : Int) : ints l ++ [.int .i64 x] = ints (l ++ [x]) := by simp [ints]
theorem Rd.mono' {w w' : World} {a : Option Addr} {n cap sz : Nat} {xs : List Value} (h : Rd w.heap.size w a n cap sz xs) (hb : Below w.heap.size w w') : Rd w'.heap.size w' a n cap sz xs := (h.mono hb).le hb.size
/-- An iterator that hands on to another one, over a value of its own in a box. -/
theorem iter_later {α : Type} {P : Program} {g : Nat} {encs : α → Array Value} {xs : List α} {vs bs : List Nat} {w W wr : World} {n l : Nat} {J Jx : List α → World → Prop} {sl : Value} {t : TypeId}
    (hJ : AbidesFrom W.heap.size J) (hJx : AbidesFrom W.heap.size Jx)
    (hY : ∀ pre x W1, J pre W1 → pre.length < xs.length → YieldAt Fence.wide (n - 1) P l (encs x) W1 fun e W' =>
      (e = .returned (.bool true) ∧ J (pre ++ [x]) W' ∧ KpO vs bs W1 W') ∨ (e = .returned (.bool false) ∧ Jx (pre ++ [x]) W'))
    (h0 : J [] W) (hb : Below W.heap.size W wr) (_hw : Below w.heap.size w W)
    (hi : ∀ w2, Below wr.heap.size wr w2 → w2.cell? ⟨wr.heap.size, 0, none⟩ = some sl → Iter P g #[.pointer (some ⟨wr.heap.size, 0, none⟩)] encs xs vs bs w2) :
    Calls P g #[.func (.yield l) #[] #[], .pointer (some ⟨wr.heap.size, 0, none⟩)] (wr.alloc (.cells #[sl] t)) fun e W' => (∃ v, e = .returned v) ∧ ((∃ ys, ys = xs ∧ J ys W') ∨ (∃ pre, pre <+: xs ∧ Jx pre W')) := by
  have hbn := below_new wr (.cells #[sl] t)
  have hb2 := Below.to hb hbn
  have hc : (wr.alloc (.cells #[sl] t)).cell? ⟨wr.heap.size, 0, none⟩ = some sl := by
    have h : (wr.alloc (.cells #[sl] t)).heap[wr.heap.size]? = some (.cells #[sl] t) := (MapKept.heap_alloc wr _).1
    simp only [World.cell?, h]; rfl
  have ab : ∀ {J' : List α → World → Prop}, AbidesFrom W.heap.size J' → AbidesFrom (wr.alloc (.cells #[sl] t)).heap.size J' := fun h s A B row hs hg hr => h s A B row hs hg (fun r e => ⟨Nat.le_trans hb2.size (hr r e).1, (hr r e).2⟩)
  exact callsIn_wide.1 (hi _ hbn hc n l J Jx _ (Below.refl _ _) (ab hJ) (ab hJx) hY (AbidesFrom.grows hJ h0 hb2))

set_option maxRecDepth 100000 in
set_option maxHeartbeats 2000000 in
theorem all1_any {S : Nat → Prop} {qb m f : Nat} {a : Option Addr} {ys xs : List Int} {vs bs : List Nat} {cb : Nat} {w : World} (hcb : w.cell? ⟨cb, 0, none⟩ = some (.pointer (some ⟨qb, 0, none⟩))) (hq : QS S w qb xs a m f ys) (hn : xs.length ≤ 10000)
    (hbs : ∀ b, b ∈ bs → b < w.heap.size) (hvs : ∀ b, ownB vs bs w b → b < w.heap.size) :
    Iter Try.prog 114 #[.pointer (some ⟨cb, 0, none⟩)] (fun x : Int => #[.int .i64 x]) xs vs bs w := by
  intro n l J Jx W hW hJ hJx hY h0
  have hq' := hq.below hW
  have hcb' := (hW.cell (p := ⟨cb, 0, none⟩) (World.block_lt_of_cell? w _ hcb)).trans hcb
  have HY := Lib.hid hY
  have HJ := Lib.hid hJ
  have HJx := Lib.hid hJx
  have H0 := Lib.hid h0
  have HQ := Lib.hid hq'
  have HW := Lib.hid hW
  clear hY hJ hJx h0 hW hq hcb
  obtain ⟨i0, hi, hz0, hz1, hz2⟩ := info_parts info_int
  obtain ⟨h1, h2, c0, c1, c2, hfz, hy, hxm, hm, hf, hring, hval⟩ := hq'
  have Hring := Lib.hid hring
  have Hval := Lib.hid hval
  clear hring hval hy
  refine callsIn_wide.2 ?_
  go_enter Try.func114, Try.ntmps114
  go_wp2_with (first | (go_at_call 23; refine (qLen_any _ _ _ c2).mono ?_; rintro e w' ⟨rfl, rfl⟩))
  go_loopw [3, 4, 7] (fun sl _ i wr => ∃ k : Nat, k ≤ xs.length ∧ i = .int .i64 k ∧ Hid (Below W.heap.size W wr) ∧ wr.ownsRow W.heap.size 3 1 sl k (ints (xs.take k))) (fun _ _ i _ => xs.length - (intOf i).toNat)
  case atStart => exact ⟨0, Nat.zero_le _, rfl, Below.refl _ _, World.ownsRow_nil _ _ _ _⟩
  case round =>
    obtain ⟨k, hk, rfl, HB, hown⟩ := hrel
    by_cases hlt : k < xs.length
    · obtain ⟨hfm, lb0, ha, hl1, hl2, hl3, hl4, hl5⟩ := Hring.out (by omega)
      obtain ⟨r, hr, hrn, hrd⟩ : ∃ r : Nat, ((f : Int) + k) % m = r ∧ r < m ∧ r = (f + k) % m := ⟨(f + k) % m, by simp, Nat.mod_lt _ (by omega), rfl⟩
      subst ha
      have e0 := (HB.out.cell (p := ⟨qb, 0, none⟩) h2).trans c0
      have e1 := (HB.out.cell (p := ⟨qb, 1, none⟩) h2).trans c1
      have hcbl := World.block_lt_of_cell? W _ hcb'
      have ecb := (HB.out.cell (p := ⟨cb, 0, none⟩) (World.block_lt_of_cell? W _ hcb')).trans hcb'
      have er : wr.cell? ⟨lb0, r, none⟩ = some (.int .i64 (xs[k])) := by
        rw [(HB.out.cell (p := ⟨lb0, r, none⟩) hl3), hl5 r hrn, hrd, ← Hval.out k hlt, List.getD_eq_getElem?_getD, List.getElem?_eq_getElem hlt]; rfl
      have er0 : W.cell? ⟨lb0, r, none⟩ = some (.int .i64 (xs[k])) := by rw [← HB.out.cell (p := ⟨lb0, r, none⟩) hl3]; exact er
      have HT := Lib.hid (take_snoc_int xs k hlt)
      generalize xs[k] = x at *
      have hri : (r : Int) < m := by omega
      have hri0 : (0 : Int) ≤ (r : Int) := by omega
      have HRR := Lib.hid hr
      have hwsz := HB.out.size
      clear hl5 hl4 hr hrd
      go_wp2
      go_region_held3 (fun w' => w'.cell? ⟨cb, 0, none⟩ = some (.pointer (some ⟨qb, 0, none⟩)) ∧ w'.cell? ⟨qb, 0, none⟩ = some (.slice (some ⟨lb0, 0, none⟩) m m) ∧ w'.cell? ⟨lb0, r, none⟩ = some (.int .i64 x)) (first | (simp [go_sem, *]; done) | exact ⟨(cell_alloc_old _ _ _ _ _ (by omega)).trans ecb, (cell_alloc_old _ _ _ _ _ (by omega)).trans e0, (cell_alloc_old _ _ _ _ _ (by omega)).trans er⟩ | exact ⟨s1, s2, s3⟩)
        (first
          | (go_at_call 81; refine (qAt_is qb m m f r _ k _ (by simpa using e0) (by simpa using e1) (by omega) (by omega) (by omega) (by omega) (by omega) HRR.out).mono ?_; rintro e w' ⟨rfl, nq', rfl⟩)
          | (refine step_append_lies _ (by rfl) _ _ _ (by rfl) W.heap.size 3 i0 (.int .i64 0) 1 8 Try.underlying22 hi hz0 hz1 hz2 rfl (by omega) u3 k (ints (xs.take k)) (by rfl) (by exact ownsRow_dra hown ⟨rfl, rfl, rfl, rfl⟩) ⟨wr.heap.size, 0, none⟩ 1 1 [.int .i64 x] (by rfl) (by rfl) (by exact news_dra (by rfl)) (by simp [Value.oneCell']) (by omega) (by unfold maxLen; omega) (by omega) (by simp; omega) (wr.heap.size + 1) (by simp) ?_; intro gg cap w1 hown1 hgrow hat hlt; have HB1 := Lib.hid (grow_dra HB.out hgrow (fun b hb => (hown.lt b hb).1) ⟨rfl, rfl, rfl, rfl⟩); have s1 := (HB1.out.cell (p := ⟨cb, 0, none⟩) hcbl).trans hcb'; have s2 := (HB1.out.cell (p := ⟨qb, 0, none⟩) h2).trans c0; have s3 := (HB1.out.cell (p := ⟨lb0, r, none⟩) hl3).trans er0))
      have HO := Lib.hid (ints_snoc (xs.take k) x)
      have HO1 := Lib.hid hown1
      clear hown1 hgrow hown
      go_wp2
      go_roundw
      case rel => exact ⟨k + 1, by omega, by go_num, HB1.out, by have := HO1.out; rw [HO.out, HT.out] at this; exact this⟩
      case measure => simp [intOf]; omega
    · obtain rfl : k = xs.length := by omega
      rw [List.take_length] at hown
      obtain ⟨a1, cap1, rfl, hR1, hb1⟩ := owns_rd hown (by omega)
      have HV := Lib.hid (iter_later (α := Int) HJ.out HJx.out HY.out H0.out HB.out HW.out (sl := .slice a1 xs.length cap1) (t := 22) (g := 125)
        (fun w2 hw2 hc => values1_any (vs := vs) (bs := bs) (xs := xs) hc (hR1.mono' hw2) (fun b o e hY => by
          have h1 := hb1 b o e
          have h2 := ((ownB_below (HW.out.trans ((HB.out.mono HW.out.size).trans (hw2.mono (Nat.le_trans HW.out.size HB.out.size)))) hbs b).1 hY)
          have h3 := hvs b h2
          have h4 := HW.out.size
          omega) (fun b hb => Nat.lt_of_lt_of_le (hbs b hb) (Nat.le_trans HW.out.size (Nat.le_trans HB.out.size hw2.size)))))
      clear hown hR1
      go_wp2_with (first | (go_at_call 115; refine (values_any _ _ _ _).mono ?_; rintro e w' ⟨rfl, rfl⟩) | (go_at_call 125; refine HV.out.mono ?_; rintro e w' ⟨⟨v, rfl⟩, hfin⟩; have HFin := Lib.hid hfin; clear hfin))
      go_end0
      exact ⟨⟨_, rfl⟩, HFin.out⟩
end Go.Proofs.Ytemkpecagflafaa
