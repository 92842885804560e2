/-
  The walk of the law AnswerTells: it answers true at every input. No condition but how the answers lie, and how great they are.
-/
import Derived.Test.YtmadfkofmehfkaaAt38
import Derived.Test.YtmadfkofmehfkaaAt39
import Derived.Test.YtmadfkofmehfkaaAt40
import Derived.Test.YtmadfkofmehfkaaAt31
namespace Go.Proofs.Ytmadfkofmehfkaa
open Go.RowKit Go.Maps

theorem shows_of {x : Ans} (hf : fewB x.all = true) (hok : ∀ t ∈ x.all, t.ok) (hw : Tm.wts x.all ≤ 1048576) : x.shows := by
  refine ⟨hok, hw, ?_⟩
  unfold fewB at hf
  rw [Bool.and_eq_true] at hf
  have h1 := of_decide_eq_true hf.2
  rw [Ans.all, List.length_append] at h1
  omega
theorem fewA_shows {l : List Ans} (h : fewA l = true) (hok : ∀ x ∈ l, ∀ t ∈ x.all, t.ok) (hw : ∀ x ∈ l, Tm.wts x.all ≤ 1048576) : ∀ x ∈ l, x.shows := fun x hx => by
  unfold fewA at h
  rw [Bool.and_eq_true] at h
  exact shows_of (List.all_eq_true.1 h.1 x hx) (hok x hx) (hw x hx)
theorem times_run {l : List Ans} {k n cap : Nat} {a : Option Addr} {w : World} (h : MemW w (.s 5 (ansRows l)) (.slice a n cap)) (hk : k ≤ n) (hc : n ≤ cap) : MemW w (.s 5 (ansRows (l.take k))) (.slice a k cap) := by
  have := Mem.take k hk h cap (by omega) (Nat.le_refl _)
  rwa [show (ansRows l).take k = ansRows (l.take k) by simp [ansRows]] at this
def RAlike9 (w : World) (v u : Value) (r : Bool) : Prop := ∀ w', Below w.heap.size w w' → Calls Try.prog 33 #[v, u] w' fun e w2 => e = .returned (.bool r) ∧ Below w'.heap.size w' w2
def Same9 (w : World) (v u : Value) : Prop := ∀ w', Below w.heap.size w w' → Calls Try.prog 32 #[v, u] w' fun e w2 => e = .returned (.bool true) ∧ Below w'.heap.size w' w2
set_option maxRecDepth 100000 in
set_option maxHeartbeats 40000000 in
theorem answerTells_any {la lb : List Ans} {names : List ByteArray} {a b c : Option Addr} {na ka nb kb nc kc : Nat} (w : World) (ha : MemW w (.s 5 (ansRows la)) (.slice a na ka)) (hb : MemW w (.s 5 (ansRows lb)) (.slice b nb kb)) (hc : MemW w (.s 1 (strRows names)) (.slice c nc kc))
    (hsa : ∀ x ∈ la, (Tm.alls x.all).length ≤ 1048576) (hsb : ∀ x ∈ lb, (Tm.alls x.all).length ≤ 1048576) (hoa : ∀ x ∈ la, ∀ t ∈ x.all, t.ok) (hob : ∀ x ∈ lb, ∀ t ∈ x.all, t.ok) (hwa : ∀ x ∈ la, Tm.wts x.all ≤ 1048576) (hnm : ∀ s ∈ names, s.size ≤ 1048576) :
    Calls Try.prog 6 #[.slice a na ka, .slice b nb kb, .slice c nc kc] w fun e w' => e = .returned (.bool true) ∧ Below w.heap.size w w' := by
  have hla := ans_len ha
  have HA := Lib.hid ha
  have HBL := Lib.hid hb
  have HC := Lib.hid hc
  have HLA := Lib.hid hla.1
  have hka := hla.2.1
  have hkam := hla.2.2
  have HLB := Lib.hid (ans_len hb).1
  have hkb := (ans_len hb).2.1
  have hkbm := (ans_len hb).2.2
  have hlc := hc.len
  rw [strRows_len] at hlc
  have HLC := Lib.hid hlc.1
  have hkc := hlc.2.1
  have hkcm := hlc.2.2
  have HOA := Lib.hid hoa
  have HOB := Lib.hid hob
  have HWA := Lib.hid hwa
  have HNM := Lib.hid (nameA_size hnm)
  have HNM0 := Lib.hid hnm
  have Fa : Hid (Few9 w (.slice a na ka) (fewA la)) := Lib.hid fun w' h => few30_any w' (MemW.keep HA.out h) hsa
  have Fb : Hid (Few9 w (.slice b nb kb) (fewA lb)) := Lib.hid fun w' h => few30_any w' (MemW.keep HBL.out h) hsb
  clear ha hb hc hsa hsb hoa hob hla hlc hwa hnm
  have hb : Below w.heap.size w w := Below.refl _ _
  unfold Few9 at Fa Fb
  by_cases fa : fewA la = false
  · rw [fa] at Fa
    clear fa
    go_enter Try.func6, Try.ntmps6
    have tk0 : True := trivial
    have tk1 : True := trivial
    go_wp2_with (first
      | (go_at_call 16
         have _t := tk0
         clear _t tk0
         refine (awake30_any _).mono ?_
         rintro e w' ⟨rfl, hb'⟩
         replace hb := Below.to hb hb'
         clear hb')
      | (go_at_call 17
         have _t := tk1
         clear _t tk1
         refine (Fa.out _ hb).mono ?_
         rintro e w' ⟨rfl, hb'⟩
         replace hb := Below.to hb hb'
         clear hb'))
    go_ret
    exact ⟨rfl, hb⟩
  have ga : fewA la = true := by simpa using fa
  clear fa
  rw [ga] at Fa
  by_cases fb : fewA lb = false
  · rw [fb] at Fb
    clear fb
    go_enter Try.func6, Try.ntmps6
    have tk0 : True := trivial
    have tk1 : True := trivial
    have tk2 : True := trivial
    go_wp2_with (first
      | (go_at_call 16
         have _t := tk0
         clear _t tk0
         refine (awake30_any _).mono ?_
         rintro e w' ⟨rfl, hb'⟩
         replace hb := Below.to hb hb'
         clear hb')
      | (go_at_call 17
         have _t := tk1
         clear _t tk1
         refine (Fa.out _ hb).mono ?_
         rintro e w' ⟨rfl, hb'⟩
         replace hb := Below.to hb hb'
         clear hb')
      | (go_at_call 17
         have _t := tk2
         clear _t tk2
         refine (Fb.out _ hb).mono ?_
         rintro e w' ⟨rfl, hb'⟩
         replace hb := Below.to hb hb'
         clear hb'))
    go_ret
    exact ⟨rfl, hb⟩
  have gb : fewA lb = true := by simpa using fb
  clear fb
  rw [gb] at Fb
  have HFA := Lib.hid (fewA_fit ga HOA.out)
  have HFB := Lib.hid (fewA_fit gb HOB.out)
  have HSA := Lib.hid (fewA_shows ga HOA.out HWA.out)
  have hna : na ≤ 10 := by rw [← HLA.out]; exact fewA_ten ga
  have hnb : nb ≤ 10 := by rw [← HLB.out]; exact fewA_ten gb
  clear ga gb HOA HOB HWA
  by_cases h20 : (20 : Int) < (nc : Int)
  · go_enter Try.func6, Try.ntmps6
    have tk0 : True := trivial
    have tk1 : True := trivial
    have tk2 : True := trivial
    go_wp2_with (first
      | (go_at_call 16
         have _t := tk0
         clear _t tk0
         refine (awake30_any _).mono ?_
         rintro e w' ⟨rfl, hb'⟩
         replace hb := Below.to hb hb'
         clear hb')
      | (go_at_call 17
         have _t := tk1
         clear _t tk1
         refine (Fa.out _ hb).mono ?_
         rintro e w' ⟨rfl, hb'⟩
         replace hb := Below.to hb hb'
         clear hb')
      | (go_at_call 17
         have _t := tk2
         clear _t tk2
         refine (Fb.out _ hb).mono ?_
         rintro e w' ⟨rfl, hb'⟩
         replace hb := Below.to hb hb'
         clear hb'))
    go_ret
    exact ⟨rfl, hb⟩
  have hg20 : decide ((20 : Int) < (nc : Int)) = false := decide_eq_false h20
  go_enter Try.func6, Try.ntmps6
  have tk0 : True := trivial
  have tk1 : True := trivial
  have tk2 : True := trivial
  go_wp2_with (first
    | (go_at_call 16
       have _t := tk0
       clear _t tk0
       refine (awake30_any _).mono ?_
       rintro e w' ⟨rfl, hb'⟩
       replace hb := Below.to hb hb'
       clear hb')
    | (go_at_call 17
       have _t := tk1
       clear _t tk1
       refine (Fa.out _ hb).mono ?_
       rintro e w' ⟨rfl, hb'⟩
       replace hb := Below.to hb hb'
       clear hb')
    | (go_at_call 17
       have _t := tk2
       clear _t tk2
       refine (Fb.out _ hb).mono ?_
       rintro e w' ⟨rfl, hb'⟩
       replace hb := Below.to hb hb'
       clear hb'))
  have HBS := Lib.hid hb
  clear hb Fa Fb h20 hg20
  rename World => ws
  go_loopw [7, 8, 36] (fun v7 v8 i wr => ∃ k : Nat, k ≤ na ∧ i = .int .i64 k ∧ v7 = .bool ((la.take k).all fun x => lb.any fun y => instA y x) ∧ Hid (Below w.heap.size w wr) ∧ Hid (OwnD w.heap.size w.heap.size 48 5 wr v8 (ansRows (onceA la k)))) (fun _ _ i _ => na - (intOf i).toNat)
  case atStart => exact ⟨0, Nat.zero_le _, rfl, by rw [List.take_zero]; rfl, HBS, Lib.hid (OwnD.nil _ _ _ _ _)⟩
  case round =>
    obtain ⟨k, hk, rfl, rfl, HB, HO⟩ := hrel
    obtain ⟨av, cv, rfl, hcv, hcm⟩ := HO.out.form
    rename World => wr
    by_cases hlt : k < na
    · have hltz : (k : Int) < (na : Int) := by omega
      obtain ⟨bx, ox, x, pb, npb, cpb, px, npx, cpx, rfl, hbB, Hx, x0, x1, x2, x3, x4, GB, GV⟩ := ans_at HA.out k hlt
      have HXw : Hid (AnsW w x pb npb cpb px npx cpx) := Lib.hid ⟨GB.out, GV.out⟩
      clear GB GV
      replace x0 := cell_below x0 HB.out
      replace x1 := cell_below x1 HB.out
      replace x2 := cell_below x2 HB.out
      replace x3 := cell_below x3 HB.out
      replace x4 := cell_below x4 HB.out
      replace hbB : bx < wr.heap.size := Nat.lt_of_lt_of_le hbB HB.out.size
      have hxm := mem_of_at Hx.out
      have HXF := Lib.hid (HFA.out x hxm)
      have HXS := Lib.hid (HSA.out x hxm)
      clear hxm
      have HON := Lib.hid (onceA_at Hx.out)
      have HOL := Lib.hid (onceA_len la k)
      have HCV1 : Hid (((la.take (k + 1)).all fun x => lb.any fun y => instA y x) = (((la.take k).all fun x => lb.any fun y => instA y x) && lb.any fun y => instA y x)) := Lib.hid (by rw [take_at Hx.out, List.all_append]; simp)
      have HBX := Lib.hid (Bo.new wr 48 #[.slice pb npb cpb, .int .i64 x.value.kind, .string x.value.name, .int .i64 x.value.n, .slice px npx cpx])
      have HBA := Lib.hid (HB.out.alloc HB.out.size (.cells #[.slice pb npb cpb, .int .i64 x.value.kind, .string x.value.name, .int .i64 x.value.n, .slice px npx cpx] 48))
      have HOA := Lib.hid (HO.out.alloc (.cells #[.slice pb npb cpb, .int .i64 x.value.kind, .string x.value.name, .int .i64 x.value.n, .slice px npx cpx] 48))
      have HOW : Hid (∀ q, (Value.slice av (ansRows (onceA la k)).length cv).ownBlock = some q → w.heap.size ≤ q ∧ q < wr.heap.size) := Lib.hid fun q hq => HO.out.lt q hq
      have hwr := HB.out.size
      generalize hC : ((la.take k).all fun x => lb.any fun y => instA y x) = C at *
      clear hC HO
      generalize hrl : (ansRows (onceA la k)).length = rl at *
      have HRL := Lib.hid hrl
      clear hrl
      go_wp2_with fail
      generalize hW : wr.alloc (.cells #[.slice pb npb cpb, .int .i64 x.value.kind, .string x.value.name, .int .i64 x.value.n, .slice px npx cpx] 48) = wa at *
      clear hW x0 x1 x2 x3 x4
      go_loopw [11, 43] (fun v i w2 => ∃ k2 : Nat, k2 ≤ nb ∧ i = .int .i64 k2 ∧ v = .bool ((lb.take k2).any fun y => instA y x) ∧ Hid (Below wa.heap.size wa w2)) (fun _ i _ => nb - (intOf i).toNat)
      case atStart => exact ⟨0, Nat.zero_le _, rfl, by rw [List.take_zero]; rfl, Lib.hid (Below.refl _ _)⟩
      case round =>
        obtain ⟨k2, hk2, rfl, rfl, HB2⟩ := hrel
        rename World => w2
        have HBW2 := Lib.hid (HBA.out.trans (HB2.out.mono HBA.out.size))
        have HX2 := Lib.hid (HBX.out.keep HB2.out)
        have hq2 := HX2.out.lt
        by_cases hlt2 : k2 < nb
        · have hltz2 : (k2 : Int) < (nb : Int) := by omega
          obtain ⟨bY, oY, y, qb, nqb, cqb, qx, nqx, cqx, rfl, hbY, Hy, y0, y1, y2, y3, y4, GB2, GV2⟩ := ans_at HBL.out k2 hlt2
          have HYw : Hid (AnsW w y qb nqb cqb qx nqx cqx) := Lib.hid ⟨GB2.out, GV2.out⟩
          clear GB2 GV2
          replace y0 := cell_below y0 HBW2.out
          replace y1 := cell_below y1 HBW2.out
          replace y2 := cell_below y2 HBW2.out
          replace y3 := cell_below y3 HBW2.out
          replace y4 := cell_below y4 HBW2.out
          replace hbY : bY < w2.heap.size := Nat.lt_of_lt_of_le hbY HBW2.out.size
          have HYF := Lib.hid (HFB.out y (mem_of_at Hy.out))
          have HS1 : Hid (((lb.take (k2 + 1)).any fun y => instA y x) = (((lb.take k2).any fun y => instA y x) || instA y x)) := Lib.hid (by rw [take_at Hy.out, List.any_append]; simp)
          have HCUR : Hid (Below w.heap.size w (w2.alloc (.cells #[.slice qb nqb cqb, .int .i64 y.value.kind, .string y.value.name, .int .i64 y.value.n, .slice qx nqx cqx] 48)).drew) := Lib.hid ((HBW2.out.alloc HBW2.out.size (.cells #[.slice qb nqb cqb, .int .i64 y.value.kind, .string y.value.name, .int .i64 y.value.n, .slice qx nqx cqx] 48)).trans ((below_drew _).mono (HBW2.out.alloc HBW2.out.size (.cells #[.slice qb nqb cqb, .int .i64 y.value.kind, .string y.value.name, .int .i64 y.value.n, .slice qx nqx cqx] 48)).size))
          have HCR2 : Hid (Below (w2.alloc (.cells #[.slice qb nqb cqb, .int .i64 y.value.kind, .string y.value.name, .int .i64 y.value.n, .slice qx nqx cqx] 48)).heap.size (w2.alloc (.cells #[.slice qb nqb cqb, .int .i64 y.value.kind, .string y.value.name, .int .i64 y.value.n, .slice qx nqx cqx] 48)) (w2.alloc (.cells #[.slice qb nqb cqb, .int .i64 y.value.kind, .string y.value.name, .int .i64 y.value.n, .slice qx nqx cqx] 48)).drew) := Lib.hid (below_drew _)
          have HCR3 : Hid (Below wa.heap.size wa (w2.alloc (.cells #[.slice qb nqb cqb, .int .i64 y.value.kind, .string y.value.name, .int .i64 y.value.n, .slice qx nqx cqx] 48))) := Lib.hid (HB2.out.alloc HB2.out.size (.cells #[.slice qb nqb cqb, .int .i64 y.value.kind, .string y.value.name, .int .i64 y.value.n, .slice qx nqx cqx] 48))
          obtain ⟨z0, z1, z2, z3, z4⟩ := (HX2.out.alloc (.cells #[.slice qb nqb cqb, .int .i64 y.value.kind, .string y.value.name, .int .i64 y.value.n, .slice qx nqx cqx] 48)).a5
          obtain ⟨u0, u1, u2, u3, u4⟩ := (Bo.new w2 48 #[.slice qb nqb cqb, .int .i64 y.value.kind, .string y.value.name, .int .i64 y.value.n, .slice qx nqx cqx]).a5
          generalize hS : ((lb.take k2).any fun y => instA y x) = S at *
          clear hS
          go_wp2_with fail
          clear y0 y1 y2 y3 y4
          generalize hW2 : w2.alloc (.cells #[.slice qb nqb cqb, .int .i64 y.value.kind, .string y.value.name, .int .i64 y.value.n, .slice qx nqx cqx] 48) = W at *
          clear hW2
          generalize hV : instA y x = V at *
          have HV := Lib.hid hV
          clear hV
          cases S with
          | true =>
            refine wp_region_held_drew (S := fun w' => Below (W).heap.size (W) w') (by kernel_rfl) (below_drew _) (fun hS0 => ?_)
            refine takeL 0 (v := ?_) rfl (by kernel_rfl) (by kernel_rfl) (by kernel_rfl) (fun _ _ _ h => h) (by rfl) ?_ (by assumption) ?_
            rotate_left
            · (intro w hSw; (try dsimp only at hSw); replace z0 := cell_below z0 hSw; replace z1 := cell_below z1 hSw; replace z2 := cell_below z2 hSw; replace z3 := cell_below z3 hSw; replace z4 := cell_below z4 hSw; replace u0 := cell_below u0 hSw; replace u1 := cell_below u1 hSw; replace u2 := cell_below u2 hSw; replace u3 := cell_below u3 hSw; replace u4 := cell_below u4 hSw; go_simp; try with_reducible rfl)
            try simp only [Act.put, List.setIfInBounds_toArray, List.set_cons_zero, List.set_cons_succ]
            refine takeL 1 (v := ?_) rfl (by kernel_rfl) (by kernel_rfl) (by kernel_rfl) (fun _ _ _ h => h) (by rfl) ?_ (by assumption) ?_
            rotate_left
            · (intro w hSw; (try dsimp only at hSw); replace z0 := cell_below z0 hSw; replace z1 := cell_below z1 hSw; replace z2 := cell_below z2 hSw; replace z3 := cell_below z3 hSw; replace z4 := cell_below z4 hSw; replace u0 := cell_below u0 hSw; replace u1 := cell_below u1 hSw; replace u2 := cell_below u2 hSw; replace u3 := cell_below u3 hSw; replace u4 := cell_below u4 hSw; go_simp; try with_reducible rfl)
            try simp only [Act.put, List.setIfInBounds_toArray, List.set_cons_zero, List.set_cons_succ]
            refine skipL 2 rfl (by kernel_rfl) (by kernel_rfl) (by kernel_rfl) (fun _ _ _ h => h) (by rfl) (by assumption) ?_
            try simp only [Act.put, List.setIfInBounds_toArray, List.set_cons_zero, List.set_cons_succ]
            refine skipL 4 rfl (by kernel_rfl) (by kernel_rfl) (by kernel_rfl) (fun _ _ _ h => h) (by rfl) (by assumption) ?_
            try simp only [Act.put, List.setIfInBounds_toArray, List.set_cons_zero, List.set_cons_succ]
            refine skipCallL 3 rfl (by kernel_rfl) (by rfl) (by assumption) ?_
            try simp only [Act.put, List.setIfInBounds_toArray, List.set_cons_zero, List.set_cons_succ]
            refine skipCallL 5 rfl (by kernel_rfl) (by rfl) (by assumption) ?_
            try simp only [Act.put, List.setIfInBounds_toArray, List.set_cons_zero, List.set_cons_succ]
            refine skipCallL 6 rfl (by kernel_rfl) (by rfl) (by assumption) ?_
            try simp only [Act.put, List.setIfInBounds_toArray, List.set_cons_zero, List.set_cons_succ]
            refine takeL 7 (v := ?_) rfl (by kernel_rfl) (by kernel_rfl) (by kernel_rfl) (fun _ _ _ h => h) (by rfl) ?_ (by assumption) ?_
            rotate_left
            · (intro w hSw; (try dsimp only at hSw); replace z0 := cell_below z0 hSw; replace z1 := cell_below z1 hSw; replace z2 := cell_below z2 hSw; replace z3 := cell_below z3 hSw; replace z4 := cell_below z4 hSw; replace u0 := cell_below u0 hSw; replace u1 := cell_below u1 hSw; replace u2 := cell_below u2 hSw; replace u3 := cell_below u3 hSw; replace u4 := cell_below u4 hSw; go_simp; try with_reducible rfl)
            try simp only [Act.put, List.setIfInBounds_toArray, List.set_cons_zero, List.set_cons_succ]
            refine takeL 8 (v := ?_) rfl (by kernel_rfl) (by kernel_rfl) (by kernel_rfl) (fun _ _ _ h => h) (by rfl) ?_ (by assumption) ?_
            rotate_left
            · (intro w hSw; (try dsimp only at hSw); replace z0 := cell_below z0 hSw; replace z1 := cell_below z1 hSw; replace z2 := cell_below z2 hSw; replace z3 := cell_below z3 hSw; replace z4 := cell_below z4 hSw; replace u0 := cell_below u0 hSw; replace u1 := cell_below u1 hSw; replace u2 := cell_below u2 hSw; replace u3 := cell_below u3 hSw; replace u4 := cell_below u4 hSw; go_simp; try with_reducible rfl)
            try simp only [Act.put, List.setIfInBounds_toArray, List.set_cons_zero, List.set_cons_succ]
            refine wpAnyH_done (by kernel_rfl) ?_ _
            go_wp2_with fail
            replace z0 := cell_below z0 HCR2.out
            replace z1 := cell_below z1 HCR2.out
            replace z2 := cell_below z2 HCR2.out
            replace z3 := cell_below z3 HCR2.out
            replace z4 := cell_below z4 HCR2.out
            replace u0 := cell_below u0 HCR2.out
            replace u1 := cell_below u1 HCR2.out
            replace u2 := cell_below u2 HCR2.out
            replace u3 := cell_below u3 HCR2.out
            replace u4 := cell_below u4 HCR2.out
            have HB15 : Hid (Below W.drew.heap.size W.drew W.drew.drew) := Lib.hid (below_drew _)
            replace HCUR := Lib.hid (HCUR.out.trans ((below_drew _).mono HCUR.out.size))
            replace HCR2 := Lib.hid (HCR2.out.trans ((below_drew _).mono HCR2.out.size))
            refine wp_region_held_drew (S := fun w' => Below (W.drew).heap.size (W.drew) w') (by kernel_rfl) (below_drew _) (fun hS0 => ?_)
            refine takeL 0 (v := ?_) rfl (by kernel_rfl) (by kernel_rfl) (by kernel_rfl) (fun _ _ _ h => h) (by rfl) ?_ (by assumption) ?_
            rotate_left
            · (intro w hSw; (try dsimp only at hSw); replace z0 := cell_below z0 hSw; replace z1 := cell_below z1 hSw; replace z2 := cell_below z2 hSw; replace z3 := cell_below z3 hSw; replace z4 := cell_below z4 hSw; replace u0 := cell_below u0 hSw; replace u1 := cell_below u1 hSw; replace u2 := cell_below u2 hSw; replace u3 := cell_below u3 hSw; replace u4 := cell_below u4 hSw; go_simp; try with_reducible rfl)
            try simp only [Act.put, List.setIfInBounds_toArray, List.set_cons_zero, List.set_cons_succ]
            refine takeL 1 (v := ?_) rfl (by kernel_rfl) (by kernel_rfl) (by kernel_rfl) (fun _ _ _ h => h) (by rfl) ?_ (by assumption) ?_
            rotate_left
            · (intro w hSw; (try dsimp only at hSw); replace z0 := cell_below z0 hSw; replace z1 := cell_below z1 hSw; replace z2 := cell_below z2 hSw; replace z3 := cell_below z3 hSw; replace z4 := cell_below z4 hSw; replace u0 := cell_below u0 hSw; replace u1 := cell_below u1 hSw; replace u2 := cell_below u2 hSw; replace u3 := cell_below u3 hSw; replace u4 := cell_below u4 hSw; go_simp; try with_reducible rfl)
            try simp only [Act.put, List.setIfInBounds_toArray, List.set_cons_zero, List.set_cons_succ]
            refine takeL 3 (v := ?_) rfl (by kernel_rfl) (by kernel_rfl) (by kernel_rfl) (fun _ _ _ h => h) (by rfl) ?_ (by assumption) ?_
            rotate_left
            · (intro w hSw; (try dsimp only at hSw); replace z0 := cell_below z0 hSw; replace z1 := cell_below z1 hSw; replace z2 := cell_below z2 hSw; replace z3 := cell_below z3 hSw; replace z4 := cell_below z4 hSw; replace u0 := cell_below u0 hSw; replace u1 := cell_below u1 hSw; replace u2 := cell_below u2 hSw; replace u3 := cell_below u3 hSw; replace u4 := cell_below u4 hSw; go_simp; try with_reducible rfl)
            try simp only [Act.put, List.setIfInBounds_toArray, List.set_cons_zero, List.set_cons_succ]
            refine takeL 4 (v := ?_) rfl (by kernel_rfl) (by kernel_rfl) (by kernel_rfl) (fun _ _ _ h => h) (by rfl) ?_ (by assumption) ?_
            rotate_left
            · (intro w hSw; (try dsimp only at hSw); replace z0 := cell_below z0 hSw; replace z1 := cell_below z1 hSw; replace z2 := cell_below z2 hSw; replace z3 := cell_below z3 hSw; replace z4 := cell_below z4 hSw; replace u0 := cell_below u0 hSw; replace u1 := cell_below u1 hSw; replace u2 := cell_below u2 hSw; replace u3 := cell_below u3 hSw; replace u4 := cell_below u4 hSw; go_simp; try with_reducible rfl)
            try simp only [Act.put, List.setIfInBounds_toArray, List.set_cons_zero, List.set_cons_succ]
            refine callL 2 rfl (by kernel_rfl) (by rfl) (fun K hK => ?_)
            go_simp
            refine (sameA_any _ (AnsW.keep HXw.out HCUR.out) (AnsW.keep HYw.out HCUR.out) HXF.out HYF.out).mono ?_
            rintro e wx1 ⟨rfl, hb⟩
            have HC1 := Lib.hid hb
            have HCUR := Lib.hid (Below.to HCUR.out hb)
            have HCR2 := Lib.hid (Below.to HCR2.out hb)
            clear hb
            go_simp
            refine hK.out _ _ ?_ (fun hS1 => ?_)
            · exact Below.to hS0 HC1.out
            clear hK K
            refine callL 5 rfl (by kernel_rfl) (by rfl) (fun K hK => ?_)
            go_simp
            refine (sameR_any _ (AnsW.keep HXw.out HCUR.out) (AnsW.keep HYw.out HCUR.out) HXF.out HYF.out).mono ?_
            rintro e wx2 ⟨rfl, hb⟩
            have HC2 := Lib.hid hb
            have HCUR := Lib.hid (Below.to HCUR.out hb)
            have HCR2 := Lib.hid (Below.to HCR2.out hb)
            clear hb
            go_simp
            refine hK.out _ _ ?_ (fun hS2 => ?_)
            · exact Below.to hS1 HC2.out
            clear hK K
            generalize sameA x y = sv at *
            refine takeL 6 (v := ?_) rfl (by kernel_rfl) (by kernel_rfl) (by kernel_rfl) (fun _ _ _ h => h) (by rfl) ?_ (by assumption) ?_
            rotate_left
            · (intro w hSw; (try dsimp only at hSw); replace z0 := cell_below z0 hSw; replace z1 := cell_below z1 hSw; replace z2 := cell_below z2 hSw; replace z3 := cell_below z3 hSw; replace z4 := cell_below z4 hSw; replace u0 := cell_below u0 hSw; replace u1 := cell_below u1 hSw; replace u2 := cell_below u2 hSw; replace u3 := cell_below u3 hSw; replace u4 := cell_below u4 hSw; go_simp; try with_reducible rfl)
            try simp only [Act.put, List.setIfInBounds_toArray, List.set_cons_zero, List.set_cons_succ]
            refine takeL 7 (v := ?_) rfl (by kernel_rfl) (by kernel_rfl) (by kernel_rfl) (fun _ _ _ h => h) (by rfl) ?_ (by assumption) ?_
            rotate_left
            · (intro w hSw; (try dsimp only at hSw); replace z0 := cell_below z0 hSw; replace z1 := cell_below z1 hSw; replace z2 := cell_below z2 hSw; replace z3 := cell_below z3 hSw; replace z4 := cell_below z4 hSw; replace u0 := cell_below u0 hSw; replace u1 := cell_below u1 hSw; replace u2 := cell_below u2 hSw; replace u3 := cell_below u3 hSw; replace u4 := cell_below u4 hSw; go_simp; try with_reducible rfl)
            try simp only [Act.put, List.setIfInBounds_toArray, List.set_cons_zero, List.set_cons_succ]
            refine takeL 8 (v := ?_) rfl (by kernel_rfl) (by kernel_rfl) (by kernel_rfl) (fun _ _ _ h => h) (by rfl) ?_ (by assumption) ?_
            rotate_left
            · (intro w hSw; (try dsimp only at hSw); replace z0 := cell_below z0 hSw; replace z1 := cell_below z1 hSw; replace z2 := cell_below z2 hSw; replace z3 := cell_below z3 hSw; replace z4 := cell_below z4 hSw; replace u0 := cell_below u0 hSw; replace u1 := cell_below u1 hSw; replace u2 := cell_below u2 hSw; replace u3 := cell_below u3 hSw; replace u4 := cell_below u4 hSw; go_simp; try with_reducible rfl)
            try simp only [Act.put, List.setIfInBounds_toArray, List.set_cons_zero, List.set_cons_succ]
            refine takeL 9 (v := ?_) rfl (by kernel_rfl) (by kernel_rfl) (by kernel_rfl) (fun _ _ _ h => h) (by rfl) ?_ (by assumption) ?_
            rotate_left
            · (intro w hSw; (try dsimp only at hSw); replace z0 := cell_below z0 hSw; replace z1 := cell_below z1 hSw; replace z2 := cell_below z2 hSw; replace z3 := cell_below z3 hSw; replace z4 := cell_below z4 hSw; replace u0 := cell_below u0 hSw; replace u1 := cell_below u1 hSw; replace u2 := cell_below u2 hSw; replace u3 := cell_below u3 hSw; replace u4 := cell_below u4 hSw; go_simp; try with_reducible rfl)
            try simp only [Act.put, List.setIfInBounds_toArray, List.set_cons_zero, List.set_cons_succ]
            refine takeL 11 (v := ?_) rfl (by kernel_rfl) (by kernel_rfl) (by kernel_rfl) (fun _ _ _ h => h) (by rfl) ?_ (by assumption) ?_
            rotate_left
            · (intro w hSw; (try dsimp only at hSw); replace z0 := cell_below z0 hSw; replace z1 := cell_below z1 hSw; replace z2 := cell_below z2 hSw; replace z3 := cell_below z3 hSw; replace z4 := cell_below z4 hSw; replace u0 := cell_below u0 hSw; replace u1 := cell_below u1 hSw; replace u2 := cell_below u2 hSw; replace u3 := cell_below u3 hSw; replace u4 := cell_below u4 hSw; go_simp; try with_reducible rfl)
            try simp only [Act.put, List.setIfInBounds_toArray, List.set_cons_zero, List.set_cons_succ]
            refine takeL 13 (v := ?_) rfl (by kernel_rfl) (by kernel_rfl) (by kernel_rfl) (fun _ _ _ h => h) (by rfl) ?_ (by assumption) ?_
            rotate_left
            · (intro w hSw; (try dsimp only at hSw); replace z0 := cell_below z0 hSw; replace z1 := cell_below z1 hSw; replace z2 := cell_below z2 hSw; replace z3 := cell_below z3 hSw; replace z4 := cell_below z4 hSw; replace u0 := cell_below u0 hSw; replace u1 := cell_below u1 hSw; replace u2 := cell_below u2 hSw; replace u3 := cell_below u3 hSw; replace u4 := cell_below u4 hSw; go_simp; try with_reducible rfl)
            try simp only [Act.put, List.setIfInBounds_toArray, List.set_cons_zero, List.set_cons_succ]
            refine callL 10 rfl (by kernel_rfl) (by rfl) (fun K hK => ?_)
            go_simp
            refine (instA_any _ (AnsW.keep HXw.out HCUR.out) (AnsW.keep HYw.out HCUR.out) HXF.out HYF.out).mono ?_
            rintro e wx3 ⟨rfl, hb⟩
            have HC3 := Lib.hid hb
            have HCUR := Lib.hid (Below.to HCUR.out hb)
            have HCR2 := Lib.hid (Below.to HCR2.out hb)
            clear hb
            go_simp
            refine hK.out _ _ ?_ (fun hS3 => ?_)
            · exact Below.to hS2 HC3.out
            clear hK K
            refine callL 12 rfl (by kernel_rfl) (by rfl) (fun K hK => ?_)
            go_simp
            refine (tuple3_any (x := x) _ (AnsW.keep HXw.out HCUR.out) (HXF.out.binds HXw.out)).mono ?_
            rintro e wx4 ⟨aHM3, nHM3, cHM3, rfl, hb, hm⟩
            have HC4 := Lib.hid hb
            have HCUR := Lib.hid (Below.to HCUR.out hb)
            have HCR2 := Lib.hid (Below.to HCR2.out hb)
            have hm0 := hm
            have HM3 := Lib.hid hm0
            clear hm hm0
            clear hb
            go_simp
            refine hK.out _ _ ?_ (fun hS4 => ?_)
            · exact Below.to hS3 HC4.out
            clear hK K
            refine callL 14 rfl (by kernel_rfl) (by rfl) (fun K hK => ?_)
            go_simp
            refine (tuple3_any (x := y) _ (AnsW.keep HYw.out HCUR.out) (HYF.out.binds HYw.out)).mono ?_
            rintro e wx5 ⟨aHM4, nHM4, cHM4, rfl, hb, hm⟩
            have HC5 := Lib.hid hb
            have HCUR := Lib.hid (Below.to HCUR.out hb)
            have HCR2 := Lib.hid (Below.to HCR2.out hb)
            have hm0 := hm
            have HM3 := Lib.hid (MemW.keep HM3.out hb)
            have HM4 := Lib.hid hm0
            clear hm hm0
            clear hb
            go_simp
            refine hK.out _ _ ?_ (fun hS5 => ?_)
            · exact Below.to hS4 HC5.out
            clear hK K
            refine callL 15 rfl (by kernel_rfl) (by rfl) (fun K hK => ?_)
            go_simp
            refine (rinst_any (p := tupT x) (t := tupT y) _ HM3.out HM4.out HXF.out.big4).mono ?_
            rintro e wx6 ⟨rfl, hb⟩
            have HC6 := Lib.hid hb
            have HCUR := Lib.hid (Below.to HCUR.out hb)
            have HCR2 := Lib.hid (Below.to HCR2.out hb)
            rw [show inst (tupT x) (tupT y) = instA x y from rfl]
            clear hb
            go_simp
            refine hK.out _ _ ?_ (fun hS6 => ?_)
            · exact Below.to hS5 HC6.out
            clear hK K
            generalize instA x y = iv at *
            refine takeL 16 (v := ?_) rfl (by kernel_rfl) (by kernel_rfl) (by kernel_rfl) (fun _ _ _ h => h) (by rfl) ?_ (by assumption) ?_
            rotate_left
            · (intro w hSw; (try dsimp only at hSw); replace z0 := cell_below z0 hSw; replace z1 := cell_below z1 hSw; replace z2 := cell_below z2 hSw; replace z3 := cell_below z3 hSw; replace z4 := cell_below z4 hSw; replace u0 := cell_below u0 hSw; replace u1 := cell_below u1 hSw; replace u2 := cell_below u2 hSw; replace u3 := cell_below u3 hSw; replace u4 := cell_below u4 hSw; go_simp; try with_reducible rfl)
            try simp only [Act.put, List.setIfInBounds_toArray, List.set_cons_zero, List.set_cons_succ]
            refine takeL 17 (v := ?_) rfl (by kernel_rfl) (by kernel_rfl) (by kernel_rfl) (fun _ _ _ h => h) (by rfl) ?_ (by assumption) ?_
            rotate_left
            · (intro w hSw; (try dsimp only at hSw); replace z0 := cell_below z0 hSw; replace z1 := cell_below z1 hSw; replace z2 := cell_below z2 hSw; replace z3 := cell_below z3 hSw; replace z4 := cell_below z4 hSw; replace u0 := cell_below u0 hSw; replace u1 := cell_below u1 hSw; replace u2 := cell_below u2 hSw; replace u3 := cell_below u3 hSw; replace u4 := cell_below u4 hSw; go_simp; try with_reducible rfl)
            try simp only [Act.put, List.setIfInBounds_toArray, List.set_cons_zero, List.set_cons_succ]
            refine wpAnyH_done (by kernel_rfl) ?_ _
            go_wp2_with fail
            go_roundw
            case rel => exact ⟨k2 + 1, by omega, by go_num, by rw [HS1.out]; rfl, Lib.hid (HCR3.out.trans (HCR2.out.mono HCR3.out.size))⟩
            case measure => simp [intOf]; omega
          | false =>
            refine wp_region_held_drew (S := fun w' => Below (W).heap.size (W) w') (by kernel_rfl) (below_drew _) (fun hS0 => ?_)
            refine takeL 0 (v := ?_) rfl (by kernel_rfl) (by kernel_rfl) (by kernel_rfl) (fun _ _ _ h => h) (by rfl) ?_ (by assumption) ?_
            rotate_left
            · (intro w hSw; (try dsimp only at hSw); replace z0 := cell_below z0 hSw; replace z1 := cell_below z1 hSw; replace z2 := cell_below z2 hSw; replace z3 := cell_below z3 hSw; replace z4 := cell_below z4 hSw; replace u0 := cell_below u0 hSw; replace u1 := cell_below u1 hSw; replace u2 := cell_below u2 hSw; replace u3 := cell_below u3 hSw; replace u4 := cell_below u4 hSw; go_simp; try with_reducible rfl)
            try simp only [Act.put, List.setIfInBounds_toArray, List.set_cons_zero, List.set_cons_succ]
            refine takeL 1 (v := ?_) rfl (by kernel_rfl) (by kernel_rfl) (by kernel_rfl) (fun _ _ _ h => h) (by rfl) ?_ (by assumption) ?_
            rotate_left
            · (intro w hSw; (try dsimp only at hSw); replace z0 := cell_below z0 hSw; replace z1 := cell_below z1 hSw; replace z2 := cell_below z2 hSw; replace z3 := cell_below z3 hSw; replace z4 := cell_below z4 hSw; replace u0 := cell_below u0 hSw; replace u1 := cell_below u1 hSw; replace u2 := cell_below u2 hSw; replace u3 := cell_below u3 hSw; replace u4 := cell_below u4 hSw; go_simp; try with_reducible rfl)
            try simp only [Act.put, List.setIfInBounds_toArray, List.set_cons_zero, List.set_cons_succ]
            refine takeL 2 (v := ?_) rfl (by kernel_rfl) (by kernel_rfl) (by kernel_rfl) (fun _ _ _ h => h) (by rfl) ?_ (by assumption) ?_
            rotate_left
            · (intro w hSw; (try dsimp only at hSw); replace z0 := cell_below z0 hSw; replace z1 := cell_below z1 hSw; replace z2 := cell_below z2 hSw; replace z3 := cell_below z3 hSw; replace z4 := cell_below z4 hSw; replace u0 := cell_below u0 hSw; replace u1 := cell_below u1 hSw; replace u2 := cell_below u2 hSw; replace u3 := cell_below u3 hSw; replace u4 := cell_below u4 hSw; go_simp; try with_reducible rfl)
            try simp only [Act.put, List.setIfInBounds_toArray, List.set_cons_zero, List.set_cons_succ]
            refine takeL 4 (v := ?_) rfl (by kernel_rfl) (by kernel_rfl) (by kernel_rfl) (fun _ _ _ h => h) (by rfl) ?_ (by assumption) ?_
            rotate_left
            · (intro w hSw; (try dsimp only at hSw); replace z0 := cell_below z0 hSw; replace z1 := cell_below z1 hSw; replace z2 := cell_below z2 hSw; replace z3 := cell_below z3 hSw; replace z4 := cell_below z4 hSw; replace u0 := cell_below u0 hSw; replace u1 := cell_below u1 hSw; replace u2 := cell_below u2 hSw; replace u3 := cell_below u3 hSw; replace u4 := cell_below u4 hSw; go_simp; try with_reducible rfl)
            try simp only [Act.put, List.setIfInBounds_toArray, List.set_cons_zero, List.set_cons_succ]
            refine callL 3 rfl (by kernel_rfl) (by rfl) (fun K hK => ?_)
            go_simp
            refine (tuple3_any (x := y) _ (AnsW.keep HYw.out HCUR.out) (HYF.out.binds HYw.out)).mono ?_
            rintro e wx1 ⟨aHM1, nHM1, cHM1, rfl, hb, hm⟩
            have HC1 := Lib.hid hb
            have HCUR := Lib.hid (Below.to HCUR.out hb)
            have HCR2 := Lib.hid (Below.to HCR2.out hb)
            have hm0 := hm
            have HM1 := Lib.hid hm0
            clear hm hm0
            clear hb
            go_simp
            refine hK.out _ _ ?_ (fun hS1 => ?_)
            · exact Below.to hS0 HC1.out
            clear hK K
            refine callL 5 rfl (by kernel_rfl) (by rfl) (fun K hK => ?_)
            go_simp
            refine (tuple3_any (x := x) _ (AnsW.keep HXw.out HCUR.out) (HXF.out.binds HXw.out)).mono ?_
            rintro e wx2 ⟨aHM2, nHM2, cHM2, rfl, hb, hm⟩
            have HC2 := Lib.hid hb
            have HCUR := Lib.hid (Below.to HCUR.out hb)
            have HCR2 := Lib.hid (Below.to HCR2.out hb)
            have hm0 := hm
            have HM1 := Lib.hid (MemW.keep HM1.out hb)
            have HM2 := Lib.hid hm0
            clear hm hm0
            clear hb
            go_simp
            refine hK.out _ _ ?_ (fun hS2 => ?_)
            · exact Below.to hS1 HC2.out
            clear hK K
            refine callL 6 rfl (by kernel_rfl) (by rfl) (fun K hK => ?_)
            go_simp
            refine (rinst_any (p := tupT y) (t := tupT x) _ HM1.out HM2.out HYF.out.big4).mono ?_
            rintro e wx3 ⟨rfl, hb⟩
            have HC3 := Lib.hid hb
            have HCUR := Lib.hid (Below.to HCUR.out hb)
            have HCR2 := Lib.hid (Below.to HCR2.out hb)
            rw [show inst (tupT y) (tupT x) = V from HV.out]
            clear hb
            go_simp
            refine hK.out _ _ ?_ (fun hS3 => ?_)
            · exact Below.to hS2 HC3.out
            clear hK K
            refine takeL 7 (v := ?_) rfl (by kernel_rfl) (by kernel_rfl) (by kernel_rfl) (fun _ _ _ h => h) (by rfl) ?_ (by assumption) ?_
            rotate_left
            · (intro w hSw; (try dsimp only at hSw); replace z0 := cell_below z0 hSw; replace z1 := cell_below z1 hSw; replace z2 := cell_below z2 hSw; replace z3 := cell_below z3 hSw; replace z4 := cell_below z4 hSw; replace u0 := cell_below u0 hSw; replace u1 := cell_below u1 hSw; replace u2 := cell_below u2 hSw; replace u3 := cell_below u3 hSw; replace u4 := cell_below u4 hSw; go_simp; try with_reducible rfl)
            try simp only [Act.put, List.setIfInBounds_toArray, List.set_cons_zero, List.set_cons_succ]
            refine takeL 8 (v := ?_) rfl (by kernel_rfl) (by kernel_rfl) (by kernel_rfl) (fun _ _ _ h => h) (by rfl) ?_ (by assumption) ?_
            rotate_left
            · (intro w hSw; (try dsimp only at hSw); replace z0 := cell_below z0 hSw; replace z1 := cell_below z1 hSw; replace z2 := cell_below z2 hSw; replace z3 := cell_below z3 hSw; replace z4 := cell_below z4 hSw; replace u0 := cell_below u0 hSw; replace u1 := cell_below u1 hSw; replace u2 := cell_below u2 hSw; replace u3 := cell_below u3 hSw; replace u4 := cell_below u4 hSw; go_simp; try with_reducible rfl)
            try simp only [Act.put, List.setIfInBounds_toArray, List.set_cons_zero, List.set_cons_succ]
            refine wpAnyH_done (by kernel_rfl) ?_ _
            go_wp2_with fail
            replace z0 := cell_below z0 HCR2.out
            replace z1 := cell_below z1 HCR2.out
            replace z2 := cell_below z2 HCR2.out
            replace z3 := cell_below z3 HCR2.out
            replace z4 := cell_below z4 HCR2.out
            replace u0 := cell_below u0 HCR2.out
            replace u1 := cell_below u1 HCR2.out
            replace u2 := cell_below u2 HCR2.out
            replace u3 := cell_below u3 HCR2.out
            replace u4 := cell_below u4 HCR2.out
            have HB15 : Hid (Below wx3.heap.size wx3 wx3.drew) := Lib.hid (below_drew _)
            replace HCUR := Lib.hid (HCUR.out.trans ((below_drew _).mono HCUR.out.size))
            replace HCR2 := Lib.hid (HCR2.out.trans ((below_drew _).mono HCR2.out.size))
            refine wp_region_held_drew (S := fun w' => Below (wx3).heap.size (wx3) w') (by kernel_rfl) (below_drew _) (fun hS3 => ?_)
            refine takeL 0 (v := ?_) rfl (by kernel_rfl) (by kernel_rfl) (by kernel_rfl) (fun _ _ _ h => h) (by rfl) ?_ (by assumption) ?_
            rotate_left
            · (intro w hSw; (try dsimp only at hSw); replace z0 := cell_below z0 hSw; replace z1 := cell_below z1 hSw; replace z2 := cell_below z2 hSw; replace z3 := cell_below z3 hSw; replace z4 := cell_below z4 hSw; replace u0 := cell_below u0 hSw; replace u1 := cell_below u1 hSw; replace u2 := cell_below u2 hSw; replace u3 := cell_below u3 hSw; replace u4 := cell_below u4 hSw; go_simp; try with_reducible rfl)
            try simp only [Act.put, List.setIfInBounds_toArray, List.set_cons_zero, List.set_cons_succ]
            refine takeL 1 (v := ?_) rfl (by kernel_rfl) (by kernel_rfl) (by kernel_rfl) (fun _ _ _ h => h) (by rfl) ?_ (by assumption) ?_
            rotate_left
            · (intro w hSw; (try dsimp only at hSw); replace z0 := cell_below z0 hSw; replace z1 := cell_below z1 hSw; replace z2 := cell_below z2 hSw; replace z3 := cell_below z3 hSw; replace z4 := cell_below z4 hSw; replace u0 := cell_below u0 hSw; replace u1 := cell_below u1 hSw; replace u2 := cell_below u2 hSw; replace u3 := cell_below u3 hSw; replace u4 := cell_below u4 hSw; go_simp; try with_reducible rfl)
            try simp only [Act.put, List.setIfInBounds_toArray, List.set_cons_zero, List.set_cons_succ]
            refine takeL 3 (v := ?_) rfl (by kernel_rfl) (by kernel_rfl) (by kernel_rfl) (fun _ _ _ h => h) (by rfl) ?_ (by assumption) ?_
            rotate_left
            · (intro w hSw; (try dsimp only at hSw); replace z0 := cell_below z0 hSw; replace z1 := cell_below z1 hSw; replace z2 := cell_below z2 hSw; replace z3 := cell_below z3 hSw; replace z4 := cell_below z4 hSw; replace u0 := cell_below u0 hSw; replace u1 := cell_below u1 hSw; replace u2 := cell_below u2 hSw; replace u3 := cell_below u3 hSw; replace u4 := cell_below u4 hSw; go_simp; try with_reducible rfl)
            try simp only [Act.put, List.setIfInBounds_toArray, List.set_cons_zero, List.set_cons_succ]
            refine takeL 4 (v := ?_) rfl (by kernel_rfl) (by kernel_rfl) (by kernel_rfl) (fun _ _ _ h => h) (by rfl) ?_ (by assumption) ?_
            rotate_left
            · (intro w hSw; (try dsimp only at hSw); replace z0 := cell_below z0 hSw; replace z1 := cell_below z1 hSw; replace z2 := cell_below z2 hSw; replace z3 := cell_below z3 hSw; replace z4 := cell_below z4 hSw; replace u0 := cell_below u0 hSw; replace u1 := cell_below u1 hSw; replace u2 := cell_below u2 hSw; replace u3 := cell_below u3 hSw; replace u4 := cell_below u4 hSw; go_simp; try with_reducible rfl)
            try simp only [Act.put, List.setIfInBounds_toArray, List.set_cons_zero, List.set_cons_succ]
            refine callL 2 rfl (by kernel_rfl) (by rfl) (fun K hK => ?_)
            go_simp
            refine (sameA_any _ (AnsW.keep HXw.out HCUR.out) (AnsW.keep HYw.out HCUR.out) HXF.out HYF.out).mono ?_
            rintro e wx4 ⟨rfl, hb⟩
            have HC4 := Lib.hid hb
            have HCUR := Lib.hid (Below.to HCUR.out hb)
            have HCR2 := Lib.hid (Below.to HCR2.out hb)
            clear hb
            go_simp
            refine hK.out _ _ ?_ (fun hS4 => ?_)
            · exact Below.to hS3 HC4.out
            clear hK K
            refine callL 5 rfl (by kernel_rfl) (by rfl) (fun K hK => ?_)
            go_simp
            refine (sameR_any _ (AnsW.keep HXw.out HCUR.out) (AnsW.keep HYw.out HCUR.out) HXF.out HYF.out).mono ?_
            rintro e wx5 ⟨rfl, hb⟩
            have HC5 := Lib.hid hb
            have HCUR := Lib.hid (Below.to HCUR.out hb)
            have HCR2 := Lib.hid (Below.to HCR2.out hb)
            clear hb
            go_simp
            refine hK.out _ _ ?_ (fun hS5 => ?_)
            · exact Below.to hS4 HC5.out
            clear hK K
            generalize sameA x y = sv at *
            refine takeL 6 (v := ?_) rfl (by kernel_rfl) (by kernel_rfl) (by kernel_rfl) (fun _ _ _ h => h) (by rfl) ?_ (by assumption) ?_
            rotate_left
            · (intro w hSw; (try dsimp only at hSw); replace z0 := cell_below z0 hSw; replace z1 := cell_below z1 hSw; replace z2 := cell_below z2 hSw; replace z3 := cell_below z3 hSw; replace z4 := cell_below z4 hSw; replace u0 := cell_below u0 hSw; replace u1 := cell_below u1 hSw; replace u2 := cell_below u2 hSw; replace u3 := cell_below u3 hSw; replace u4 := cell_below u4 hSw; go_simp; try with_reducible rfl)
            try simp only [Act.put, List.setIfInBounds_toArray, List.set_cons_zero, List.set_cons_succ]
            refine takeL 7 (v := ?_) rfl (by kernel_rfl) (by kernel_rfl) (by kernel_rfl) (fun _ _ _ h => h) (by rfl) ?_ (by assumption) ?_
            rotate_left
            · (intro w hSw; (try dsimp only at hSw); replace z0 := cell_below z0 hSw; replace z1 := cell_below z1 hSw; replace z2 := cell_below z2 hSw; replace z3 := cell_below z3 hSw; replace z4 := cell_below z4 hSw; replace u0 := cell_below u0 hSw; replace u1 := cell_below u1 hSw; replace u2 := cell_below u2 hSw; replace u3 := cell_below u3 hSw; replace u4 := cell_below u4 hSw; go_simp; try with_reducible rfl)
            try simp only [Act.put, List.setIfInBounds_toArray, List.set_cons_zero, List.set_cons_succ]
            refine takeL 8 (v := ?_) rfl (by kernel_rfl) (by kernel_rfl) (by kernel_rfl) (fun _ _ _ h => h) (by rfl) ?_ (by assumption) ?_
            rotate_left
            · (intro w hSw; (try dsimp only at hSw); replace z0 := cell_below z0 hSw; replace z1 := cell_below z1 hSw; replace z2 := cell_below z2 hSw; replace z3 := cell_below z3 hSw; replace z4 := cell_below z4 hSw; replace u0 := cell_below u0 hSw; replace u1 := cell_below u1 hSw; replace u2 := cell_below u2 hSw; replace u3 := cell_below u3 hSw; replace u4 := cell_below u4 hSw; go_simp; try with_reducible rfl)
            try simp only [Act.put, List.setIfInBounds_toArray, List.set_cons_zero, List.set_cons_succ]
            refine takeL 9 (v := ?_) rfl (by kernel_rfl) (by kernel_rfl) (by kernel_rfl) (fun _ _ _ h => h) (by rfl) ?_ (by assumption) ?_
            rotate_left
            · (intro w hSw; (try dsimp only at hSw); replace z0 := cell_below z0 hSw; replace z1 := cell_below z1 hSw; replace z2 := cell_below z2 hSw; replace z3 := cell_below z3 hSw; replace z4 := cell_below z4 hSw; replace u0 := cell_below u0 hSw; replace u1 := cell_below u1 hSw; replace u2 := cell_below u2 hSw; replace u3 := cell_below u3 hSw; replace u4 := cell_below u4 hSw; go_simp; try with_reducible rfl)
            try simp only [Act.put, List.setIfInBounds_toArray, List.set_cons_zero, List.set_cons_succ]
            refine takeL 11 (v := ?_) rfl (by kernel_rfl) (by kernel_rfl) (by kernel_rfl) (fun _ _ _ h => h) (by rfl) ?_ (by assumption) ?_
            rotate_left
            · (intro w hSw; (try dsimp only at hSw); replace z0 := cell_below z0 hSw; replace z1 := cell_below z1 hSw; replace z2 := cell_below z2 hSw; replace z3 := cell_below z3 hSw; replace z4 := cell_below z4 hSw; replace u0 := cell_below u0 hSw; replace u1 := cell_below u1 hSw; replace u2 := cell_below u2 hSw; replace u3 := cell_below u3 hSw; replace u4 := cell_below u4 hSw; go_simp; try with_reducible rfl)
            try simp only [Act.put, List.setIfInBounds_toArray, List.set_cons_zero, List.set_cons_succ]
            refine takeL 13 (v := ?_) rfl (by kernel_rfl) (by kernel_rfl) (by kernel_rfl) (fun _ _ _ h => h) (by rfl) ?_ (by assumption) ?_
            rotate_left
            · (intro w hSw; (try dsimp only at hSw); replace z0 := cell_below z0 hSw; replace z1 := cell_below z1 hSw; replace z2 := cell_below z2 hSw; replace z3 := cell_below z3 hSw; replace z4 := cell_below z4 hSw; replace u0 := cell_below u0 hSw; replace u1 := cell_below u1 hSw; replace u2 := cell_below u2 hSw; replace u3 := cell_below u3 hSw; replace u4 := cell_below u4 hSw; go_simp; try with_reducible rfl)
            try simp only [Act.put, List.setIfInBounds_toArray, List.set_cons_zero, List.set_cons_succ]
            refine callL 10 rfl (by kernel_rfl) (by rfl) (fun K hK => ?_)
            go_simp
            refine (instA_any _ (AnsW.keep HXw.out HCUR.out) (AnsW.keep HYw.out HCUR.out) HXF.out HYF.out).mono ?_
            rintro e wx6 ⟨rfl, hb⟩
            have HC6 := Lib.hid hb
            have HCUR := Lib.hid (Below.to HCUR.out hb)
            have HCR2 := Lib.hid (Below.to HCR2.out hb)
            clear hb
            go_simp
            refine hK.out _ _ ?_ (fun hS6 => ?_)
            · exact Below.to hS5 HC6.out
            clear hK K
            refine callL 12 rfl (by kernel_rfl) (by rfl) (fun K hK => ?_)
            go_simp
            refine (tuple3_any (x := x) _ (AnsW.keep HXw.out HCUR.out) (HXF.out.binds HXw.out)).mono ?_
            rintro e wx7 ⟨aHM3, nHM3, cHM3, rfl, hb, hm⟩
            have HC7 := Lib.hid hb
            have HCUR := Lib.hid (Below.to HCUR.out hb)
            have HCR2 := Lib.hid (Below.to HCR2.out hb)
            have hm0 := hm
            have HM3 := Lib.hid hm0
            clear hm hm0
            clear hb
            go_simp
            refine hK.out _ _ ?_ (fun hS7 => ?_)
            · exact Below.to hS6 HC7.out
            clear hK K
            refine callL 14 rfl (by kernel_rfl) (by rfl) (fun K hK => ?_)
            go_simp
            refine (tuple3_any (x := y) _ (AnsW.keep HYw.out HCUR.out) (HYF.out.binds HYw.out)).mono ?_
            rintro e wx8 ⟨aHM4, nHM4, cHM4, rfl, hb, hm⟩
            have HC8 := Lib.hid hb
            have HCUR := Lib.hid (Below.to HCUR.out hb)
            have HCR2 := Lib.hid (Below.to HCR2.out hb)
            have hm0 := hm
            have HM3 := Lib.hid (MemW.keep HM3.out hb)
            have HM4 := Lib.hid hm0
            clear hm hm0
            clear hb
            go_simp
            refine hK.out _ _ ?_ (fun hS8 => ?_)
            · exact Below.to hS7 HC8.out
            clear hK K
            refine callL 15 rfl (by kernel_rfl) (by rfl) (fun K hK => ?_)
            go_simp
            refine (rinst_any (p := tupT x) (t := tupT y) _ HM3.out HM4.out HXF.out.big4).mono ?_
            rintro e wx9 ⟨rfl, hb⟩
            have HC9 := Lib.hid hb
            have HCUR := Lib.hid (Below.to HCUR.out hb)
            have HCR2 := Lib.hid (Below.to HCR2.out hb)
            rw [show inst (tupT x) (tupT y) = instA x y from rfl]
            clear hb
            go_simp
            refine hK.out _ _ ?_ (fun hS9 => ?_)
            · exact Below.to hS8 HC9.out
            clear hK K
            generalize instA x y = iv at *
            refine takeL 16 (v := ?_) rfl (by kernel_rfl) (by kernel_rfl) (by kernel_rfl) (fun _ _ _ h => h) (by rfl) ?_ (by assumption) ?_
            rotate_left
            · (intro w hSw; (try dsimp only at hSw); replace z0 := cell_below z0 hSw; replace z1 := cell_below z1 hSw; replace z2 := cell_below z2 hSw; replace z3 := cell_below z3 hSw; replace z4 := cell_below z4 hSw; replace u0 := cell_below u0 hSw; replace u1 := cell_below u1 hSw; replace u2 := cell_below u2 hSw; replace u3 := cell_below u3 hSw; replace u4 := cell_below u4 hSw; go_simp; try with_reducible rfl)
            try simp only [Act.put, List.setIfInBounds_toArray, List.set_cons_zero, List.set_cons_succ]
            refine takeL 17 (v := ?_) rfl (by kernel_rfl) (by kernel_rfl) (by kernel_rfl) (fun _ _ _ h => h) (by rfl) ?_ (by assumption) ?_
            rotate_left
            · (intro w hSw; (try dsimp only at hSw); replace z0 := cell_below z0 hSw; replace z1 := cell_below z1 hSw; replace z2 := cell_below z2 hSw; replace z3 := cell_below z3 hSw; replace z4 := cell_below z4 hSw; replace u0 := cell_below u0 hSw; replace u1 := cell_below u1 hSw; replace u2 := cell_below u2 hSw; replace u3 := cell_below u3 hSw; replace u4 := cell_below u4 hSw; go_simp; try with_reducible rfl)
            try simp only [Act.put, List.setIfInBounds_toArray, List.set_cons_zero, List.set_cons_succ]
            refine wpAnyH_done (by kernel_rfl) ?_ _
            go_wp2_with fail
            go_roundw
            case rel => exact ⟨k2 + 1, by omega, by go_num, by rw [HS1.out]; rfl, Lib.hid (HCR3.out.trans (HCR2.out.mono HCR3.out.size))⟩
            case measure => simp [intOf]; omega
        · obtain rfl : k2 = nb := by omega
          have hltz2 : ¬ (k2 : Int) < (k2 : Int) := by omega
          have HAny : Hid (((lb.take k2).any fun y => instA y x) = lb.any fun y => instA y x) := Lib.hid (by rw [List.take_of_length_le (by rw [HLB.out]; exact Nat.le_refl _)])
          rw [HAny.out]
          have HO2 := Lib.hid (HOA.out.keep HB2.out)
          obtain ⟨z0, z1, z2, z3, z4⟩ := HX2.out.a5
          generalize hAv : (lb.any fun y => instA y x) = A at *
          clear hAv HAny
          have hkn : (k : Int) ≤ (na : Int) := by omega
          have hkk : (k : Int) ≤ (ka : Int) := by omega
          have HT0 := Lib.hid (times_any (l := la.take k) (x := x) (n := k) (cap := ka) (a := some ⟨bx, ox, none⟩) w2.drew (times_run (MemW.keep HA.out (HBW2.out.trans ((below_drew _).mono HBW2.out.size))) hk hka) (AnsW.keep HXw.out (HBW2.out.trans ((below_drew _).mono HBW2.out.size))) HXF.out (fun y hy => HFA.out y (List.mem_of_mem_take hy)) (by omega))
          generalize hTv : timesA (la.take k) x = Tn at *
          clear hTv
          cases C with
          | true =>
            by_cases hT : Tn = 0
            · have e0 : ((Tn : Int) == 0) = true := by rw [beq_iff_eq]; omega
              rw [if_pos hT] at HON
              clear hT
              go_wp2_with fail
              have HCUR : Hid (Below w.heap.size w w2.drew) := Lib.hid (HBW2.out.trans ((below_drew _).mono HBW2.out.size))
              have HCR2 : Hid (Below w2.heap.size w2 w2.drew) := Lib.hid (below_drew _)
              refine wp_region_held_drew (S := fun w' => Below (w2).heap.size (w2) w') (by kernel_rfl) (below_drew _) (fun hS0 => ?_)
              refine takeL 0 (v := ?_) rfl (by kernel_rfl) (by kernel_rfl) (by kernel_rfl) (fun _ _ _ h => h) (by rfl) ?_ (by assumption) ?_
              rotate_left
              · (intro w hSw; (try dsimp only at hSw); replace z0 := cell_below z0 hSw; replace z1 := cell_below z1 hSw; replace z2 := cell_below z2 hSw; replace z3 := cell_below z3 hSw; replace z4 := cell_below z4 hSw; go_simp; try with_reducible rfl)
              try simp only [Act.put, List.setIfInBounds_toArray, List.set_cons_zero, List.set_cons_succ]
              refine takeL 1 (v := ?_) rfl (by kernel_rfl) (by kernel_rfl) (by kernel_rfl) (fun _ _ _ h => h) (by rfl) ?_ (by assumption) ?_
              rotate_left
              · (intro w hSw; (try dsimp only at hSw); replace z0 := cell_below z0 hSw; replace z1 := cell_below z1 hSw; replace z2 := cell_below z2 hSw; replace z3 := cell_below z3 hSw; replace z4 := cell_below z4 hSw; go_simp; try with_reducible rfl)
              try simp only [Act.put, List.setIfInBounds_toArray, List.set_cons_zero, List.set_cons_succ]
              refine takeL 2 (v := ?_) rfl (by kernel_rfl) (by kernel_rfl) (by kernel_rfl) (fun _ _ _ h => h) (by rfl) ?_ (by assumption) ?_
              rotate_left
              · (intro w hSw; (try dsimp only at hSw); replace z0 := cell_below z0 hSw; replace z1 := cell_below z1 hSw; replace z2 := cell_below z2 hSw; replace z3 := cell_below z3 hSw; replace z4 := cell_below z4 hSw; go_simp; try with_reducible rfl)
              try simp only [Act.put, List.setIfInBounds_toArray, List.set_cons_zero, List.set_cons_succ]
              refine takeL 3 (v := ?_) rfl (by kernel_rfl) (by kernel_rfl) (by kernel_rfl) (fun _ _ _ h => h) (by rfl) ?_ (by assumption) ?_
              rotate_left
              · (intro w hSw; (try dsimp only at hSw); replace z0 := cell_below z0 hSw; replace z1 := cell_below z1 hSw; replace z2 := cell_below z2 hSw; replace z3 := cell_below z3 hSw; replace z4 := cell_below z4 hSw; go_simp; try with_reducible rfl)
              try simp only [Act.put, List.setIfInBounds_toArray, List.set_cons_zero, List.set_cons_succ]
              refine callL 4 rfl (by kernel_rfl) (by rfl) (fun K hK => ?_)
              go_simp
              refine (HT0.out).mono ?_
              rintro e wx1 ⟨rfl, hb⟩
              have HC1 := Lib.hid hb
              have HCUR := Lib.hid (Below.to HCUR.out hb)
              have HCR2 := Lib.hid (Below.to HCR2.out hb)
              clear hb
              go_simp
              refine hK.out _ _ ?_ (fun hS1 => ?_)
              · exact Below.to hS0 HC1.out
              clear hK K
              refine takeL 5 (v := ?_) rfl (by kernel_rfl) (by kernel_rfl) (by kernel_rfl) (fun _ _ _ h => h) (by rfl) ?_ (by assumption) ?_
              rotate_left
              · (intro w hSw; (try dsimp only at hSw); replace z0 := cell_below z0 hSw; replace z1 := cell_below z1 hSw; replace z2 := cell_below z2 hSw; replace z3 := cell_below z3 hSw; replace z4 := cell_below z4 hSw; go_simp; try with_reducible rfl)
              try simp only [Act.put, List.setIfInBounds_toArray, List.set_cons_zero, List.set_cons_succ]
              refine wpAnyH_done (by kernel_rfl) ?_ _
              have HOw := Lib.hid (HO2.out.keep HCR2.out)
              have HX3 := Lib.hid (HX2.out.keep HCR2.out)
              replace z0 := cell_below z0 HCR2.out
              replace z1 := cell_below z1 HCR2.out
              replace z2 := cell_below z2 HCR2.out
              replace z3 := cell_below z3 HCR2.out
              replace z4 := cell_below z4 HCR2.out
              clear HT0 HO2 HX2 HOA
              have HOX := Lib.hid (own_ans (e' := 48) (x := x) HOw.out (Nat.le_refl _) HCUR.out.size (Mem.keep HXw.out.1 (Nat.le_refl _) HCUR.out) (Mem.keep HXw.out.2 (Nat.le_refl _) HCUR.out))
              go_wp2_with (first
                | (at_builtin
                   refine wpList_append_D2 rfl _ _ rfl Try.underlying41 info_ans rfl (by decide) rfl rfl (HOw.out.alloc (.cells #[.slice pb npb cpb, .int .i64 x.value.kind, .string x.value.name, .int .i64 x.value.n, .slice px npx cpx] 48)) HOX.out (by have := HOL.out; simp only [ansRows_len, List.length_cons, List.length_nil] at *; omega) (by have := HOL.out; simp only [ansRows_len, List.length_cons, List.length_nil] at *; omega) (by rw [World.size_alloc]; exact Nat.le_succ_of_le HCUR.out.size) ?_
                   intro v8 w6 ho hg _
                   have HOv : Hid (OwnD w.heap.size w.heap.size 48 5 w6 v8 (ansRows (onceA la (k + 1)))) := Lib.hid (by rw [HON.out, ansRows, List.map_append]; exact ho)
                   have HX6 := Lib.hid ((HX3.out.alloc (.cells #[.slice pb npb cpb, .int .i64 x.value.kind, .string x.value.name, .int .i64 x.value.n, .slice px npx cpx] 48)).grown hg (fun q hq => by have := HOW.out q hq; omega))
                   have HC6 := Lib.hid (grown_below (HCUR.out.alloc HCUR.out.size (.cells #[.slice pb npb cpb, .int .i64 x.value.kind, .string x.value.name, .int .i64 x.value.n, .slice px npx cpx] 48)) hg (Nat.le_refl _) (fun q hq => (HOW.out q hq).1))
                   clear z0 z1 z2 z3 z4 ho hg
                   obtain ⟨z0, z1, z2, z3, z4⟩ := HX6.out.a5
                   have hq6 := HX6.out.lt))
              clear HOX HOw HX3 HCUR HCR2
              clear z0 z1 z2 z3 z4
              go_loopw [14, 91] (fun s i w3 => ∃ k3 : Nat, k3 ≤ npb ∧ i = .int .i64 k3 ∧ s = .string (txtA names x.binds k3) ∧ Hid (Below w6.heap.size w6 w3)) (fun _ i _ => npb - (intOf i).toNat)
              case atStart => exact ⟨0, Nat.zero_le _, rfl, rfl, Lib.hid (Below.refl _ _)⟩
              case round =>
                obtain ⟨k3, hk3, rfl, rfl, HB3⟩ := hrel
                rename World => w3
                have HBW3 := Lib.hid (HC6.out.trans (HB3.out.mono HC6.out.size))
                have hbl3 := HXw.out.1.len
                rw [Tm.rows_len] at hbl3
                have hbc3 := hbl3.2.1
                have hbm3 := hbl3.2.2
                have hst : (txtA names x.binds k3).size ≤ 40000000000 := by
                  have h1 := txtA_size (ts := x.binds) HNM0.out (fun t ht => show_small (HXS.out.bind ht).1 (HXS.out.bind ht).2) k3
                  have h2 := HXS.out.2.2
                  omega
                have HX9 := Lib.hid (HX6.out.keep HB3.out)
                have hq9 := HX9.out.lt
                by_cases hlt3 : k3 < npb
                · have hltz3 : (k3 : Int) < (npb : Int) := by omega
                  obtain ⟨bT, oT, t, at_, nt, ct, rfl, hbT, Ht, t0, t1, t2, t3, GT⟩ := tm_at HXw.out.1 k3 hlt3
                  have hm := HXS.out.bind (mem_of_at Ht.out)
                  have hsh := show_small hm.1 hm.2
                  have HBA3 := Lib.hid (HB3.out.alloc HB3.out.size (.cells #[.int .i64 t.kind, .string t.name, .int .i64 t.n, .slice at_ nt ct] 24))
                  have HBWA := Lib.hid (HBW3.out.alloc HBW3.out.size (.cells #[.int .i64 t.kind, .string t.name, .int .i64 t.n, .slice at_ nt ct] 24))
                  have HCS := Lib.hid (showRt hm.1 hm.2 (w3.alloc (.cells #[.int .i64 t.kind, .string t.name, .int .i64 t.n, .slice at_ nt ct] 24)) at_ nt ct (MemW.keep GT.out HBWA.out))
                  have HL := Lib.hid (txtA_at (names := names) Ht.out)
                  replace t0 := cell_below t0 HBW3.out
                  replace t1 := cell_below t1 HBW3.out
                  replace t2 := cell_below t2 HBW3.out
                  replace t3 := cell_below t3 HBW3.out
                  replace hbT : bT < w3.heap.size := Nat.lt_of_lt_of_le hbT HBW3.out.size
                  have hnm := HNM.out k3
                  clear GT hm hbl3
                  generalize showM t = sh at *
                  generalize txtA names x.binds k3 = st at *
                  have i1 : (sh.size : Int) ≤ 1000000000 := by omega
                  have i2 : (st.size : Int) ≤ 40000000000 := by omega
                  by_cases hkn3 : k3 < nc
                  · have hkz : (k3 : Int) < (nc : Int) := by omega
                    obtain ⟨bN, oN, nm, rfl, hbN, Hnm, n0⟩ := str_at HC.out k3 hkn3
                    replace n0 := cell_below n0 HBW3.out
                    replace hbN : bN < w3.heap.size := Nat.lt_of_lt_of_le hbN HBW3.out.size
                    have HNMk := Lib.hid (show nameA names k3 = nm by unfold nameA; rw [Hnm.out]; rfl)
                    rw [HNMk.out] at HL hnm
                    have n1 := cell_below n0 (below_new w3 (.cells #[.int .i64 t.kind, .string t.name, .int .i64 t.n, .slice at_ nt ct] 24))
                    have i3 : (nm.size : Int) ≤ 2000000 := by omega
                    clear hnm hsh hst
                    go_wp2_with fail
                    refine HCS.out.mono ?_
                    rintro e w9 ⟨rfl, hb⟩
                    have HB9 := Lib.hid (HBA3.out.trans (hb.mono HBA3.out.size))
                    clear hb n0 n1
                    go_wp2_with fail
                    go_roundw
                    case rel => exact ⟨k3 + 1, by omega, by go_num, by rw [HL.out]; rfl, HB9⟩
                    case measure => simp [intOf]; omega
                  · have hkz : ¬ (k3 : Int) < (nc : Int) := by omega
                    have HNMk := Lib.hid (show nameA names k3 = ⟨#[63]⟩ by unfold nameA; rw [List.getElem?_eq_none (by have := HLC.out; omega)]; rfl)
                    rw [HNMk.out] at HL
                    clear hnm hsh hst
                    go_wp2_with fail
                    refine HCS.out.mono ?_
                    rintro e w9 ⟨rfl, hb⟩
                    have HB9 := Lib.hid (HBA3.out.trans (hb.mono HBA3.out.size))
                    clear hb
                    go_wp2_with fail
                    go_roundw
                    case rel => exact ⟨k3 + 1, by omega, by go_num, by rw [HL.out]; rfl, HB9⟩
                    case measure => simp [intOf]; omega
                · obtain rfl : k3 = npb := by omega
                  have hltz3 : ¬ (k3 : Int) < (k3 : Int) := by omega
                  have hsh := show_small HXS.out.val.1 HXS.out.val.2
                  have HSF := Lib.hid (show showA names x = txtA names x.binds k3 ++ showM x.value by rw [← hbl3.1]; rfl)
                  obtain ⟨z0, z1, z2, z3, z4⟩ := HX9.out.a5
                  clear hbl3
                  generalize hsv : showM x.value = sh at *
                  have HSV := Lib.hid hsv
                  clear hsv
                  generalize txtA names x.binds k3 = st at *
                  have hss : ¬ (9223372036854775807 < st.size + sh.size) := by omega
                  have i1 : (sh.size : Int) ≤ 1000000000 := by omega
                  have i2 : (st.size : Int) ≤ 40000000000 := by omega
                  clear hsh hst
                  generalize hGv : groundB (tupT x) = G at *
                  have HGv := Lib.hid hGv
                  clear hGv
                  have HCUR : Hid (Below w.heap.size w w3.drew) := Lib.hid (HBW3.out.trans ((below_drew _).mono HBW3.out.size))
                  have HCR2 : Hid (Below w3.heap.size w3 w3.drew) := Lib.hid (below_drew _)
                  go_wp2_with fail
                  refine wp_region_held_drew (S := fun w' => Below (w3).heap.size (w3) w') (by kernel_rfl) (below_drew _) (fun hS0 => ?_)
                  refine takeL 0 (v := ?_) rfl (by kernel_rfl) (by kernel_rfl) (by kernel_rfl) (fun _ _ _ h => h) (by rfl) ?_ (by assumption) ?_
                  rotate_left
                  · (intro w hSw; (try dsimp only at hSw); replace z0 := cell_below z0 hSw; replace z1 := cell_below z1 hSw; replace z2 := cell_below z2 hSw; replace z3 := cell_below z3 hSw; replace z4 := cell_below z4 hSw; go_simp; try with_reducible rfl)
                  try simp only [Act.put, List.setIfInBounds_toArray, List.set_cons_zero, List.set_cons_succ]
                  refine takeL 1 (v := ?_) rfl (by kernel_rfl) (by kernel_rfl) (by kernel_rfl) (fun _ _ _ h => h) (by rfl) ?_ (by assumption) ?_
                  rotate_left
                  · (intro w hSw; (try dsimp only at hSw); replace z0 := cell_below z0 hSw; replace z1 := cell_below z1 hSw; replace z2 := cell_below z2 hSw; replace z3 := cell_below z3 hSw; replace z4 := cell_below z4 hSw; go_simp; try with_reducible rfl)
                  try simp only [Act.put, List.setIfInBounds_toArray, List.set_cons_zero, List.set_cons_succ]
                  refine takeL 3 (v := ?_) rfl (by kernel_rfl) (by kernel_rfl) (by kernel_rfl) (fun _ _ _ h => h) (by rfl) ?_ (by assumption) ?_
                  rotate_left
                  · (intro w hSw; (try dsimp only at hSw); replace z0 := cell_below z0 hSw; replace z1 := cell_below z1 hSw; replace z2 := cell_below z2 hSw; replace z3 := cell_below z3 hSw; replace z4 := cell_below z4 hSw; go_simp; try with_reducible rfl)
                  try simp only [Act.put, List.setIfInBounds_toArray, List.set_cons_zero, List.set_cons_succ]
                  refine takeL 4 (v := ?_) rfl (by kernel_rfl) (by kernel_rfl) (by kernel_rfl) (fun _ _ _ h => h) (by rfl) ?_ (by assumption) ?_
                  rotate_left
                  · (intro w hSw; (try dsimp only at hSw); replace z0 := cell_below z0 hSw; replace z1 := cell_below z1 hSw; replace z2 := cell_below z2 hSw; replace z3 := cell_below z3 hSw; replace z4 := cell_below z4 hSw; go_simp; try with_reducible rfl)
                  try simp only [Act.put, List.setIfInBounds_toArray, List.set_cons_zero, List.set_cons_succ]
                  refine takeL 5 (v := ?_) rfl (by kernel_rfl) (by kernel_rfl) (by kernel_rfl) (fun _ _ _ h => h) (by rfl) ?_ (by assumption) ?_
                  rotate_left
                  · (intro w hSw; (try dsimp only at hSw); replace z0 := cell_below z0 hSw; replace z1 := cell_below z1 hSw; replace z2 := cell_below z2 hSw; replace z3 := cell_below z3 hSw; replace z4 := cell_below z4 hSw; go_simp; try with_reducible rfl)
                  try simp only [Act.put, List.setIfInBounds_toArray, List.set_cons_zero, List.set_cons_succ]
                  refine callL 2 rfl (by kernel_rfl) (by rfl) (fun K hK => ?_)
                  go_simp
                  refine (ansShow_any (names := names) (x := x) _ (MemW.keep HC.out HCUR.out) (AnsW.keep HXw.out HCUR.out) HXS.out HNM0.out).mono ?_
                  rintro e wx1 ⟨rfl, hb⟩
                  have HC1 := Lib.hid hb
                  have HCUR := Lib.hid (Below.to HCUR.out hb)
                  have HCR2 := Lib.hid (Below.to HCR2.out hb)
                  rw [HSF.out]
                  clear hb
                  go_simp
                  refine hK.out _ _ ?_ (fun hS1 => ?_)
                  · exact Below.to hS0 HC1.out
                  clear hK K
                  refine callL 6 rfl (by kernel_rfl) (by rfl) (fun K hK => ?_)
                  go_simp
                  refine (showRt HXS.out.val.1 HXS.out.val.2 _ px npx cpx (MemW.keep HXw.out.2 HCUR.out)).mono ?_
                  rintro e wx2 ⟨rfl, hb⟩
                  have HC2 := Lib.hid hb
                  have HCUR := Lib.hid (Below.to HCUR.out hb)
                  have HCR2 := Lib.hid (Below.to HCR2.out hb)
                  rw [HSV.out]
                  clear hb
                  go_simp
                  refine hK.out _ _ ?_ (fun hS2 => ?_)
                  · exact Below.to hS1 HC2.out
                  clear hK K
                  refine takeL 7 (v := ?_) rfl (by kernel_rfl) (by kernel_rfl) (by kernel_rfl) (fun _ _ _ h => h) (by rfl) ?_ (by assumption) ?_
                  rotate_left
                  · (intro w hSw; (try dsimp only at hSw); replace z0 := cell_below z0 hSw; replace z1 := cell_below z1 hSw; replace z2 := cell_below z2 hSw; replace z3 := cell_below z3 hSw; replace z4 := cell_below z4 hSw; go_simp; try with_reducible rfl)
                  try simp only [Act.put, List.setIfInBounds_toArray, List.set_cons_zero, List.set_cons_succ]
                  refine takeL 8 (v := ?_) rfl (by kernel_rfl) (by kernel_rfl) (by kernel_rfl) (fun _ _ _ h => h) (by rfl) ?_ (by assumption) ?_
                  rotate_left
                  · (intro w hSw; (try dsimp only at hSw); replace z0 := cell_below z0 hSw; replace z1 := cell_below z1 hSw; replace z2 := cell_below z2 hSw; replace z3 := cell_below z3 hSw; replace z4 := cell_below z4 hSw; go_simp; try with_reducible rfl)
                  try simp only [Act.put, List.setIfInBounds_toArray, List.set_cons_zero, List.set_cons_succ]
                  refine takeL 9 (v := ?_) rfl (by kernel_rfl) (by kernel_rfl) (by kernel_rfl) (fun _ _ _ h => h) (by rfl) ?_ (by assumption) ?_
                  rotate_left
                  · (intro w hSw; (try dsimp only at hSw); replace z0 := cell_below z0 hSw; replace z1 := cell_below z1 hSw; replace z2 := cell_below z2 hSw; replace z3 := cell_below z3 hSw; replace z4 := cell_below z4 hSw; go_simp; try with_reducible rfl)
                  try simp only [Act.put, List.setIfInBounds_toArray, List.set_cons_zero, List.set_cons_succ]
                  refine takeL 10 (v := ?_) rfl (by kernel_rfl) (by kernel_rfl) (by kernel_rfl) (fun _ _ _ h => h) (by rfl) ?_ (by assumption) ?_
                  rotate_left
                  · (intro w hSw; (try dsimp only at hSw); replace z0 := cell_below z0 hSw; replace z1 := cell_below z1 hSw; replace z2 := cell_below z2 hSw; replace z3 := cell_below z3 hSw; replace z4 := cell_below z4 hSw; go_simp; try with_reducible rfl)
                  try simp only [Act.put, List.setIfInBounds_toArray, List.set_cons_zero, List.set_cons_succ]
                  refine takeL 12 (v := ?_) rfl (by kernel_rfl) (by kernel_rfl) (by kernel_rfl) (fun _ _ _ h => h) (by rfl) ?_ (by assumption) ?_
                  rotate_left
                  · (intro w hSw; (try dsimp only at hSw); replace z0 := cell_below z0 hSw; replace z1 := cell_below z1 hSw; replace z2 := cell_below z2 hSw; replace z3 := cell_below z3 hSw; replace z4 := cell_below z4 hSw; go_simp; try with_reducible rfl)
                  try simp only [Act.put, List.setIfInBounds_toArray, List.set_cons_zero, List.set_cons_succ]
                  refine callL 11 rfl (by kernel_rfl) (by rfl) (fun K hK => ?_)
                  go_simp
                  refine (ansGround_any (x := x) _ (AnsW.keep HXw.out HCUR.out) HXF.out).mono ?_
                  rintro e wx3 ⟨rfl, hb⟩
                  have HC3 := Lib.hid hb
                  have HCUR := Lib.hid (Below.to HCUR.out hb)
                  have HCR2 := Lib.hid (Below.to HCR2.out hb)
                  rw [HGv.out]
                  clear hb
                  go_simp
                  refine hK.out _ _ ?_ (fun hS3 => ?_)
                  · exact Below.to hS2 HC3.out
                  clear hK K
                  refine callL 13 rfl (by kernel_rfl) (by rfl) (fun K hK => ?_)
                  go_simp
                  refine (tuple3_any (x := x) _ (AnsW.keep HXw.out HCUR.out) (HXF.out.binds HXw.out)).mono ?_
                  rintro e wx4 ⟨aHM1, nHM1, cHM1, rfl, hb, hm⟩
                  have HC4 := Lib.hid hb
                  have HCUR := Lib.hid (Below.to HCUR.out hb)
                  have HCR2 := Lib.hid (Below.to HCR2.out hb)
                  have hm0 := hm
                  have HM1 := Lib.hid hm0
                  clear hm hm0
                  clear hb
                  go_simp
                  refine hK.out _ _ ?_ (fun hS4 => ?_)
                  · exact Below.to hS3 HC4.out
                  clear hK K
                  refine callL 14 rfl (by kernel_rfl) (by rfl) (fun K hK => ?_)
                  go_simp
                  have HMV : Hid (MemW (wx4.alloc (.cells #[.int .i64 1, .string ⟨#[]⟩, .int .i64 0, .slice aHM1 nHM1 cHM1] 24)) (.s 4 (Tm.rows [tupT x])) (.slice (some ⟨wx4.heap.size, 0, none⟩) 1 1)) := Lib.hid (one_mem (tupT x) HM1.out)
                  replace HCUR := Lib.hid (HCUR.out.alloc HCUR.out.size (.cells #[.int .i64 1, .string ⟨#[]⟩, .int .i64 0, .slice aHM1 nHM1 cHM1] 24))
                  replace HCR2 := Lib.hid (HCR2.out.alloc HCR2.out.size (.cells #[.int .i64 1, .string ⟨#[]⟩, .int .i64 0, .slice aHM1 nHM1 cHM1] 24))
                  refine hK.out _ _ ?_ (fun hS5 => ?_)
                  · exact hS4.alloc hS4.size _
                  clear hK K
                  refine callL 15 rfl (by kernel_rfl) (by rfl) (fun K hK => ?_)
                  go_simp
                  refine (vars3_any (l := [tupT x]) _ HMV.out (by rw [Tm.alls, Tm.alls, List.append_nil]; exact HXF.out.big)).mono ?_
                  rintro e wx6 ⟨aV, nV, cV, rfl, hb, hmV⟩
                  have HC6 := Lib.hid hb
                  have HCUR := Lib.hid (Below.to HCUR.out hb)
                  have HCR2 := Lib.hid (Below.to HCR2.out hb)
                  have hgv : ((nV : Int) == 0) = G := by
                    have h1 := (Mem.len hmV).1
                    rw [intRows_len, Tm.alls, Tm.alls, List.append_nil] at h1
                    rw [← HGv.out, ← ground_varsA, ← h1]
                  clear hmV
                  clear hb
                  go_simp
                  refine hK.out _ _ ?_ (fun hS6 => ?_)
                  · exact Below.to hS5 HC6.out
                  clear hK K
                  refine takeL 16 (v := ?_) rfl (by kernel_rfl) (by kernel_rfl) (by kernel_rfl) (fun _ _ _ h => h) (by rfl) ?_ (by assumption) ?_
                  rotate_left
                  · (intro w hSw; (try dsimp only at hSw); replace z0 := cell_below z0 hSw; replace z1 := cell_below z1 hSw; replace z2 := cell_below z2 hSw; replace z3 := cell_below z3 hSw; replace z4 := cell_below z4 hSw; go_simp; try with_reducible rfl)
                  try simp only [Act.put, List.setIfInBounds_toArray, List.set_cons_zero, List.set_cons_succ]
                  refine takeL 17 (v := ?_) rfl (by kernel_rfl) (by kernel_rfl) (by kernel_rfl) (fun _ _ _ h => h) (by rfl) ?_ (by assumption) ?_
                  rotate_left
                  · (intro w hSw; (try dsimp only at hSw); replace z0 := cell_below z0 hSw; replace z1 := cell_below z1 hSw; replace z2 := cell_below z2 hSw; replace z3 := cell_below z3 hSw; replace z4 := cell_below z4 hSw; go_simp; try with_reducible rfl)
                  try simp only [Act.put, List.setIfInBounds_toArray, List.set_cons_zero, List.set_cons_succ]
                  refine takeL 18 (v := ?_) rfl (by kernel_rfl) (by kernel_rfl) (by kernel_rfl) (fun _ _ _ h => h) (by rfl) ?_ (by assumption) ?_
                  rotate_left
                  · (intro w hSw; (try dsimp only at hSw); replace z0 := cell_below z0 hSw; replace z1 := cell_below z1 hSw; replace z2 := cell_below z2 hSw; replace z3 := cell_below z3 hSw; replace z4 := cell_below z4 hSw; go_simp; try with_reducible rfl)
                  try simp only [Act.put, List.setIfInBounds_toArray, List.set_cons_zero, List.set_cons_succ]
                  refine takeL 19 (v := ?_) rfl (by kernel_rfl) (by kernel_rfl) (by kernel_rfl) (fun _ _ _ h => h) (by rfl) ?_ (by assumption) ?_
                  rotate_left
                  · (intro w hSw; (try dsimp only at hSw); replace z0 := cell_below z0 hSw; replace z1 := cell_below z1 hSw; replace z2 := cell_below z2 hSw; replace z3 := cell_below z3 hSw; replace z4 := cell_below z4 hSw; go_simp; try with_reducible rfl)
                  try simp only [Act.put, List.setIfInBounds_toArray, List.set_cons_zero, List.set_cons_succ]
                  refine wpAnyH_done (by kernel_rfl) ?_ _
                  go_wp2_with fail
                  go_roundw
                  case rel => exact ⟨k + 1, by omega, by go_num, by rw [HCV1.out]; rfl, HCUR, Lib.hid (HOv.out.keep (HB3.out.trans (HCR2.out.mono HB3.out.size)))⟩
                  case measure => simp [intOf]; omega
            · have e0 : ((Tn : Int) == 0) = false := by rw [beq_eq_false_iff_ne]; omega
              rw [if_neg hT] at HON
              clear hT
              go_wp2_with fail
              have HCUR : Hid (Below w.heap.size w w2.drew) := Lib.hid (HBW2.out.trans ((below_drew _).mono HBW2.out.size))
              have HCR2 : Hid (Below w2.heap.size w2 w2.drew) := Lib.hid (below_drew _)
              refine wp_region_held_drew (S := fun w' => Below (w2).heap.size (w2) w') (by kernel_rfl) (below_drew _) (fun hS0 => ?_)
              refine takeL 0 (v := ?_) rfl (by kernel_rfl) (by kernel_rfl) (by kernel_rfl) (fun _ _ _ h => h) (by rfl) ?_ (by assumption) ?_
              rotate_left
              · (intro w hSw; (try dsimp only at hSw); replace z0 := cell_below z0 hSw; replace z1 := cell_below z1 hSw; replace z2 := cell_below z2 hSw; replace z3 := cell_below z3 hSw; replace z4 := cell_below z4 hSw; go_simp; try with_reducible rfl)
              try simp only [Act.put, List.setIfInBounds_toArray, List.set_cons_zero, List.set_cons_succ]
              refine takeL 1 (v := ?_) rfl (by kernel_rfl) (by kernel_rfl) (by kernel_rfl) (fun _ _ _ h => h) (by rfl) ?_ (by assumption) ?_
              rotate_left
              · (intro w hSw; (try dsimp only at hSw); replace z0 := cell_below z0 hSw; replace z1 := cell_below z1 hSw; replace z2 := cell_below z2 hSw; replace z3 := cell_below z3 hSw; replace z4 := cell_below z4 hSw; go_simp; try with_reducible rfl)
              try simp only [Act.put, List.setIfInBounds_toArray, List.set_cons_zero, List.set_cons_succ]
              refine takeL 2 (v := ?_) rfl (by kernel_rfl) (by kernel_rfl) (by kernel_rfl) (fun _ _ _ h => h) (by rfl) ?_ (by assumption) ?_
              rotate_left
              · (intro w hSw; (try dsimp only at hSw); replace z0 := cell_below z0 hSw; replace z1 := cell_below z1 hSw; replace z2 := cell_below z2 hSw; replace z3 := cell_below z3 hSw; replace z4 := cell_below z4 hSw; go_simp; try with_reducible rfl)
              try simp only [Act.put, List.setIfInBounds_toArray, List.set_cons_zero, List.set_cons_succ]
              refine takeL 3 (v := ?_) rfl (by kernel_rfl) (by kernel_rfl) (by kernel_rfl) (fun _ _ _ h => h) (by rfl) ?_ (by assumption) ?_
              rotate_left
              · (intro w hSw; (try dsimp only at hSw); replace z0 := cell_below z0 hSw; replace z1 := cell_below z1 hSw; replace z2 := cell_below z2 hSw; replace z3 := cell_below z3 hSw; replace z4 := cell_below z4 hSw; go_simp; try with_reducible rfl)
              try simp only [Act.put, List.setIfInBounds_toArray, List.set_cons_zero, List.set_cons_succ]
              refine callL 4 rfl (by kernel_rfl) (by rfl) (fun K hK => ?_)
              go_simp
              refine (HT0.out).mono ?_
              rintro e wx1 ⟨rfl, hb⟩
              have HC1 := Lib.hid hb
              have HCUR := Lib.hid (Below.to HCUR.out hb)
              have HCR2 := Lib.hid (Below.to HCR2.out hb)
              clear hb
              go_simp
              refine hK.out _ _ ?_ (fun hS1 => ?_)
              · exact Below.to hS0 HC1.out
              clear hK K
              refine takeL 5 (v := ?_) rfl (by kernel_rfl) (by kernel_rfl) (by kernel_rfl) (fun _ _ _ h => h) (by rfl) ?_ (by assumption) ?_
              rotate_left
              · (intro w hSw; (try dsimp only at hSw); replace z0 := cell_below z0 hSw; replace z1 := cell_below z1 hSw; replace z2 := cell_below z2 hSw; replace z3 := cell_below z3 hSw; replace z4 := cell_below z4 hSw; go_simp; try with_reducible rfl)
              try simp only [Act.put, List.setIfInBounds_toArray, List.set_cons_zero, List.set_cons_succ]
              refine wpAnyH_done (by kernel_rfl) ?_ _
              have HOw := Lib.hid (HO2.out.keep HCR2.out)
              have HX3 := Lib.hid (HX2.out.keep HCR2.out)
              replace z0 := cell_below z0 HCR2.out
              replace z1 := cell_below z1 HCR2.out
              replace z2 := cell_below z2 HCR2.out
              replace z3 := cell_below z3 HCR2.out
              replace z4 := cell_below z4 HCR2.out
              clear HT0 HO2 HX2 HOA
              have HOv : Hid (OwnD w.heap.size w.heap.size 48 5 wx1 (.slice av rl cv) (ansRows (onceA la (k + 1)))) := Lib.hid (by rw [HON.out]; exact HOw.out)
              have HC6 := HCUR
              have hq6 := HX3.out.lt
              clear HOw HCUR HCR2
              go_wp2_with fail
              clear z0 z1 z2 z3 z4
              go_loopw [14, 91] (fun s i w3 => ∃ k3 : Nat, k3 ≤ npb ∧ i = .int .i64 k3 ∧ s = .string (txtA names x.binds k3) ∧ Hid (Below wx1.heap.size wx1 w3)) (fun _ i _ => npb - (intOf i).toNat)
              case atStart => exact ⟨0, Nat.zero_le _, rfl, rfl, Lib.hid (Below.refl _ _)⟩
              case round =>
                obtain ⟨k3, hk3, rfl, rfl, HB3⟩ := hrel
                rename World => w3
                have HBW3 := Lib.hid (HC6.out.trans (HB3.out.mono HC6.out.size))
                have hbl3 := HXw.out.1.len
                rw [Tm.rows_len] at hbl3
                have hbc3 := hbl3.2.1
                have hbm3 := hbl3.2.2
                have hst : (txtA names x.binds k3).size ≤ 40000000000 := by
                  have h1 := txtA_size (ts := x.binds) HNM0.out (fun t ht => show_small (HXS.out.bind ht).1 (HXS.out.bind ht).2) k3
                  have h2 := HXS.out.2.2
                  omega
                have HX9 := Lib.hid (HX3.out.keep HB3.out)
                have hq9 := HX9.out.lt
                by_cases hlt3 : k3 < npb
                · have hltz3 : (k3 : Int) < (npb : Int) := by omega
                  obtain ⟨bT, oT, t, at_, nt, ct, rfl, hbT, Ht, t0, t1, t2, t3, GT⟩ := tm_at HXw.out.1 k3 hlt3
                  have hm := HXS.out.bind (mem_of_at Ht.out)
                  have hsh := show_small hm.1 hm.2
                  have HBA3 := Lib.hid (HB3.out.alloc HB3.out.size (.cells #[.int .i64 t.kind, .string t.name, .int .i64 t.n, .slice at_ nt ct] 24))
                  have HBWA := Lib.hid (HBW3.out.alloc HBW3.out.size (.cells #[.int .i64 t.kind, .string t.name, .int .i64 t.n, .slice at_ nt ct] 24))
                  have HCS := Lib.hid (showRt hm.1 hm.2 (w3.alloc (.cells #[.int .i64 t.kind, .string t.name, .int .i64 t.n, .slice at_ nt ct] 24)) at_ nt ct (MemW.keep GT.out HBWA.out))
                  have HL := Lib.hid (txtA_at (names := names) Ht.out)
                  replace t0 := cell_below t0 HBW3.out
                  replace t1 := cell_below t1 HBW3.out
                  replace t2 := cell_below t2 HBW3.out
                  replace t3 := cell_below t3 HBW3.out
                  replace hbT : bT < w3.heap.size := Nat.lt_of_lt_of_le hbT HBW3.out.size
                  have hnm := HNM.out k3
                  clear GT hm hbl3
                  generalize showM t = sh at *
                  generalize txtA names x.binds k3 = st at *
                  have i1 : (sh.size : Int) ≤ 1000000000 := by omega
                  have i2 : (st.size : Int) ≤ 40000000000 := by omega
                  by_cases hkn3 : k3 < nc
                  · have hkz : (k3 : Int) < (nc : Int) := by omega
                    obtain ⟨bN, oN, nm, rfl, hbN, Hnm, n0⟩ := str_at HC.out k3 hkn3
                    replace n0 := cell_below n0 HBW3.out
                    replace hbN : bN < w3.heap.size := Nat.lt_of_lt_of_le hbN HBW3.out.size
                    have HNMk := Lib.hid (show nameA names k3 = nm by unfold nameA; rw [Hnm.out]; rfl)
                    rw [HNMk.out] at HL hnm
                    have n1 := cell_below n0 (below_new w3 (.cells #[.int .i64 t.kind, .string t.name, .int .i64 t.n, .slice at_ nt ct] 24))
                    have i3 : (nm.size : Int) ≤ 2000000 := by omega
                    clear hnm hsh hst
                    go_wp2_with fail
                    refine HCS.out.mono ?_
                    rintro e w9 ⟨rfl, hb⟩
                    have HB9 := Lib.hid (HBA3.out.trans (hb.mono HBA3.out.size))
                    clear hb n0 n1
                    go_wp2_with fail
                    go_roundw
                    case rel => exact ⟨k3 + 1, by omega, by go_num, by rw [HL.out]; rfl, HB9⟩
                    case measure => simp [intOf]; omega
                  · have hkz : ¬ (k3 : Int) < (nc : Int) := by omega
                    have HNMk := Lib.hid (show nameA names k3 = ⟨#[63]⟩ by unfold nameA; rw [List.getElem?_eq_none (by have := HLC.out; omega)]; rfl)
                    rw [HNMk.out] at HL
                    clear hnm hsh hst
                    go_wp2_with fail
                    refine HCS.out.mono ?_
                    rintro e w9 ⟨rfl, hb⟩
                    have HB9 := Lib.hid (HBA3.out.trans (hb.mono HBA3.out.size))
                    clear hb
                    go_wp2_with fail
                    go_roundw
                    case rel => exact ⟨k3 + 1, by omega, by go_num, by rw [HL.out]; rfl, HB9⟩
                    case measure => simp [intOf]; omega
                · obtain rfl : k3 = npb := by omega
                  have hltz3 : ¬ (k3 : Int) < (k3 : Int) := by omega
                  have hsh := show_small HXS.out.val.1 HXS.out.val.2
                  have HSF := Lib.hid (show showA names x = txtA names x.binds k3 ++ showM x.value by rw [← hbl3.1]; rfl)
                  obtain ⟨z0, z1, z2, z3, z4⟩ := HX9.out.a5
                  clear hbl3
                  generalize hsv : showM x.value = sh at *
                  have HSV := Lib.hid hsv
                  clear hsv
                  generalize txtA names x.binds k3 = st at *
                  have hss : ¬ (9223372036854775807 < st.size + sh.size) := by omega
                  have i1 : (sh.size : Int) ≤ 1000000000 := by omega
                  have i2 : (st.size : Int) ≤ 40000000000 := by omega
                  clear hsh hst
                  generalize hGv : groundB (tupT x) = G at *
                  have HGv := Lib.hid hGv
                  clear hGv
                  have HCUR : Hid (Below w.heap.size w w3.drew) := Lib.hid (HBW3.out.trans ((below_drew _).mono HBW3.out.size))
                  have HCR2 : Hid (Below w3.heap.size w3 w3.drew) := Lib.hid (below_drew _)
                  go_wp2_with fail
                  refine wp_region_held_drew (S := fun w' => Below (w3).heap.size (w3) w') (by kernel_rfl) (below_drew _) (fun hS0 => ?_)
                  refine takeL 0 (v := ?_) rfl (by kernel_rfl) (by kernel_rfl) (by kernel_rfl) (fun _ _ _ h => h) (by rfl) ?_ (by assumption) ?_
                  rotate_left
                  · (intro w hSw; (try dsimp only at hSw); replace z0 := cell_below z0 hSw; replace z1 := cell_below z1 hSw; replace z2 := cell_below z2 hSw; replace z3 := cell_below z3 hSw; replace z4 := cell_below z4 hSw; go_simp; try with_reducible rfl)
                  try simp only [Act.put, List.setIfInBounds_toArray, List.set_cons_zero, List.set_cons_succ]
                  refine takeL 1 (v := ?_) rfl (by kernel_rfl) (by kernel_rfl) (by kernel_rfl) (fun _ _ _ h => h) (by rfl) ?_ (by assumption) ?_
                  rotate_left
                  · (intro w hSw; (try dsimp only at hSw); replace z0 := cell_below z0 hSw; replace z1 := cell_below z1 hSw; replace z2 := cell_below z2 hSw; replace z3 := cell_below z3 hSw; replace z4 := cell_below z4 hSw; go_simp; try with_reducible rfl)
                  try simp only [Act.put, List.setIfInBounds_toArray, List.set_cons_zero, List.set_cons_succ]
                  refine takeL 3 (v := ?_) rfl (by kernel_rfl) (by kernel_rfl) (by kernel_rfl) (fun _ _ _ h => h) (by rfl) ?_ (by assumption) ?_
                  rotate_left
                  · (intro w hSw; (try dsimp only at hSw); replace z0 := cell_below z0 hSw; replace z1 := cell_below z1 hSw; replace z2 := cell_below z2 hSw; replace z3 := cell_below z3 hSw; replace z4 := cell_below z4 hSw; go_simp; try with_reducible rfl)
                  try simp only [Act.put, List.setIfInBounds_toArray, List.set_cons_zero, List.set_cons_succ]
                  refine takeL 4 (v := ?_) rfl (by kernel_rfl) (by kernel_rfl) (by kernel_rfl) (fun _ _ _ h => h) (by rfl) ?_ (by assumption) ?_
                  rotate_left
                  · (intro w hSw; (try dsimp only at hSw); replace z0 := cell_below z0 hSw; replace z1 := cell_below z1 hSw; replace z2 := cell_below z2 hSw; replace z3 := cell_below z3 hSw; replace z4 := cell_below z4 hSw; go_simp; try with_reducible rfl)
                  try simp only [Act.put, List.setIfInBounds_toArray, List.set_cons_zero, List.set_cons_succ]
                  refine takeL 5 (v := ?_) rfl (by kernel_rfl) (by kernel_rfl) (by kernel_rfl) (fun _ _ _ h => h) (by rfl) ?_ (by assumption) ?_
                  rotate_left
                  · (intro w hSw; (try dsimp only at hSw); replace z0 := cell_below z0 hSw; replace z1 := cell_below z1 hSw; replace z2 := cell_below z2 hSw; replace z3 := cell_below z3 hSw; replace z4 := cell_below z4 hSw; go_simp; try with_reducible rfl)
                  try simp only [Act.put, List.setIfInBounds_toArray, List.set_cons_zero, List.set_cons_succ]
                  refine callL 2 rfl (by kernel_rfl) (by rfl) (fun K hK => ?_)
                  go_simp
                  refine (ansShow_any (names := names) (x := x) _ (MemW.keep HC.out HCUR.out) (AnsW.keep HXw.out HCUR.out) HXS.out HNM0.out).mono ?_
                  rintro e wx1 ⟨rfl, hb⟩
                  have HC1 := Lib.hid hb
                  have HCUR := Lib.hid (Below.to HCUR.out hb)
                  have HCR2 := Lib.hid (Below.to HCR2.out hb)
                  rw [HSF.out]
                  clear hb
                  go_simp
                  refine hK.out _ _ ?_ (fun hS1 => ?_)
                  · exact Below.to hS0 HC1.out
                  clear hK K
                  refine callL 6 rfl (by kernel_rfl) (by rfl) (fun K hK => ?_)
                  go_simp
                  refine (showRt HXS.out.val.1 HXS.out.val.2 _ px npx cpx (MemW.keep HXw.out.2 HCUR.out)).mono ?_
                  rintro e wx2 ⟨rfl, hb⟩
                  have HC2 := Lib.hid hb
                  have HCUR := Lib.hid (Below.to HCUR.out hb)
                  have HCR2 := Lib.hid (Below.to HCR2.out hb)
                  rw [HSV.out]
                  clear hb
                  go_simp
                  refine hK.out _ _ ?_ (fun hS2 => ?_)
                  · exact Below.to hS1 HC2.out
                  clear hK K
                  refine takeL 7 (v := ?_) rfl (by kernel_rfl) (by kernel_rfl) (by kernel_rfl) (fun _ _ _ h => h) (by rfl) ?_ (by assumption) ?_
                  rotate_left
                  · (intro w hSw; (try dsimp only at hSw); replace z0 := cell_below z0 hSw; replace z1 := cell_below z1 hSw; replace z2 := cell_below z2 hSw; replace z3 := cell_below z3 hSw; replace z4 := cell_below z4 hSw; go_simp; try with_reducible rfl)
                  try simp only [Act.put, List.setIfInBounds_toArray, List.set_cons_zero, List.set_cons_succ]
                  refine takeL 8 (v := ?_) rfl (by kernel_rfl) (by kernel_rfl) (by kernel_rfl) (fun _ _ _ h => h) (by rfl) ?_ (by assumption) ?_
                  rotate_left
                  · (intro w hSw; (try dsimp only at hSw); replace z0 := cell_below z0 hSw; replace z1 := cell_below z1 hSw; replace z2 := cell_below z2 hSw; replace z3 := cell_below z3 hSw; replace z4 := cell_below z4 hSw; go_simp; try with_reducible rfl)
                  try simp only [Act.put, List.setIfInBounds_toArray, List.set_cons_zero, List.set_cons_succ]
                  refine takeL 9 (v := ?_) rfl (by kernel_rfl) (by kernel_rfl) (by kernel_rfl) (fun _ _ _ h => h) (by rfl) ?_ (by assumption) ?_
                  rotate_left
                  · (intro w hSw; (try dsimp only at hSw); replace z0 := cell_below z0 hSw; replace z1 := cell_below z1 hSw; replace z2 := cell_below z2 hSw; replace z3 := cell_below z3 hSw; replace z4 := cell_below z4 hSw; go_simp; try with_reducible rfl)
                  try simp only [Act.put, List.setIfInBounds_toArray, List.set_cons_zero, List.set_cons_succ]
                  refine takeL 10 (v := ?_) rfl (by kernel_rfl) (by kernel_rfl) (by kernel_rfl) (fun _ _ _ h => h) (by rfl) ?_ (by assumption) ?_
                  rotate_left
                  · (intro w hSw; (try dsimp only at hSw); replace z0 := cell_below z0 hSw; replace z1 := cell_below z1 hSw; replace z2 := cell_below z2 hSw; replace z3 := cell_below z3 hSw; replace z4 := cell_below z4 hSw; go_simp; try with_reducible rfl)
                  try simp only [Act.put, List.setIfInBounds_toArray, List.set_cons_zero, List.set_cons_succ]
                  refine takeL 12 (v := ?_) rfl (by kernel_rfl) (by kernel_rfl) (by kernel_rfl) (fun _ _ _ h => h) (by rfl) ?_ (by assumption) ?_
                  rotate_left
                  · (intro w hSw; (try dsimp only at hSw); replace z0 := cell_below z0 hSw; replace z1 := cell_below z1 hSw; replace z2 := cell_below z2 hSw; replace z3 := cell_below z3 hSw; replace z4 := cell_below z4 hSw; go_simp; try with_reducible rfl)
                  try simp only [Act.put, List.setIfInBounds_toArray, List.set_cons_zero, List.set_cons_succ]
                  refine callL 11 rfl (by kernel_rfl) (by rfl) (fun K hK => ?_)
                  go_simp
                  refine (ansGround_any (x := x) _ (AnsW.keep HXw.out HCUR.out) HXF.out).mono ?_
                  rintro e wx3 ⟨rfl, hb⟩
                  have HC3 := Lib.hid hb
                  have HCUR := Lib.hid (Below.to HCUR.out hb)
                  have HCR2 := Lib.hid (Below.to HCR2.out hb)
                  rw [HGv.out]
                  clear hb
                  go_simp
                  refine hK.out _ _ ?_ (fun hS3 => ?_)
                  · exact Below.to hS2 HC3.out
                  clear hK K
                  refine callL 13 rfl (by kernel_rfl) (by rfl) (fun K hK => ?_)
                  go_simp
                  refine (tuple3_any (x := x) _ (AnsW.keep HXw.out HCUR.out) (HXF.out.binds HXw.out)).mono ?_
                  rintro e wx4 ⟨aHM1, nHM1, cHM1, rfl, hb, hm⟩
                  have HC4 := Lib.hid hb
                  have HCUR := Lib.hid (Below.to HCUR.out hb)
                  have HCR2 := Lib.hid (Below.to HCR2.out hb)
                  have hm0 := hm
                  have HM1 := Lib.hid hm0
                  clear hm hm0
                  clear hb
                  go_simp
                  refine hK.out _ _ ?_ (fun hS4 => ?_)
                  · exact Below.to hS3 HC4.out
                  clear hK K
                  refine callL 14 rfl (by kernel_rfl) (by rfl) (fun K hK => ?_)
                  go_simp
                  have HMV : Hid (MemW (wx4.alloc (.cells #[.int .i64 1, .string ⟨#[]⟩, .int .i64 0, .slice aHM1 nHM1 cHM1] 24)) (.s 4 (Tm.rows [tupT x])) (.slice (some ⟨wx4.heap.size, 0, none⟩) 1 1)) := Lib.hid (one_mem (tupT x) HM1.out)
                  replace HCUR := Lib.hid (HCUR.out.alloc HCUR.out.size (.cells #[.int .i64 1, .string ⟨#[]⟩, .int .i64 0, .slice aHM1 nHM1 cHM1] 24))
                  replace HCR2 := Lib.hid (HCR2.out.alloc HCR2.out.size (.cells #[.int .i64 1, .string ⟨#[]⟩, .int .i64 0, .slice aHM1 nHM1 cHM1] 24))
                  refine hK.out _ _ ?_ (fun hS5 => ?_)
                  · exact hS4.alloc hS4.size _
                  clear hK K
                  refine callL 15 rfl (by kernel_rfl) (by rfl) (fun K hK => ?_)
                  go_simp
                  refine (vars3_any (l := [tupT x]) _ HMV.out (by rw [Tm.alls, Tm.alls, List.append_nil]; exact HXF.out.big)).mono ?_
                  rintro e wx6 ⟨aV, nV, cV, rfl, hb, hmV⟩
                  have HC6 := Lib.hid hb
                  have HCUR := Lib.hid (Below.to HCUR.out hb)
                  have HCR2 := Lib.hid (Below.to HCR2.out hb)
                  have hgv : ((nV : Int) == 0) = G := by
                    have h1 := (Mem.len hmV).1
                    rw [intRows_len, Tm.alls, Tm.alls, List.append_nil] at h1
                    rw [← HGv.out, ← ground_varsA, ← h1]
                  clear hmV
                  clear hb
                  go_simp
                  refine hK.out _ _ ?_ (fun hS6 => ?_)
                  · exact Below.to hS5 HC6.out
                  clear hK K
                  refine takeL 16 (v := ?_) rfl (by kernel_rfl) (by kernel_rfl) (by kernel_rfl) (fun _ _ _ h => h) (by rfl) ?_ (by assumption) ?_
                  rotate_left
                  · (intro w hSw; (try dsimp only at hSw); replace z0 := cell_below z0 hSw; replace z1 := cell_below z1 hSw; replace z2 := cell_below z2 hSw; replace z3 := cell_below z3 hSw; replace z4 := cell_below z4 hSw; go_simp; try with_reducible rfl)
                  try simp only [Act.put, List.setIfInBounds_toArray, List.set_cons_zero, List.set_cons_succ]
                  refine takeL 17 (v := ?_) rfl (by kernel_rfl) (by kernel_rfl) (by kernel_rfl) (fun _ _ _ h => h) (by rfl) ?_ (by assumption) ?_
                  rotate_left
                  · (intro w hSw; (try dsimp only at hSw); replace z0 := cell_below z0 hSw; replace z1 := cell_below z1 hSw; replace z2 := cell_below z2 hSw; replace z3 := cell_below z3 hSw; replace z4 := cell_below z4 hSw; go_simp; try with_reducible rfl)
                  try simp only [Act.put, List.setIfInBounds_toArray, List.set_cons_zero, List.set_cons_succ]
                  refine takeL 18 (v := ?_) rfl (by kernel_rfl) (by kernel_rfl) (by kernel_rfl) (fun _ _ _ h => h) (by rfl) ?_ (by assumption) ?_
                  rotate_left
                  · (intro w hSw; (try dsimp only at hSw); replace z0 := cell_below z0 hSw; replace z1 := cell_below z1 hSw; replace z2 := cell_below z2 hSw; replace z3 := cell_below z3 hSw; replace z4 := cell_below z4 hSw; go_simp; try with_reducible rfl)
                  try simp only [Act.put, List.setIfInBounds_toArray, List.set_cons_zero, List.set_cons_succ]
                  refine takeL 19 (v := ?_) rfl (by kernel_rfl) (by kernel_rfl) (by kernel_rfl) (fun _ _ _ h => h) (by rfl) ?_ (by assumption) ?_
                  rotate_left
                  · (intro w hSw; (try dsimp only at hSw); replace z0 := cell_below z0 hSw; replace z1 := cell_below z1 hSw; replace z2 := cell_below z2 hSw; replace z3 := cell_below z3 hSw; replace z4 := cell_below z4 hSw; go_simp; try with_reducible rfl)
                  try simp only [Act.put, List.setIfInBounds_toArray, List.set_cons_zero, List.set_cons_succ]
                  refine wpAnyH_done (by kernel_rfl) ?_ _
                  go_wp2_with fail
                  go_roundw
                  case rel => exact ⟨k + 1, by omega, by go_num, by rw [HCV1.out]; rfl, HCUR, Lib.hid (HOv.out.keep (HB3.out.trans (HCR2.out.mono HB3.out.size)))⟩
                  case measure => simp [intOf]; omega
          | false =>
            by_cases hT : Tn = 0
            · have e0 : ((Tn : Int) == 0) = true := by rw [beq_iff_eq]; omega
              rw [if_pos hT] at HON
              clear hT
              go_wp2_with fail
              have HCUR : Hid (Below w.heap.size w w2.drew) := Lib.hid (HBW2.out.trans ((below_drew _).mono HBW2.out.size))
              have HCR2 : Hid (Below w2.heap.size w2 w2.drew) := Lib.hid (below_drew _)
              refine wp_region_held_drew (S := fun w' => Below (w2).heap.size (w2) w') (by kernel_rfl) (below_drew _) (fun hS0 => ?_)
              refine takeL 0 (v := ?_) rfl (by kernel_rfl) (by kernel_rfl) (by kernel_rfl) (fun _ _ _ h => h) (by rfl) ?_ (by assumption) ?_
              rotate_left
              · (intro w hSw; (try dsimp only at hSw); replace z0 := cell_below z0 hSw; replace z1 := cell_below z1 hSw; replace z2 := cell_below z2 hSw; replace z3 := cell_below z3 hSw; replace z4 := cell_below z4 hSw; go_simp; try with_reducible rfl)
              try simp only [Act.put, List.setIfInBounds_toArray, List.set_cons_zero, List.set_cons_succ]
              refine takeL 1 (v := ?_) rfl (by kernel_rfl) (by kernel_rfl) (by kernel_rfl) (fun _ _ _ h => h) (by rfl) ?_ (by assumption) ?_
              rotate_left
              · (intro w hSw; (try dsimp only at hSw); replace z0 := cell_below z0 hSw; replace z1 := cell_below z1 hSw; replace z2 := cell_below z2 hSw; replace z3 := cell_below z3 hSw; replace z4 := cell_below z4 hSw; go_simp; try with_reducible rfl)
              try simp only [Act.put, List.setIfInBounds_toArray, List.set_cons_zero, List.set_cons_succ]
              refine takeL 2 (v := ?_) rfl (by kernel_rfl) (by kernel_rfl) (by kernel_rfl) (fun _ _ _ h => h) (by rfl) ?_ (by assumption) ?_
              rotate_left
              · (intro w hSw; (try dsimp only at hSw); replace z0 := cell_below z0 hSw; replace z1 := cell_below z1 hSw; replace z2 := cell_below z2 hSw; replace z3 := cell_below z3 hSw; replace z4 := cell_below z4 hSw; go_simp; try with_reducible rfl)
              try simp only [Act.put, List.setIfInBounds_toArray, List.set_cons_zero, List.set_cons_succ]
              refine takeL 3 (v := ?_) rfl (by kernel_rfl) (by kernel_rfl) (by kernel_rfl) (fun _ _ _ h => h) (by rfl) ?_ (by assumption) ?_
              rotate_left
              · (intro w hSw; (try dsimp only at hSw); replace z0 := cell_below z0 hSw; replace z1 := cell_below z1 hSw; replace z2 := cell_below z2 hSw; replace z3 := cell_below z3 hSw; replace z4 := cell_below z4 hSw; go_simp; try with_reducible rfl)
              try simp only [Act.put, List.setIfInBounds_toArray, List.set_cons_zero, List.set_cons_succ]
              refine callL 4 rfl (by kernel_rfl) (by rfl) (fun K hK => ?_)
              go_simp
              refine (HT0.out).mono ?_
              rintro e wx1 ⟨rfl, hb⟩
              have HC1 := Lib.hid hb
              have HCUR := Lib.hid (Below.to HCUR.out hb)
              have HCR2 := Lib.hid (Below.to HCR2.out hb)
              clear hb
              go_simp
              refine hK.out _ _ ?_ (fun hS1 => ?_)
              · exact Below.to hS0 HC1.out
              clear hK K
              refine takeL 5 (v := ?_) rfl (by kernel_rfl) (by kernel_rfl) (by kernel_rfl) (fun _ _ _ h => h) (by rfl) ?_ (by assumption) ?_
              rotate_left
              · (intro w hSw; (try dsimp only at hSw); replace z0 := cell_below z0 hSw; replace z1 := cell_below z1 hSw; replace z2 := cell_below z2 hSw; replace z3 := cell_below z3 hSw; replace z4 := cell_below z4 hSw; go_simp; try with_reducible rfl)
              try simp only [Act.put, List.setIfInBounds_toArray, List.set_cons_zero, List.set_cons_succ]
              refine wpAnyH_done (by kernel_rfl) ?_ _
              have HOw := Lib.hid (HO2.out.keep HCR2.out)
              have HX3 := Lib.hid (HX2.out.keep HCR2.out)
              replace z0 := cell_below z0 HCR2.out
              replace z1 := cell_below z1 HCR2.out
              replace z2 := cell_below z2 HCR2.out
              replace z3 := cell_below z3 HCR2.out
              replace z4 := cell_below z4 HCR2.out
              clear HT0 HO2 HX2 HOA
              have HOX := Lib.hid (own_ans (e' := 48) (x := x) HOw.out (Nat.le_refl _) HCUR.out.size (Mem.keep HXw.out.1 (Nat.le_refl _) HCUR.out) (Mem.keep HXw.out.2 (Nat.le_refl _) HCUR.out))
              go_wp2_with (first
                | (at_builtin
                   refine wpList_append_D2 rfl _ _ rfl Try.underlying41 info_ans rfl (by decide) rfl rfl (HOw.out.alloc (.cells #[.slice pb npb cpb, .int .i64 x.value.kind, .string x.value.name, .int .i64 x.value.n, .slice px npx cpx] 48)) HOX.out (by have := HOL.out; simp only [ansRows_len, List.length_cons, List.length_nil] at *; omega) (by have := HOL.out; simp only [ansRows_len, List.length_cons, List.length_nil] at *; omega) (by rw [World.size_alloc]; exact Nat.le_succ_of_le HCUR.out.size) ?_
                   intro v8 w6 ho hg _
                   have HOv : Hid (OwnD w.heap.size w.heap.size 48 5 w6 v8 (ansRows (onceA la (k + 1)))) := Lib.hid (by rw [HON.out, ansRows, List.map_append]; exact ho)
                   have HX6 := Lib.hid ((HX3.out.alloc (.cells #[.slice pb npb cpb, .int .i64 x.value.kind, .string x.value.name, .int .i64 x.value.n, .slice px npx cpx] 48)).grown hg (fun q hq => by have := HOW.out q hq; omega))
                   have HC6 := Lib.hid (grown_below (HCUR.out.alloc HCUR.out.size (.cells #[.slice pb npb cpb, .int .i64 x.value.kind, .string x.value.name, .int .i64 x.value.n, .slice px npx cpx] 48)) hg (Nat.le_refl _) (fun q hq => (HOW.out q hq).1))
                   clear z0 z1 z2 z3 z4 ho hg
                   obtain ⟨z0, z1, z2, z3, z4⟩ := HX6.out.a5
                   have hq6 := HX6.out.lt))
              clear HOX HOw HX3 HCUR HCR2
              clear z0 z1 z2 z3 z4
              go_loopw [14, 91] (fun s i w3 => ∃ k3 : Nat, k3 ≤ npb ∧ i = .int .i64 k3 ∧ s = .string (txtA names x.binds k3) ∧ Hid (Below w6.heap.size w6 w3)) (fun _ i _ => npb - (intOf i).toNat)
              case atStart => exact ⟨0, Nat.zero_le _, rfl, rfl, Lib.hid (Below.refl _ _)⟩
              case round =>
                obtain ⟨k3, hk3, rfl, rfl, HB3⟩ := hrel
                rename World => w3
                have HBW3 := Lib.hid (HC6.out.trans (HB3.out.mono HC6.out.size))
                have hbl3 := HXw.out.1.len
                rw [Tm.rows_len] at hbl3
                have hbc3 := hbl3.2.1
                have hbm3 := hbl3.2.2
                have hst : (txtA names x.binds k3).size ≤ 40000000000 := by
                  have h1 := txtA_size (ts := x.binds) HNM0.out (fun t ht => show_small (HXS.out.bind ht).1 (HXS.out.bind ht).2) k3
                  have h2 := HXS.out.2.2
                  omega
                have HX9 := Lib.hid (HX6.out.keep HB3.out)
                have hq9 := HX9.out.lt
                by_cases hlt3 : k3 < npb
                · have hltz3 : (k3 : Int) < (npb : Int) := by omega
                  obtain ⟨bT, oT, t, at_, nt, ct, rfl, hbT, Ht, t0, t1, t2, t3, GT⟩ := tm_at HXw.out.1 k3 hlt3
                  have hm := HXS.out.bind (mem_of_at Ht.out)
                  have hsh := show_small hm.1 hm.2
                  have HBA3 := Lib.hid (HB3.out.alloc HB3.out.size (.cells #[.int .i64 t.kind, .string t.name, .int .i64 t.n, .slice at_ nt ct] 24))
                  have HBWA := Lib.hid (HBW3.out.alloc HBW3.out.size (.cells #[.int .i64 t.kind, .string t.name, .int .i64 t.n, .slice at_ nt ct] 24))
                  have HCS := Lib.hid (showRt hm.1 hm.2 (w3.alloc (.cells #[.int .i64 t.kind, .string t.name, .int .i64 t.n, .slice at_ nt ct] 24)) at_ nt ct (MemW.keep GT.out HBWA.out))
                  have HL := Lib.hid (txtA_at (names := names) Ht.out)
                  replace t0 := cell_below t0 HBW3.out
                  replace t1 := cell_below t1 HBW3.out
                  replace t2 := cell_below t2 HBW3.out
                  replace t3 := cell_below t3 HBW3.out
                  replace hbT : bT < w3.heap.size := Nat.lt_of_lt_of_le hbT HBW3.out.size
                  have hnm := HNM.out k3
                  clear GT hm hbl3
                  generalize showM t = sh at *
                  generalize txtA names x.binds k3 = st at *
                  have i1 : (sh.size : Int) ≤ 1000000000 := by omega
                  have i2 : (st.size : Int) ≤ 40000000000 := by omega
                  by_cases hkn3 : k3 < nc
                  · have hkz : (k3 : Int) < (nc : Int) := by omega
                    obtain ⟨bN, oN, nm, rfl, hbN, Hnm, n0⟩ := str_at HC.out k3 hkn3
                    replace n0 := cell_below n0 HBW3.out
                    replace hbN : bN < w3.heap.size := Nat.lt_of_lt_of_le hbN HBW3.out.size
                    have HNMk := Lib.hid (show nameA names k3 = nm by unfold nameA; rw [Hnm.out]; rfl)
                    rw [HNMk.out] at HL hnm
                    have n1 := cell_below n0 (below_new w3 (.cells #[.int .i64 t.kind, .string t.name, .int .i64 t.n, .slice at_ nt ct] 24))
                    have i3 : (nm.size : Int) ≤ 2000000 := by omega
                    clear hnm hsh hst
                    go_wp2_with fail
                    refine HCS.out.mono ?_
                    rintro e w9 ⟨rfl, hb⟩
                    have HB9 := Lib.hid (HBA3.out.trans (hb.mono HBA3.out.size))
                    clear hb n0 n1
                    go_wp2_with fail
                    go_roundw
                    case rel => exact ⟨k3 + 1, by omega, by go_num, by rw [HL.out]; rfl, HB9⟩
                    case measure => simp [intOf]; omega
                  · have hkz : ¬ (k3 : Int) < (nc : Int) := by omega
                    have HNMk := Lib.hid (show nameA names k3 = ⟨#[63]⟩ by unfold nameA; rw [List.getElem?_eq_none (by have := HLC.out; omega)]; rfl)
                    rw [HNMk.out] at HL
                    clear hnm hsh hst
                    go_wp2_with fail
                    refine HCS.out.mono ?_
                    rintro e w9 ⟨rfl, hb⟩
                    have HB9 := Lib.hid (HBA3.out.trans (hb.mono HBA3.out.size))
                    clear hb
                    go_wp2_with fail
                    go_roundw
                    case rel => exact ⟨k3 + 1, by omega, by go_num, by rw [HL.out]; rfl, HB9⟩
                    case measure => simp [intOf]; omega
                · obtain rfl : k3 = npb := by omega
                  have hltz3 : ¬ (k3 : Int) < (k3 : Int) := by omega
                  have hsh := show_small HXS.out.val.1 HXS.out.val.2
                  have HSF := Lib.hid (show showA names x = txtA names x.binds k3 ++ showM x.value by rw [← hbl3.1]; rfl)
                  obtain ⟨z0, z1, z2, z3, z4⟩ := HX9.out.a5
                  clear hbl3
                  generalize hsv : showM x.value = sh at *
                  have HSV := Lib.hid hsv
                  clear hsv
                  generalize txtA names x.binds k3 = st at *
                  have hss : ¬ (9223372036854775807 < st.size + sh.size) := by omega
                  have i1 : (sh.size : Int) ≤ 1000000000 := by omega
                  have i2 : (st.size : Int) ≤ 40000000000 := by omega
                  clear hsh hst
                  generalize hGv : groundB (tupT x) = G at *
                  have HGv := Lib.hid hGv
                  clear hGv
                  have HCUR : Hid (Below w.heap.size w w3.drew) := Lib.hid (HBW3.out.trans ((below_drew _).mono HBW3.out.size))
                  have HCR2 : Hid (Below w3.heap.size w3 w3.drew) := Lib.hid (below_drew _)
                  go_wp2_with fail
                  refine wp_region_held_drew (S := fun w' => Below (w3).heap.size (w3) w') (by kernel_rfl) (below_drew _) (fun hS0 => ?_)
                  refine takeL 0 (v := ?_) rfl (by kernel_rfl) (by kernel_rfl) (by kernel_rfl) (fun _ _ _ h => h) (by rfl) ?_ (by assumption) ?_
                  rotate_left
                  · (intro w hSw; (try dsimp only at hSw); replace z0 := cell_below z0 hSw; replace z1 := cell_below z1 hSw; replace z2 := cell_below z2 hSw; replace z3 := cell_below z3 hSw; replace z4 := cell_below z4 hSw; go_simp; try with_reducible rfl)
                  try simp only [Act.put, List.setIfInBounds_toArray, List.set_cons_zero, List.set_cons_succ]
                  refine takeL 1 (v := ?_) rfl (by kernel_rfl) (by kernel_rfl) (by kernel_rfl) (fun _ _ _ h => h) (by rfl) ?_ (by assumption) ?_
                  rotate_left
                  · (intro w hSw; (try dsimp only at hSw); replace z0 := cell_below z0 hSw; replace z1 := cell_below z1 hSw; replace z2 := cell_below z2 hSw; replace z3 := cell_below z3 hSw; replace z4 := cell_below z4 hSw; go_simp; try with_reducible rfl)
                  try simp only [Act.put, List.setIfInBounds_toArray, List.set_cons_zero, List.set_cons_succ]
                  refine takeL 3 (v := ?_) rfl (by kernel_rfl) (by kernel_rfl) (by kernel_rfl) (fun _ _ _ h => h) (by rfl) ?_ (by assumption) ?_
                  rotate_left
                  · (intro w hSw; (try dsimp only at hSw); replace z0 := cell_below z0 hSw; replace z1 := cell_below z1 hSw; replace z2 := cell_below z2 hSw; replace z3 := cell_below z3 hSw; replace z4 := cell_below z4 hSw; go_simp; try with_reducible rfl)
                  try simp only [Act.put, List.setIfInBounds_toArray, List.set_cons_zero, List.set_cons_succ]
                  refine takeL 4 (v := ?_) rfl (by kernel_rfl) (by kernel_rfl) (by kernel_rfl) (fun _ _ _ h => h) (by rfl) ?_ (by assumption) ?_
                  rotate_left
                  · (intro w hSw; (try dsimp only at hSw); replace z0 := cell_below z0 hSw; replace z1 := cell_below z1 hSw; replace z2 := cell_below z2 hSw; replace z3 := cell_below z3 hSw; replace z4 := cell_below z4 hSw; go_simp; try with_reducible rfl)
                  try simp only [Act.put, List.setIfInBounds_toArray, List.set_cons_zero, List.set_cons_succ]
                  refine takeL 5 (v := ?_) rfl (by kernel_rfl) (by kernel_rfl) (by kernel_rfl) (fun _ _ _ h => h) (by rfl) ?_ (by assumption) ?_
                  rotate_left
                  · (intro w hSw; (try dsimp only at hSw); replace z0 := cell_below z0 hSw; replace z1 := cell_below z1 hSw; replace z2 := cell_below z2 hSw; replace z3 := cell_below z3 hSw; replace z4 := cell_below z4 hSw; go_simp; try with_reducible rfl)
                  try simp only [Act.put, List.setIfInBounds_toArray, List.set_cons_zero, List.set_cons_succ]
                  refine callL 2 rfl (by kernel_rfl) (by rfl) (fun K hK => ?_)
                  go_simp
                  refine (ansShow_any (names := names) (x := x) _ (MemW.keep HC.out HCUR.out) (AnsW.keep HXw.out HCUR.out) HXS.out HNM0.out).mono ?_
                  rintro e wx1 ⟨rfl, hb⟩
                  have HC1 := Lib.hid hb
                  have HCUR := Lib.hid (Below.to HCUR.out hb)
                  have HCR2 := Lib.hid (Below.to HCR2.out hb)
                  rw [HSF.out]
                  clear hb
                  go_simp
                  refine hK.out _ _ ?_ (fun hS1 => ?_)
                  · exact Below.to hS0 HC1.out
                  clear hK K
                  refine callL 6 rfl (by kernel_rfl) (by rfl) (fun K hK => ?_)
                  go_simp
                  refine (showRt HXS.out.val.1 HXS.out.val.2 _ px npx cpx (MemW.keep HXw.out.2 HCUR.out)).mono ?_
                  rintro e wx2 ⟨rfl, hb⟩
                  have HC2 := Lib.hid hb
                  have HCUR := Lib.hid (Below.to HCUR.out hb)
                  have HCR2 := Lib.hid (Below.to HCR2.out hb)
                  rw [HSV.out]
                  clear hb
                  go_simp
                  refine hK.out _ _ ?_ (fun hS2 => ?_)
                  · exact Below.to hS1 HC2.out
                  clear hK K
                  refine takeL 7 (v := ?_) rfl (by kernel_rfl) (by kernel_rfl) (by kernel_rfl) (fun _ _ _ h => h) (by rfl) ?_ (by assumption) ?_
                  rotate_left
                  · (intro w hSw; (try dsimp only at hSw); replace z0 := cell_below z0 hSw; replace z1 := cell_below z1 hSw; replace z2 := cell_below z2 hSw; replace z3 := cell_below z3 hSw; replace z4 := cell_below z4 hSw; go_simp; try with_reducible rfl)
                  try simp only [Act.put, List.setIfInBounds_toArray, List.set_cons_zero, List.set_cons_succ]
                  refine takeL 8 (v := ?_) rfl (by kernel_rfl) (by kernel_rfl) (by kernel_rfl) (fun _ _ _ h => h) (by rfl) ?_ (by assumption) ?_
                  rotate_left
                  · (intro w hSw; (try dsimp only at hSw); replace z0 := cell_below z0 hSw; replace z1 := cell_below z1 hSw; replace z2 := cell_below z2 hSw; replace z3 := cell_below z3 hSw; replace z4 := cell_below z4 hSw; go_simp; try with_reducible rfl)
                  try simp only [Act.put, List.setIfInBounds_toArray, List.set_cons_zero, List.set_cons_succ]
                  refine takeL 9 (v := ?_) rfl (by kernel_rfl) (by kernel_rfl) (by kernel_rfl) (fun _ _ _ h => h) (by rfl) ?_ (by assumption) ?_
                  rotate_left
                  · (intro w hSw; (try dsimp only at hSw); replace z0 := cell_below z0 hSw; replace z1 := cell_below z1 hSw; replace z2 := cell_below z2 hSw; replace z3 := cell_below z3 hSw; replace z4 := cell_below z4 hSw; go_simp; try with_reducible rfl)
                  try simp only [Act.put, List.setIfInBounds_toArray, List.set_cons_zero, List.set_cons_succ]
                  refine takeL 10 (v := ?_) rfl (by kernel_rfl) (by kernel_rfl) (by kernel_rfl) (fun _ _ _ h => h) (by rfl) ?_ (by assumption) ?_
                  rotate_left
                  · (intro w hSw; (try dsimp only at hSw); replace z0 := cell_below z0 hSw; replace z1 := cell_below z1 hSw; replace z2 := cell_below z2 hSw; replace z3 := cell_below z3 hSw; replace z4 := cell_below z4 hSw; go_simp; try with_reducible rfl)
                  try simp only [Act.put, List.setIfInBounds_toArray, List.set_cons_zero, List.set_cons_succ]
                  refine takeL 12 (v := ?_) rfl (by kernel_rfl) (by kernel_rfl) (by kernel_rfl) (fun _ _ _ h => h) (by rfl) ?_ (by assumption) ?_
                  rotate_left
                  · (intro w hSw; (try dsimp only at hSw); replace z0 := cell_below z0 hSw; replace z1 := cell_below z1 hSw; replace z2 := cell_below z2 hSw; replace z3 := cell_below z3 hSw; replace z4 := cell_below z4 hSw; go_simp; try with_reducible rfl)
                  try simp only [Act.put, List.setIfInBounds_toArray, List.set_cons_zero, List.set_cons_succ]
                  refine callL 11 rfl (by kernel_rfl) (by rfl) (fun K hK => ?_)
                  go_simp
                  refine (ansGround_any (x := x) _ (AnsW.keep HXw.out HCUR.out) HXF.out).mono ?_
                  rintro e wx3 ⟨rfl, hb⟩
                  have HC3 := Lib.hid hb
                  have HCUR := Lib.hid (Below.to HCUR.out hb)
                  have HCR2 := Lib.hid (Below.to HCR2.out hb)
                  rw [HGv.out]
                  clear hb
                  go_simp
                  refine hK.out _ _ ?_ (fun hS3 => ?_)
                  · exact Below.to hS2 HC3.out
                  clear hK K
                  refine callL 13 rfl (by kernel_rfl) (by rfl) (fun K hK => ?_)
                  go_simp
                  refine (tuple3_any (x := x) _ (AnsW.keep HXw.out HCUR.out) (HXF.out.binds HXw.out)).mono ?_
                  rintro e wx4 ⟨aHM1, nHM1, cHM1, rfl, hb, hm⟩
                  have HC4 := Lib.hid hb
                  have HCUR := Lib.hid (Below.to HCUR.out hb)
                  have HCR2 := Lib.hid (Below.to HCR2.out hb)
                  have hm0 := hm
                  have HM1 := Lib.hid hm0
                  clear hm hm0
                  clear hb
                  go_simp
                  refine hK.out _ _ ?_ (fun hS4 => ?_)
                  · exact Below.to hS3 HC4.out
                  clear hK K
                  refine callL 14 rfl (by kernel_rfl) (by rfl) (fun K hK => ?_)
                  go_simp
                  have HMV : Hid (MemW (wx4.alloc (.cells #[.int .i64 1, .string ⟨#[]⟩, .int .i64 0, .slice aHM1 nHM1 cHM1] 24)) (.s 4 (Tm.rows [tupT x])) (.slice (some ⟨wx4.heap.size, 0, none⟩) 1 1)) := Lib.hid (one_mem (tupT x) HM1.out)
                  replace HCUR := Lib.hid (HCUR.out.alloc HCUR.out.size (.cells #[.int .i64 1, .string ⟨#[]⟩, .int .i64 0, .slice aHM1 nHM1 cHM1] 24))
                  replace HCR2 := Lib.hid (HCR2.out.alloc HCR2.out.size (.cells #[.int .i64 1, .string ⟨#[]⟩, .int .i64 0, .slice aHM1 nHM1 cHM1] 24))
                  refine hK.out _ _ ?_ (fun hS5 => ?_)
                  · exact hS4.alloc hS4.size _
                  clear hK K
                  refine callL 15 rfl (by kernel_rfl) (by rfl) (fun K hK => ?_)
                  go_simp
                  refine (vars3_any (l := [tupT x]) _ HMV.out (by rw [Tm.alls, Tm.alls, List.append_nil]; exact HXF.out.big)).mono ?_
                  rintro e wx6 ⟨aV, nV, cV, rfl, hb, hmV⟩
                  have HC6 := Lib.hid hb
                  have HCUR := Lib.hid (Below.to HCUR.out hb)
                  have HCR2 := Lib.hid (Below.to HCR2.out hb)
                  have hgv : ((nV : Int) == 0) = G := by
                    have h1 := (Mem.len hmV).1
                    rw [intRows_len, Tm.alls, Tm.alls, List.append_nil] at h1
                    rw [← HGv.out, ← ground_varsA, ← h1]
                  clear hmV
                  clear hb
                  go_simp
                  refine hK.out _ _ ?_ (fun hS6 => ?_)
                  · exact Below.to hS5 HC6.out
                  clear hK K
                  refine takeL 16 (v := ?_) rfl (by kernel_rfl) (by kernel_rfl) (by kernel_rfl) (fun _ _ _ h => h) (by rfl) ?_ (by assumption) ?_
                  rotate_left
                  · (intro w hSw; (try dsimp only at hSw); replace z0 := cell_below z0 hSw; replace z1 := cell_below z1 hSw; replace z2 := cell_below z2 hSw; replace z3 := cell_below z3 hSw; replace z4 := cell_below z4 hSw; go_simp; try with_reducible rfl)
                  try simp only [Act.put, List.setIfInBounds_toArray, List.set_cons_zero, List.set_cons_succ]
                  refine takeL 17 (v := ?_) rfl (by kernel_rfl) (by kernel_rfl) (by kernel_rfl) (fun _ _ _ h => h) (by rfl) ?_ (by assumption) ?_
                  rotate_left
                  · (intro w hSw; (try dsimp only at hSw); replace z0 := cell_below z0 hSw; replace z1 := cell_below z1 hSw; replace z2 := cell_below z2 hSw; replace z3 := cell_below z3 hSw; replace z4 := cell_below z4 hSw; go_simp; try with_reducible rfl)
                  try simp only [Act.put, List.setIfInBounds_toArray, List.set_cons_zero, List.set_cons_succ]
                  refine takeL 18 (v := ?_) rfl (by kernel_rfl) (by kernel_rfl) (by kernel_rfl) (fun _ _ _ h => h) (by rfl) ?_ (by assumption) ?_
                  rotate_left
                  · (intro w hSw; (try dsimp only at hSw); replace z0 := cell_below z0 hSw; replace z1 := cell_below z1 hSw; replace z2 := cell_below z2 hSw; replace z3 := cell_below z3 hSw; replace z4 := cell_below z4 hSw; go_simp; try with_reducible rfl)
                  try simp only [Act.put, List.setIfInBounds_toArray, List.set_cons_zero, List.set_cons_succ]
                  refine takeL 19 (v := ?_) rfl (by kernel_rfl) (by kernel_rfl) (by kernel_rfl) (fun _ _ _ h => h) (by rfl) ?_ (by assumption) ?_
                  rotate_left
                  · (intro w hSw; (try dsimp only at hSw); replace z0 := cell_below z0 hSw; replace z1 := cell_below z1 hSw; replace z2 := cell_below z2 hSw; replace z3 := cell_below z3 hSw; replace z4 := cell_below z4 hSw; go_simp; try with_reducible rfl)
                  try simp only [Act.put, List.setIfInBounds_toArray, List.set_cons_zero, List.set_cons_succ]
                  refine wpAnyH_done (by kernel_rfl) ?_ _
                  go_wp2_with fail
                  go_roundw
                  case rel => exact ⟨k + 1, by omega, by go_num, by rw [HCV1.out]; rfl, HCUR, Lib.hid (HOv.out.keep (HB3.out.trans (HCR2.out.mono HB3.out.size)))⟩
                  case measure => simp [intOf]; omega
            · have e0 : ((Tn : Int) == 0) = false := by rw [beq_eq_false_iff_ne]; omega
              rw [if_neg hT] at HON
              clear hT
              go_wp2_with fail
              have HCUR : Hid (Below w.heap.size w w2.drew) := Lib.hid (HBW2.out.trans ((below_drew _).mono HBW2.out.size))
              have HCR2 : Hid (Below w2.heap.size w2 w2.drew) := Lib.hid (below_drew _)
              refine wp_region_held_drew (S := fun w' => Below (w2).heap.size (w2) w') (by kernel_rfl) (below_drew _) (fun hS0 => ?_)
              refine takeL 0 (v := ?_) rfl (by kernel_rfl) (by kernel_rfl) (by kernel_rfl) (fun _ _ _ h => h) (by rfl) ?_ (by assumption) ?_
              rotate_left
              · (intro w hSw; (try dsimp only at hSw); replace z0 := cell_below z0 hSw; replace z1 := cell_below z1 hSw; replace z2 := cell_below z2 hSw; replace z3 := cell_below z3 hSw; replace z4 := cell_below z4 hSw; go_simp; try with_reducible rfl)
              try simp only [Act.put, List.setIfInBounds_toArray, List.set_cons_zero, List.set_cons_succ]
              refine takeL 1 (v := ?_) rfl (by kernel_rfl) (by kernel_rfl) (by kernel_rfl) (fun _ _ _ h => h) (by rfl) ?_ (by assumption) ?_
              rotate_left
              · (intro w hSw; (try dsimp only at hSw); replace z0 := cell_below z0 hSw; replace z1 := cell_below z1 hSw; replace z2 := cell_below z2 hSw; replace z3 := cell_below z3 hSw; replace z4 := cell_below z4 hSw; go_simp; try with_reducible rfl)
              try simp only [Act.put, List.setIfInBounds_toArray, List.set_cons_zero, List.set_cons_succ]
              refine takeL 2 (v := ?_) rfl (by kernel_rfl) (by kernel_rfl) (by kernel_rfl) (fun _ _ _ h => h) (by rfl) ?_ (by assumption) ?_
              rotate_left
              · (intro w hSw; (try dsimp only at hSw); replace z0 := cell_below z0 hSw; replace z1 := cell_below z1 hSw; replace z2 := cell_below z2 hSw; replace z3 := cell_below z3 hSw; replace z4 := cell_below z4 hSw; go_simp; try with_reducible rfl)
              try simp only [Act.put, List.setIfInBounds_toArray, List.set_cons_zero, List.set_cons_succ]
              refine takeL 3 (v := ?_) rfl (by kernel_rfl) (by kernel_rfl) (by kernel_rfl) (fun _ _ _ h => h) (by rfl) ?_ (by assumption) ?_
              rotate_left
              · (intro w hSw; (try dsimp only at hSw); replace z0 := cell_below z0 hSw; replace z1 := cell_below z1 hSw; replace z2 := cell_below z2 hSw; replace z3 := cell_below z3 hSw; replace z4 := cell_below z4 hSw; go_simp; try with_reducible rfl)
              try simp only [Act.put, List.setIfInBounds_toArray, List.set_cons_zero, List.set_cons_succ]
              refine callL 4 rfl (by kernel_rfl) (by rfl) (fun K hK => ?_)
              go_simp
              refine (HT0.out).mono ?_
              rintro e wx1 ⟨rfl, hb⟩
              have HC1 := Lib.hid hb
              have HCUR := Lib.hid (Below.to HCUR.out hb)
              have HCR2 := Lib.hid (Below.to HCR2.out hb)
              clear hb
              go_simp
              refine hK.out _ _ ?_ (fun hS1 => ?_)
              · exact Below.to hS0 HC1.out
              clear hK K
              refine takeL 5 (v := ?_) rfl (by kernel_rfl) (by kernel_rfl) (by kernel_rfl) (fun _ _ _ h => h) (by rfl) ?_ (by assumption) ?_
              rotate_left
              · (intro w hSw; (try dsimp only at hSw); replace z0 := cell_below z0 hSw; replace z1 := cell_below z1 hSw; replace z2 := cell_below z2 hSw; replace z3 := cell_below z3 hSw; replace z4 := cell_below z4 hSw; go_simp; try with_reducible rfl)
              try simp only [Act.put, List.setIfInBounds_toArray, List.set_cons_zero, List.set_cons_succ]
              refine wpAnyH_done (by kernel_rfl) ?_ _
              have HOw := Lib.hid (HO2.out.keep HCR2.out)
              have HX3 := Lib.hid (HX2.out.keep HCR2.out)
              replace z0 := cell_below z0 HCR2.out
              replace z1 := cell_below z1 HCR2.out
              replace z2 := cell_below z2 HCR2.out
              replace z3 := cell_below z3 HCR2.out
              replace z4 := cell_below z4 HCR2.out
              clear HT0 HO2 HX2 HOA
              have HOv : Hid (OwnD w.heap.size w.heap.size 48 5 wx1 (.slice av rl cv) (ansRows (onceA la (k + 1)))) := Lib.hid (by rw [HON.out]; exact HOw.out)
              have HC6 := HCUR
              have hq6 := HX3.out.lt
              clear HOw HCUR HCR2
              go_wp2_with fail
              clear z0 z1 z2 z3 z4
              go_loopw [14, 91] (fun s i w3 => ∃ k3 : Nat, k3 ≤ npb ∧ i = .int .i64 k3 ∧ s = .string (txtA names x.binds k3) ∧ Hid (Below wx1.heap.size wx1 w3)) (fun _ i _ => npb - (intOf i).toNat)
              case atStart => exact ⟨0, Nat.zero_le _, rfl, rfl, Lib.hid (Below.refl _ _)⟩
              case round =>
                obtain ⟨k3, hk3, rfl, rfl, HB3⟩ := hrel
                rename World => w3
                have HBW3 := Lib.hid (HC6.out.trans (HB3.out.mono HC6.out.size))
                have hbl3 := HXw.out.1.len
                rw [Tm.rows_len] at hbl3
                have hbc3 := hbl3.2.1
                have hbm3 := hbl3.2.2
                have hst : (txtA names x.binds k3).size ≤ 40000000000 := by
                  have h1 := txtA_size (ts := x.binds) HNM0.out (fun t ht => show_small (HXS.out.bind ht).1 (HXS.out.bind ht).2) k3
                  have h2 := HXS.out.2.2
                  omega
                have HX9 := Lib.hid (HX3.out.keep HB3.out)
                have hq9 := HX9.out.lt
                by_cases hlt3 : k3 < npb
                · have hltz3 : (k3 : Int) < (npb : Int) := by omega
                  obtain ⟨bT, oT, t, at_, nt, ct, rfl, hbT, Ht, t0, t1, t2, t3, GT⟩ := tm_at HXw.out.1 k3 hlt3
                  have hm := HXS.out.bind (mem_of_at Ht.out)
                  have hsh := show_small hm.1 hm.2
                  have HBA3 := Lib.hid (HB3.out.alloc HB3.out.size (.cells #[.int .i64 t.kind, .string t.name, .int .i64 t.n, .slice at_ nt ct] 24))
                  have HBWA := Lib.hid (HBW3.out.alloc HBW3.out.size (.cells #[.int .i64 t.kind, .string t.name, .int .i64 t.n, .slice at_ nt ct] 24))
                  have HCS := Lib.hid (showRt hm.1 hm.2 (w3.alloc (.cells #[.int .i64 t.kind, .string t.name, .int .i64 t.n, .slice at_ nt ct] 24)) at_ nt ct (MemW.keep GT.out HBWA.out))
                  have HL := Lib.hid (txtA_at (names := names) Ht.out)
                  replace t0 := cell_below t0 HBW3.out
                  replace t1 := cell_below t1 HBW3.out
                  replace t2 := cell_below t2 HBW3.out
                  replace t3 := cell_below t3 HBW3.out
                  replace hbT : bT < w3.heap.size := Nat.lt_of_lt_of_le hbT HBW3.out.size
                  have hnm := HNM.out k3
                  clear GT hm hbl3
                  generalize showM t = sh at *
                  generalize txtA names x.binds k3 = st at *
                  have i1 : (sh.size : Int) ≤ 1000000000 := by omega
                  have i2 : (st.size : Int) ≤ 40000000000 := by omega
                  by_cases hkn3 : k3 < nc
                  · have hkz : (k3 : Int) < (nc : Int) := by omega
                    obtain ⟨bN, oN, nm, rfl, hbN, Hnm, n0⟩ := str_at HC.out k3 hkn3
                    replace n0 := cell_below n0 HBW3.out
                    replace hbN : bN < w3.heap.size := Nat.lt_of_lt_of_le hbN HBW3.out.size
                    have HNMk := Lib.hid (show nameA names k3 = nm by unfold nameA; rw [Hnm.out]; rfl)
                    rw [HNMk.out] at HL hnm
                    have n1 := cell_below n0 (below_new w3 (.cells #[.int .i64 t.kind, .string t.name, .int .i64 t.n, .slice at_ nt ct] 24))
                    have i3 : (nm.size : Int) ≤ 2000000 := by omega
                    clear hnm hsh hst
                    go_wp2_with fail
                    refine HCS.out.mono ?_
                    rintro e w9 ⟨rfl, hb⟩
                    have HB9 := Lib.hid (HBA3.out.trans (hb.mono HBA3.out.size))
                    clear hb n0 n1
                    go_wp2_with fail
                    go_roundw
                    case rel => exact ⟨k3 + 1, by omega, by go_num, by rw [HL.out]; rfl, HB9⟩
                    case measure => simp [intOf]; omega
                  · have hkz : ¬ (k3 : Int) < (nc : Int) := by omega
                    have HNMk := Lib.hid (show nameA names k3 = ⟨#[63]⟩ by unfold nameA; rw [List.getElem?_eq_none (by have := HLC.out; omega)]; rfl)
                    rw [HNMk.out] at HL
                    clear hnm hsh hst
                    go_wp2_with fail
                    refine HCS.out.mono ?_
                    rintro e w9 ⟨rfl, hb⟩
                    have HB9 := Lib.hid (HBA3.out.trans (hb.mono HBA3.out.size))
                    clear hb
                    go_wp2_with fail
                    go_roundw
                    case rel => exact ⟨k3 + 1, by omega, by go_num, by rw [HL.out]; rfl, HB9⟩
                    case measure => simp [intOf]; omega
                · obtain rfl : k3 = npb := by omega
                  have hltz3 : ¬ (k3 : Int) < (k3 : Int) := by omega
                  have hsh := show_small HXS.out.val.1 HXS.out.val.2
                  have HSF := Lib.hid (show showA names x = txtA names x.binds k3 ++ showM x.value by rw [← hbl3.1]; rfl)
                  obtain ⟨z0, z1, z2, z3, z4⟩ := HX9.out.a5
                  clear hbl3
                  generalize hsv : showM x.value = sh at *
                  have HSV := Lib.hid hsv
                  clear hsv
                  generalize txtA names x.binds k3 = st at *
                  have hss : ¬ (9223372036854775807 < st.size + sh.size) := by omega
                  have i1 : (sh.size : Int) ≤ 1000000000 := by omega
                  have i2 : (st.size : Int) ≤ 40000000000 := by omega
                  clear hsh hst
                  generalize hGv : groundB (tupT x) = G at *
                  have HGv := Lib.hid hGv
                  clear hGv
                  have HCUR : Hid (Below w.heap.size w w3.drew) := Lib.hid (HBW3.out.trans ((below_drew _).mono HBW3.out.size))
                  have HCR2 : Hid (Below w3.heap.size w3 w3.drew) := Lib.hid (below_drew _)
                  go_wp2_with fail
                  refine wp_region_held_drew (S := fun w' => Below (w3).heap.size (w3) w') (by kernel_rfl) (below_drew _) (fun hS0 => ?_)
                  refine takeL 0 (v := ?_) rfl (by kernel_rfl) (by kernel_rfl) (by kernel_rfl) (fun _ _ _ h => h) (by rfl) ?_ (by assumption) ?_
                  rotate_left
                  · (intro w hSw; (try dsimp only at hSw); replace z0 := cell_below z0 hSw; replace z1 := cell_below z1 hSw; replace z2 := cell_below z2 hSw; replace z3 := cell_below z3 hSw; replace z4 := cell_below z4 hSw; go_simp; try with_reducible rfl)
                  try simp only [Act.put, List.setIfInBounds_toArray, List.set_cons_zero, List.set_cons_succ]
                  refine takeL 1 (v := ?_) rfl (by kernel_rfl) (by kernel_rfl) (by kernel_rfl) (fun _ _ _ h => h) (by rfl) ?_ (by assumption) ?_
                  rotate_left
                  · (intro w hSw; (try dsimp only at hSw); replace z0 := cell_below z0 hSw; replace z1 := cell_below z1 hSw; replace z2 := cell_below z2 hSw; replace z3 := cell_below z3 hSw; replace z4 := cell_below z4 hSw; go_simp; try with_reducible rfl)
                  try simp only [Act.put, List.setIfInBounds_toArray, List.set_cons_zero, List.set_cons_succ]
                  refine takeL 3 (v := ?_) rfl (by kernel_rfl) (by kernel_rfl) (by kernel_rfl) (fun _ _ _ h => h) (by rfl) ?_ (by assumption) ?_
                  rotate_left
                  · (intro w hSw; (try dsimp only at hSw); replace z0 := cell_below z0 hSw; replace z1 := cell_below z1 hSw; replace z2 := cell_below z2 hSw; replace z3 := cell_below z3 hSw; replace z4 := cell_below z4 hSw; go_simp; try with_reducible rfl)
                  try simp only [Act.put, List.setIfInBounds_toArray, List.set_cons_zero, List.set_cons_succ]
                  refine takeL 4 (v := ?_) rfl (by kernel_rfl) (by kernel_rfl) (by kernel_rfl) (fun _ _ _ h => h) (by rfl) ?_ (by assumption) ?_
                  rotate_left
                  · (intro w hSw; (try dsimp only at hSw); replace z0 := cell_below z0 hSw; replace z1 := cell_below z1 hSw; replace z2 := cell_below z2 hSw; replace z3 := cell_below z3 hSw; replace z4 := cell_below z4 hSw; go_simp; try with_reducible rfl)
                  try simp only [Act.put, List.setIfInBounds_toArray, List.set_cons_zero, List.set_cons_succ]
                  refine takeL 5 (v := ?_) rfl (by kernel_rfl) (by kernel_rfl) (by kernel_rfl) (fun _ _ _ h => h) (by rfl) ?_ (by assumption) ?_
                  rotate_left
                  · (intro w hSw; (try dsimp only at hSw); replace z0 := cell_below z0 hSw; replace z1 := cell_below z1 hSw; replace z2 := cell_below z2 hSw; replace z3 := cell_below z3 hSw; replace z4 := cell_below z4 hSw; go_simp; try with_reducible rfl)
                  try simp only [Act.put, List.setIfInBounds_toArray, List.set_cons_zero, List.set_cons_succ]
                  refine callL 2 rfl (by kernel_rfl) (by rfl) (fun K hK => ?_)
                  go_simp
                  refine (ansShow_any (names := names) (x := x) _ (MemW.keep HC.out HCUR.out) (AnsW.keep HXw.out HCUR.out) HXS.out HNM0.out).mono ?_
                  rintro e wx1 ⟨rfl, hb⟩
                  have HC1 := Lib.hid hb
                  have HCUR := Lib.hid (Below.to HCUR.out hb)
                  have HCR2 := Lib.hid (Below.to HCR2.out hb)
                  rw [HSF.out]
                  clear hb
                  go_simp
                  refine hK.out _ _ ?_ (fun hS1 => ?_)
                  · exact Below.to hS0 HC1.out
                  clear hK K
                  refine callL 6 rfl (by kernel_rfl) (by rfl) (fun K hK => ?_)
                  go_simp
                  refine (showRt HXS.out.val.1 HXS.out.val.2 _ px npx cpx (MemW.keep HXw.out.2 HCUR.out)).mono ?_
                  rintro e wx2 ⟨rfl, hb⟩
                  have HC2 := Lib.hid hb
                  have HCUR := Lib.hid (Below.to HCUR.out hb)
                  have HCR2 := Lib.hid (Below.to HCR2.out hb)
                  rw [HSV.out]
                  clear hb
                  go_simp
                  refine hK.out _ _ ?_ (fun hS2 => ?_)
                  · exact Below.to hS1 HC2.out
                  clear hK K
                  refine takeL 7 (v := ?_) rfl (by kernel_rfl) (by kernel_rfl) (by kernel_rfl) (fun _ _ _ h => h) (by rfl) ?_ (by assumption) ?_
                  rotate_left
                  · (intro w hSw; (try dsimp only at hSw); replace z0 := cell_below z0 hSw; replace z1 := cell_below z1 hSw; replace z2 := cell_below z2 hSw; replace z3 := cell_below z3 hSw; replace z4 := cell_below z4 hSw; go_simp; try with_reducible rfl)
                  try simp only [Act.put, List.setIfInBounds_toArray, List.set_cons_zero, List.set_cons_succ]
                  refine takeL 8 (v := ?_) rfl (by kernel_rfl) (by kernel_rfl) (by kernel_rfl) (fun _ _ _ h => h) (by rfl) ?_ (by assumption) ?_
                  rotate_left
                  · (intro w hSw; (try dsimp only at hSw); replace z0 := cell_below z0 hSw; replace z1 := cell_below z1 hSw; replace z2 := cell_below z2 hSw; replace z3 := cell_below z3 hSw; replace z4 := cell_below z4 hSw; go_simp; try with_reducible rfl)
                  try simp only [Act.put, List.setIfInBounds_toArray, List.set_cons_zero, List.set_cons_succ]
                  refine takeL 9 (v := ?_) rfl (by kernel_rfl) (by kernel_rfl) (by kernel_rfl) (fun _ _ _ h => h) (by rfl) ?_ (by assumption) ?_
                  rotate_left
                  · (intro w hSw; (try dsimp only at hSw); replace z0 := cell_below z0 hSw; replace z1 := cell_below z1 hSw; replace z2 := cell_below z2 hSw; replace z3 := cell_below z3 hSw; replace z4 := cell_below z4 hSw; go_simp; try with_reducible rfl)
                  try simp only [Act.put, List.setIfInBounds_toArray, List.set_cons_zero, List.set_cons_succ]
                  refine takeL 10 (v := ?_) rfl (by kernel_rfl) (by kernel_rfl) (by kernel_rfl) (fun _ _ _ h => h) (by rfl) ?_ (by assumption) ?_
                  rotate_left
                  · (intro w hSw; (try dsimp only at hSw); replace z0 := cell_below z0 hSw; replace z1 := cell_below z1 hSw; replace z2 := cell_below z2 hSw; replace z3 := cell_below z3 hSw; replace z4 := cell_below z4 hSw; go_simp; try with_reducible rfl)
                  try simp only [Act.put, List.setIfInBounds_toArray, List.set_cons_zero, List.set_cons_succ]
                  refine takeL 12 (v := ?_) rfl (by kernel_rfl) (by kernel_rfl) (by kernel_rfl) (fun _ _ _ h => h) (by rfl) ?_ (by assumption) ?_
                  rotate_left
                  · (intro w hSw; (try dsimp only at hSw); replace z0 := cell_below z0 hSw; replace z1 := cell_below z1 hSw; replace z2 := cell_below z2 hSw; replace z3 := cell_below z3 hSw; replace z4 := cell_below z4 hSw; go_simp; try with_reducible rfl)
                  try simp only [Act.put, List.setIfInBounds_toArray, List.set_cons_zero, List.set_cons_succ]
                  refine callL 11 rfl (by kernel_rfl) (by rfl) (fun K hK => ?_)
                  go_simp
                  refine (ansGround_any (x := x) _ (AnsW.keep HXw.out HCUR.out) HXF.out).mono ?_
                  rintro e wx3 ⟨rfl, hb⟩
                  have HC3 := Lib.hid hb
                  have HCUR := Lib.hid (Below.to HCUR.out hb)
                  have HCR2 := Lib.hid (Below.to HCR2.out hb)
                  rw [HGv.out]
                  clear hb
                  go_simp
                  refine hK.out _ _ ?_ (fun hS3 => ?_)
                  · exact Below.to hS2 HC3.out
                  clear hK K
                  refine callL 13 rfl (by kernel_rfl) (by rfl) (fun K hK => ?_)
                  go_simp
                  refine (tuple3_any (x := x) _ (AnsW.keep HXw.out HCUR.out) (HXF.out.binds HXw.out)).mono ?_
                  rintro e wx4 ⟨aHM1, nHM1, cHM1, rfl, hb, hm⟩
                  have HC4 := Lib.hid hb
                  have HCUR := Lib.hid (Below.to HCUR.out hb)
                  have HCR2 := Lib.hid (Below.to HCR2.out hb)
                  have hm0 := hm
                  have HM1 := Lib.hid hm0
                  clear hm hm0
                  clear hb
                  go_simp
                  refine hK.out _ _ ?_ (fun hS4 => ?_)
                  · exact Below.to hS3 HC4.out
                  clear hK K
                  refine callL 14 rfl (by kernel_rfl) (by rfl) (fun K hK => ?_)
                  go_simp
                  have HMV : Hid (MemW (wx4.alloc (.cells #[.int .i64 1, .string ⟨#[]⟩, .int .i64 0, .slice aHM1 nHM1 cHM1] 24)) (.s 4 (Tm.rows [tupT x])) (.slice (some ⟨wx4.heap.size, 0, none⟩) 1 1)) := Lib.hid (one_mem (tupT x) HM1.out)
                  replace HCUR := Lib.hid (HCUR.out.alloc HCUR.out.size (.cells #[.int .i64 1, .string ⟨#[]⟩, .int .i64 0, .slice aHM1 nHM1 cHM1] 24))
                  replace HCR2 := Lib.hid (HCR2.out.alloc HCR2.out.size (.cells #[.int .i64 1, .string ⟨#[]⟩, .int .i64 0, .slice aHM1 nHM1 cHM1] 24))
                  refine hK.out _ _ ?_ (fun hS5 => ?_)
                  · exact hS4.alloc hS4.size _
                  clear hK K
                  refine callL 15 rfl (by kernel_rfl) (by rfl) (fun K hK => ?_)
                  go_simp
                  refine (vars3_any (l := [tupT x]) _ HMV.out (by rw [Tm.alls, Tm.alls, List.append_nil]; exact HXF.out.big)).mono ?_
                  rintro e wx6 ⟨aV, nV, cV, rfl, hb, hmV⟩
                  have HC6 := Lib.hid hb
                  have HCUR := Lib.hid (Below.to HCUR.out hb)
                  have HCR2 := Lib.hid (Below.to HCR2.out hb)
                  have hgv : ((nV : Int) == 0) = G := by
                    have h1 := (Mem.len hmV).1
                    rw [intRows_len, Tm.alls, Tm.alls, List.append_nil] at h1
                    rw [← HGv.out, ← ground_varsA, ← h1]
                  clear hmV
                  clear hb
                  go_simp
                  refine hK.out _ _ ?_ (fun hS6 => ?_)
                  · exact Below.to hS5 HC6.out
                  clear hK K
                  refine takeL 16 (v := ?_) rfl (by kernel_rfl) (by kernel_rfl) (by kernel_rfl) (fun _ _ _ h => h) (by rfl) ?_ (by assumption) ?_
                  rotate_left
                  · (intro w hSw; (try dsimp only at hSw); replace z0 := cell_below z0 hSw; replace z1 := cell_below z1 hSw; replace z2 := cell_below z2 hSw; replace z3 := cell_below z3 hSw; replace z4 := cell_below z4 hSw; go_simp; try with_reducible rfl)
                  try simp only [Act.put, List.setIfInBounds_toArray, List.set_cons_zero, List.set_cons_succ]
                  refine takeL 17 (v := ?_) rfl (by kernel_rfl) (by kernel_rfl) (by kernel_rfl) (fun _ _ _ h => h) (by rfl) ?_ (by assumption) ?_
                  rotate_left
                  · (intro w hSw; (try dsimp only at hSw); replace z0 := cell_below z0 hSw; replace z1 := cell_below z1 hSw; replace z2 := cell_below z2 hSw; replace z3 := cell_below z3 hSw; replace z4 := cell_below z4 hSw; go_simp; try with_reducible rfl)
                  try simp only [Act.put, List.setIfInBounds_toArray, List.set_cons_zero, List.set_cons_succ]
                  refine takeL 18 (v := ?_) rfl (by kernel_rfl) (by kernel_rfl) (by kernel_rfl) (fun _ _ _ h => h) (by rfl) ?_ (by assumption) ?_
                  rotate_left
                  · (intro w hSw; (try dsimp only at hSw); replace z0 := cell_below z0 hSw; replace z1 := cell_below z1 hSw; replace z2 := cell_below z2 hSw; replace z3 := cell_below z3 hSw; replace z4 := cell_below z4 hSw; go_simp; try with_reducible rfl)
                  try simp only [Act.put, List.setIfInBounds_toArray, List.set_cons_zero, List.set_cons_succ]
                  refine takeL 19 (v := ?_) rfl (by kernel_rfl) (by kernel_rfl) (by kernel_rfl) (fun _ _ _ h => h) (by rfl) ?_ (by assumption) ?_
                  rotate_left
                  · (intro w hSw; (try dsimp only at hSw); replace z0 := cell_below z0 hSw; replace z1 := cell_below z1 hSw; replace z2 := cell_below z2 hSw; replace z3 := cell_below z3 hSw; replace z4 := cell_below z4 hSw; go_simp; try with_reducible rfl)
                  try simp only [Act.put, List.setIfInBounds_toArray, List.set_cons_zero, List.set_cons_succ]
                  refine wpAnyH_done (by kernel_rfl) ?_ _
                  go_wp2_with fail
                  go_roundw
                  case rel => exact ⟨k + 1, by omega, by go_num, by rw [HCV1.out]; rfl, HCUR, Lib.hid (HOv.out.keep (HB3.out.trans (HCR2.out.mono HB3.out.size)))⟩
                  case measure => simp [intOf]; omega
    · obtain rfl : na = k := by omega
      have hltz : ¬ (na : Int) < (na : Int) := by omega
      have HCO : Hid (((la.take na).all fun x => lb.any fun y => instA y x) = coveredA la lb) := Lib.hid (by rw [List.take_of_length_le (by rw [HLA.out]; exact Nat.le_refl _), covered_all])
      rw [HCO.out]
      clear HCO
      generalize hCV : coveredA la lb = CV at *
      have HCV := Lib.hid hCV
      clear hCV
      generalize hrl : (ansRows (onceA la na)).length = rl at *
      have HRL := Lib.hid (show (onceA la na).length = rl by rw [← hrl, ansRows_len])
      clear hrl hcv hcm
      go_wp2_with fail
      refine (distinct_any wr (MemW.keep HA.out HB.out) HFA.out (by omega)).mono ?_
      rintro e w1 ⟨a1, n1, c1, rfl, hb1, hm1⟩
      have HM1 := Lib.hid hm1
      have HB1 := Lib.hid (Below.to HB.out hb1)
      have HOM := Lib.hid (MemW.keep HO.out.memW hb1)
      have HN1 := Lib.hid (ans_len hm1).1
      clear hb1 hm1 HO
      have PA : Hid (Plain9 w1 (.slice a na ka) (plainA la)) := Lib.hid fun w' h => plain30_any w' (MemW.keep (MemW.keep HA.out HB1.out) h) HFA.out
      have PB : Hid (Plain9 w1 (.slice b nb kb) (plainA lb)) := Lib.hid fun w' h => plain30_any w' (MemW.keep (MemW.keep HBL.out HB1.out) h) HFB.out
      have CO : Hid (Cov9 w1 (.slice a na ka) (.slice b nb kb) (coveredA la lb)) := Lib.hid fun w' h => covered_any w' (MemW.keep (MemW.keep HA.out HB1.out) h) (MemW.keep (MemW.keep HBL.out HB1.out) h) HFA.out HFB.out
      have AL : Hid (Alike9 w1 (.slice a na ka) (.slice b nb kb) (alikeA la lb)) := Lib.hid fun w' h => alike_any w' (MemW.keep (MemW.keep HA.out HB1.out) h) (MemW.keep (MemW.keep HBL.out HB1.out) h) HFA.out HFB.out (by omega)
      have RA : Hid (RAlike9 w1 (.slice a na ka) (.slice b nb kb) (ralikeA la lb)) := Lib.hid fun w' h => ralike_any w' (MemW.keep (MemW.keep HA.out HB1.out) h) (MemW.keep (MemW.keep HBL.out HB1.out) h) HFA.out HFB.out (by omega)
      unfold Plain9 at PA PB
      unfold Cov9 at CO
      unfold Alike9 at AL
      unfold RAlike9 at RA
      rw [HCV.out] at CO
      have hb : Below w1.heap.size w1 w1 := Below.refl _ _
      by_cases hpa : plainA la = false
      · rw [hpa] at PA
        clear hpa
        by_cases hgt : (rl : Int) < (n1 : Int)
        · have hgd : decide ((rl : Int) < (n1 : Int)) = true := decide_eq_true hgt
          have hgn : decide (rl < n1) = true := decide_eq_true (by omega)
          clear hgt
          have tk0 : True := trivial
          have tk1 : True := trivial
          have tk2 : True := trivial
          have tk3 : True := trivial
          go_wp2_with (first
            | (go_at_call 18
               have _t := tk0
               clear _t tk0
               refine (PA.out _ hb).mono ?_
               rintro e w' ⟨rfl, hb'⟩
               replace hb := Below.to hb hb'
               clear hb')
            | (go_at_call 18
               have _t := tk1
               clear _t tk1
               refine (PA.out _ hb).mono ?_
               rintro e w' ⟨rfl, hb'⟩
               replace hb := Below.to hb hb'
               clear hb')
            | (go_at_call 19
               have _t := tk2
               clear _t tk2
               refine (CO.out _ hb).mono ?_
               rintro e w' ⟨rfl, hb'⟩
               replace hb := Below.to hb hb'
               clear hb')
            | (go_at_call 18
               have _t := tk3
               clear _t tk3
               refine (PA.out _ hb).mono ?_
               rintro e w' ⟨rfl, hb'⟩
               replace hb := Below.to hb hb'
               clear hb'))
          go_ret
          exact ⟨rfl, HB1.out.trans (hb.mono HB1.out.size)⟩
        · have hgd : decide ((rl : Int) < (n1 : Int)) = false := decide_eq_false hgt
          have hgn : decide (rl < n1) = false := decide_eq_false (by omega)
          clear hgt
          have tk0 : True := trivial
          have tk1 : True := trivial
          have tk2 : True := trivial
          go_wp2_with (first
            | (go_at_call 18
               have _t := tk0
               clear _t tk0
               refine (PA.out _ hb).mono ?_
               rintro e w' ⟨rfl, hb'⟩
               replace hb := Below.to hb hb'
               clear hb')
            | (go_at_call 19
               have _t := tk1
               clear _t tk1
               refine (CO.out _ hb).mono ?_
               rintro e w' ⟨rfl, hb'⟩
               replace hb := Below.to hb hb'
               clear hb')
            | (go_at_call 18
               have _t := tk2
               clear _t tk2
               refine (PA.out _ hb).mono ?_
               rintro e w' ⟨rfl, hb'⟩
               replace hb := Below.to hb hb'
               clear hb'))
          go_ret
          exact ⟨rfl, HB1.out.trans (hb.mono HB1.out.size)⟩
      · have hpt : plainA la = true := by simpa using hpa
        rw [hpt] at PA
        have hdo : distA la = onceA la na := by
          have h1 := dist_once hpt na (by rw [HLA.out]; exact Nat.le_refl _)
          rwa [List.take_of_length_le (by rw [HLA.out]; exact Nat.le_refl _)] at h1
        obtain rfl : n1 = rl := by rw [← HN1.out, ← HRL.out, hdo]
        have SM : Hid (Same9 w1 (.slice a1 n1 c1) (.slice av n1 cv)) := Lib.hid fun w' h => sameAnswers_any (l := distA la) w' (MemW.keep HM1.out h) (by rw [hdo]; exact MemW.keep HOM.out h) (fun y hy => HFA.out y (distA_mem hy)) (fun y hy => same_refl hpt y (distA_mem hy))
        unfold Same9 at SM
        have hgd : decide ((n1 : Int) < (n1 : Int)) = false := by simp
        have HAE := Lib.hid (alike_eq (a := la) (b := lb) hpt)
        clear hpa hpt hdo
        by_cases hpb : plainA lb = false
        · rw [hpb] at PB
          clear hpb
          have tk0 : True := trivial
          have tk1 : True := trivial
          have tk2 : True := trivial
          have tk3 : True := trivial
          have tk4 : True := trivial
          go_wp2_with (first
            | (go_at_call 18
               have _t := tk0
               clear _t tk0
               refine (PA.out _ hb).mono ?_
               rintro e w' ⟨rfl, hb'⟩
               replace hb := Below.to hb hb'
               clear hb')
            | (go_at_call 32
               have _t := tk1
               clear _t tk1
               refine (SM.out _ hb).mono ?_
               rintro e w' ⟨rfl, hb'⟩
               replace hb := Below.to hb hb'
               clear hb')
            | (go_at_call 19
               have _t := tk2
               clear _t tk2
               refine (CO.out _ hb).mono ?_
               rintro e w' ⟨rfl, hb'⟩
               replace hb := Below.to hb hb'
               clear hb')
            | (go_at_call 18
               have _t := tk3
               clear _t tk3
               refine (PA.out _ hb).mono ?_
               rintro e w' ⟨rfl, hb'⟩
               replace hb := Below.to hb hb'
               clear hb')
            | (go_at_call 18
               have _t := tk4
               clear _t tk4
               refine (PB.out _ hb).mono ?_
               rintro e w' ⟨rfl, hb'⟩
               replace hb := Below.to hb hb'
               clear hb'))
          go_ret
          exact ⟨rfl, HB1.out.trans (hb.mono HB1.out.size)⟩
        · have hpbt : plainA lb = true := by simpa using hpb
          rw [hpbt] at PB
          rw [HAE.out hpbt] at AL
          clear hpb hpbt HAE
          generalize ralikeA la lb = RV at *
          have tk0 : True := trivial
          have tk1 : True := trivial
          have tk2 : True := trivial
          have tk3 : True := trivial
          have tk4 : True := trivial
          have tk5 : True := trivial
          have tk6 : True := trivial
          go_wp2_with (first
            | (go_at_call 18
               have _t := tk0
               clear _t tk0
               refine (PA.out _ hb).mono ?_
               rintro e w' ⟨rfl, hb'⟩
               replace hb := Below.to hb hb'
               clear hb')
            | (go_at_call 32
               have _t := tk1
               clear _t tk1
               refine (SM.out _ hb).mono ?_
               rintro e w' ⟨rfl, hb'⟩
               replace hb := Below.to hb hb'
               clear hb')
            | (go_at_call 19
               have _t := tk2
               clear _t tk2
               refine (CO.out _ hb).mono ?_
               rintro e w' ⟨rfl, hb'⟩
               replace hb := Below.to hb hb'
               clear hb')
            | (go_at_call 18
               have _t := tk3
               clear _t tk3
               refine (PA.out _ hb).mono ?_
               rintro e w' ⟨rfl, hb'⟩
               replace hb := Below.to hb hb'
               clear hb')
            | (go_at_call 18
               have _t := tk4
               clear _t tk4
               refine (PB.out _ hb).mono ?_
               rintro e w' ⟨rfl, hb'⟩
               replace hb := Below.to hb hb'
               clear hb')
            | (go_at_call 20
               have _t := tk5
               clear _t tk5
               refine (AL.out _ hb).mono ?_
               rintro e w' ⟨rfl, hb'⟩
               replace hb := Below.to hb hb'
               clear hb')
            | (go_at_call 33
               have _t := tk6
               clear _t tk6
               refine (RA.out _ hb).mono ?_
               rintro e w' ⟨rfl, hb'⟩
               replace hb := Below.to hb hb'
               clear hb'))
          go_ret
          exact ⟨rfl, HB1.out.trans (hb.mono HB1.out.size)⟩
end Go.Proofs.Ytmadfkofmehfkaa
