/-
  The walk of the law AnswerCovers: it answers true at every input. No condition but how the answers lie, and how great they are.
-/
import Derived.Test.YtmadfkofmehfkaaAt30
import Derived.Test.YtmadfkofmehfkaaAt21
import Derived.Test.YtmadfkofmehfkaaAt33
import Derived.Test.YtmadfkofmehfkaaAt28
namespace Go.Proofs.Ytmadfkofmehfkaa
open Go.RowKit Go.Maps

theorem fit_of {x : Ans} (hf : fewB x.all = true) (hok : ∀ t ∈ x.all, t.ok) : x.fit := by
  unfold fewB at hf
  rw [Bool.and_eq_true] at hf
  have h1 := of_decide_eq_true hf.1
  have h2 : (tupT x).args = x.all := rfl
  refine ⟨?_, by rw [Tm.size_eq, h2]; omega⟩
  intro y hy
  rw [Tm.all_eq, h2] at hy
  rcases List.mem_cons.1 hy with rfl | hy
  · exact ⟨by show inI64 1; unfold inI64; decide, by show inI64 0; unfold inI64; decide⟩
  · rw [Tm.alls_eq] at hy
    obtain ⟨t, ht, hy⟩ := List.mem_flatMap.1 hy
    exact hok t ht y hy
theorem fewA_fit {l : List Ans} (h : fewA l = true) (hok : ∀ x ∈ l, ∀ t ∈ x.all, t.ok) : ∀ x ∈ l, x.fit := fun x hx => by
  unfold fewA at h
  rw [Bool.and_eq_true] at h
  exact fit_of (List.all_eq_true.1 h.1 x hx) (hok x hx)
theorem fewA_ten {l : List Ans} (h : fewA l = true) : l.length ≤ 10 := by
  unfold fewA at h
  rw [Bool.and_eq_true] at h
  exact of_decide_eq_true h.2
theorem plainA_at {l : List Ans} (h : plainA l = true) {x : Ans} (hx : x ∈ l) : Plain (tupT x) := plain_of (List.all_eq_true.1 h x hx)
theorem coveredA_iff (a b : List Ans) : coveredA a b = true ↔ ∀ x ∈ a, ∃ y ∈ b, instA y x = true := by
  unfold coveredA
  rw [Bool.not_eq_true', Bool.eq_false_iff, ne_eq, List.any_eq_true]
  constructor
  · intro h x hx
    by_cases hb : b.any (fun y => instA y x) = true
    · obtain ⟨y, hy, e⟩ := List.any_eq_true.1 hb
      exact ⟨y, hy, e⟩
    · exact absurd ⟨x, hx, by rw [Bool.not_eq_true] at hb; rw [hb]; rfl⟩ h
  · rintro h ⟨x, hx, e⟩
    obtain ⟨y, hy, e2⟩ := h x hx
    have : b.any (fun y => instA y x) = true := List.any_eq_true.2 ⟨y, hy, e2⟩
    rw [this] at e
    cases e
theorem covered_trans {a b c : List Ans} (ha : plainA a = true) (hb : plainA b = true) (hc : plainA c = true) (h1 : coveredA a b = true) (h2 : coveredA b c = true) : coveredA a c = true := by
  rw [coveredA_iff] at *
  intro x hx
  obtain ⟨y, hy, e1⟩ := h1 x hx
  obtain ⟨z, hz, e2⟩ := h2 y hy
  exact ⟨z, hz, inst_trans (plainA_at hc hz) (plainA_at hb hy) (plainA_at ha hx) e2 e1⟩
theorem same_inst {x y : Ans} (h : sameA x y = true) : instA y x = true := by
  unfold sameA vari at h
  rw [Bool.and_eq_true] at h
  exact h.2
theorem alikeG_cov : ∀ (a left : List Ans), alikeG a left = true → ∀ x ∈ a, ∃ y ∈ left, instA y x = true
  | [], _, _, x, hx => by cases hx
  | x :: xs, left, h, z, hz => by
    rw [alikeG] at h
    split at h
    · rename_i hany
      rcases List.mem_cons.1 hz with rfl | hz
      · obtain ⟨y, hy, e⟩ := List.any_eq_true.1 hany
        exact ⟨y, hy, same_inst e⟩
      · obtain ⟨y, hy, e⟩ := alikeG_cov xs _ h z hz
        exact ⟨y, List.mem_of_mem_eraseIdx hy, e⟩
    · cases h
theorem alike_covered {a b : List Ans} (h : alikeA a b = true) : coveredA a b = true := by
  unfold alikeA at h
  rw [Bool.and_eq_true] at h
  rw [coveredA_iff]
  exact alikeG_cov a b h.2
theorem foldD_sub (l : List Ans) : ∀ (d : List Ans) (y : Ans), y ∈ d → y ∈ l.foldl stepD d := by
  induction l with
  | nil => intro d y h; exact h
  | cons x l ih =>
    intro d y h
    refine ih _ _ ?_
    unfold stepD
    split
    · exact h
    · exact List.mem_append_left _ h
theorem foldD_has (l : List Ans) : ∀ (d : List Ans) (x : Ans), x ∈ l → (∀ z ∈ l, sameA z z = true) → ∃ y ∈ l.foldl stepD d, sameA x y = true := by
  induction l with
  | nil => intro d x h; cases h
  | cons z l ih =>
    intro d x h hr
    rcases List.mem_cons.1 h with rfl | h
    · simp only [List.foldl_cons]
      unfold stepD
      split
      · rename_i hany
        obtain ⟨y, hy, e⟩ := List.any_eq_true.1 hany
        exact ⟨y, foldD_sub l d y hy, e⟩
      · exact ⟨x, foldD_sub l _ x (List.mem_append_right _ (List.mem_singleton_self _)), hr x (List.mem_cons_self ..)⟩
    · exact ih _ x h (fun w hw => hr w (List.mem_cons_of_mem _ hw))
theorem same_refl {l : List Ans} (h : plainA l = true) : ∀ z ∈ l, sameA z z = true := fun _ hz => vari_refl (plainA_at h hz)
theorem covered_dist {l : List Ans} (h : plainA l = true) : coveredA l (distA l) = true := by
  rw [coveredA_iff]
  intro x hx
  obtain ⟨y, hy, e⟩ := foldD_has l [] x hx (same_refl h)
  exact ⟨y, hy, same_inst e⟩
theorem dist_covered {l : List Ans} (h : plainA l = true) : coveredA (distA l) l = true := by
  rw [coveredA_iff]
  intro x hx
  exact ⟨x, distA_mem hx, inst_refl (plainA_at h (distA_mem hx))⟩
/-- What a call of a test of lists answers, in every world behind. -/
def Few9 (w : World) (v : Value) (r : Bool) : Prop := ∀ w', Below w.heap.size w w' → Calls Try.prog 17 #[v] w' fun e w2 => e = .returned (.bool r) ∧ Below w'.heap.size w' w2
def Plain9 (w : World) (v : Value) (r : Bool) : Prop := ∀ w', Below w.heap.size w w' → Calls Try.prog 18 #[v] w' fun e w2 => e = .returned (.bool r) ∧ Below w'.heap.size w' w2
def Cov9 (w : World) (v u : Value) (r : Bool) : Prop := ∀ w', Below w.heap.size w w' → Calls Try.prog 19 #[v, u] w' fun e w2 => e = .returned (.bool r) ∧ Below w'.heap.size w' w2
def Alike9 (w : World) (v u : Value) (r : Bool) : Prop := ∀ w', Below w.heap.size w w' → Calls Try.prog 20 #[v, u] w' fun e w2 => e = .returned (.bool r) ∧ Below w'.heap.size w' w2
set_option maxRecDepth 100000 in
set_option maxHeartbeats 20000000 in
theorem answerCovers_any {la lb lc : List Ans} {a b c : Option Addr} {na ka nb kb nc kc : Nat} (w : World) (ha : MemW w (.s 5 (ansRows la)) (.slice a na ka)) (hb : MemW w (.s 5 (ansRows lb)) (.slice b nb kb)) (hc : MemW w (.s 5 (ansRows lc)) (.slice c nc kc))
    (hsa : ∀ x ∈ la, (Tm.alls x.all).length ≤ 1048576) (hsb : ∀ x ∈ lb, (Tm.alls x.all).length ≤ 1048576) (hsc : ∀ x ∈ lc, (Tm.alls x.all).length ≤ 1048576) (hoa : ∀ x ∈ la, ∀ t ∈ x.all, t.ok) (hob : ∀ x ∈ lb, ∀ t ∈ x.all, t.ok) (hoc : ∀ x ∈ lc, ∀ t ∈ x.all, t.ok) :
    Calls Try.prog 5 #[.slice a na ka, .slice b nb kb, .slice c nc kc] w fun e w' => e = .returned (.bool true) ∧ Below w.heap.size w w' := by
  have hla := ans_len ha
  have HA := Lib.hid ha
  have HB := Lib.hid hb
  have HC := Lib.hid hc
  have HLA := Lib.hid hla.1
  have HLB := Lib.hid (ans_len hb).1
  have HOA := Lib.hid hoa
  have HOB := Lib.hid hob
  have HOC := Lib.hid hoc
  have Fa : Hid (Few9 w (.slice a na ka) (fewA la)) := Lib.hid fun w' h => few30_any w' (MemW.keep HA.out h) hsa
  have Fb : Hid (Few9 w (.slice b nb kb) (fewA lb)) := Lib.hid fun w' h => few30_any w' (MemW.keep HB.out h) hsb
  have Fc : Hid (Few9 w (.slice c nc kc) (fewA lc)) := Lib.hid fun w' h => few30_any w' (MemW.keep HC.out h) hsc
  clear ha hb hc hsa hsb hsc hoa hob hoc hla
  have hb : Below w.heap.size w w := Below.refl _ _
  unfold Few9 at Fa Fb Fc
  by_cases fa : fewA la = false
  · rw [fa] at Fa
    clear fa
    go_enter Try.func5, Try.ntmps5
    have tk0 : True := trivial
    go_wp2_with (first
      | (go_at_call 16
         refine (awake30_any _).mono ?_
         rintro e w' ⟨rfl, hb'⟩
         replace hb := Below.to hb hb'
         clear hb')
      | (go_at_call 17
         have _t := tk0
         clear _t tk0
         refine (Fa.out _ hb).mono ?_
         rintro e w' ⟨rfl, hb'⟩
         replace hb := Below.to hb hb'
         clear hb'))
    go_ret
    exact ⟨rfl, hb⟩
  have ga : fewA la = true := by simpa using fa
  clear fa
  rw [ga] at Fa
  by_cases fb : fewA lb = false
  · rw [fb] at Fb
    clear fb
    go_enter Try.func5, Try.ntmps5
    have tk0 : True := trivial
    have tk1 : True := trivial
    go_wp2_with (first
      | (go_at_call 16
         refine (awake30_any _).mono ?_
         rintro e w' ⟨rfl, hb'⟩
         replace hb := Below.to hb hb'
         clear hb')
      | (go_at_call 17
         have _t := tk0
         clear _t tk0
         refine (Fa.out _ hb).mono ?_
         rintro e w' ⟨rfl, hb'⟩
         replace hb := Below.to hb hb'
         clear hb')
      | (go_at_call 17
         have _t := tk1
         clear _t tk1
         refine (Fb.out _ hb).mono ?_
         rintro e w' ⟨rfl, hb'⟩
         replace hb := Below.to hb hb'
         clear hb'))
    go_ret
    exact ⟨rfl, hb⟩
  have gb : fewA lb = true := by simpa using fb
  clear fb
  rw [gb] at Fb
  by_cases fc : fewA lc = false
  · rw [fc] at Fc
    clear fc
    go_enter Try.func5, Try.ntmps5
    have tk0 : True := trivial
    have tk1 : True := trivial
    have tk2 : True := trivial
    go_wp2_with (first
      | (go_at_call 16
         refine (awake30_any _).mono ?_
         rintro e w' ⟨rfl, hb'⟩
         replace hb := Below.to hb hb'
         clear hb')
      | (go_at_call 17
         have _t := tk0
         clear _t tk0
         refine (Fa.out _ hb).mono ?_
         rintro e w' ⟨rfl, hb'⟩
         replace hb := Below.to hb hb'
         clear hb')
      | (go_at_call 17
         have _t := tk1
         clear _t tk1
         refine (Fb.out _ hb).mono ?_
         rintro e w' ⟨rfl, hb'⟩
         replace hb := Below.to hb hb'
         clear hb')
      | (go_at_call 17
         have _t := tk2
         clear _t tk2
         refine (Fc.out _ hb).mono ?_
         rintro e w' ⟨rfl, hb'⟩
         replace hb := Below.to hb hb'
         clear hb'))
    go_ret
    exact ⟨rfl, hb⟩
  have gc : fewA lc = true := by simpa using fc
  clear fc
  rw [gc] at Fc
  have HFA := Lib.hid (fewA_fit ga HOA.out)
  have HFB := Lib.hid (fewA_fit gb HOB.out)
  have HFC := Lib.hid (fewA_fit gc HOC.out)
  have hna : na ≤ 10 := by rw [← HLA.out]; exact fewA_ten ga
  have hnb : nb ≤ 10 := by rw [← HLB.out]; exact fewA_ten gb
  have Pa : Hid (Plain9 w (.slice a na ka) (plainA la)) := Lib.hid fun w' h => plain30_any w' (MemW.keep HA.out h) HFA.out
  have Pb : Hid (Plain9 w (.slice b nb kb) (plainA lb)) := Lib.hid fun w' h => plain30_any w' (MemW.keep HB.out h) HFB.out
  have Pc : Hid (Plain9 w (.slice c nc kc) (plainA lc)) := Lib.hid fun w' h => plain30_any w' (MemW.keep HC.out h) HFC.out
  unfold Plain9 at Pa Pb Pc
  clear ga gb gc HOA HOB HOC
  by_cases fa : plainA la = false
  · rw [fa] at Pa
    clear fa
    go_enter Try.func5, Try.ntmps5
    have tk0 : True := trivial
    have tk1 : True := trivial
    have tk2 : True := trivial
    have tk3 : True := trivial
    go_wp2_with (first
      | (go_at_call 16
         refine (awake30_any _).mono ?_
         rintro e w' ⟨rfl, hb'⟩
         replace hb := Below.to hb hb'
         clear hb')
      | (go_at_call 17
         have _t := tk0
         clear _t tk0
         refine (Fa.out _ hb).mono ?_
         rintro e w' ⟨rfl, hb'⟩
         replace hb := Below.to hb hb'
         clear hb')
      | (go_at_call 17
         have _t := tk1
         clear _t tk1
         refine (Fb.out _ hb).mono ?_
         rintro e w' ⟨rfl, hb'⟩
         replace hb := Below.to hb hb'
         clear hb')
      | (go_at_call 17
         have _t := tk2
         clear _t tk2
         refine (Fc.out _ hb).mono ?_
         rintro e w' ⟨rfl, hb'⟩
         replace hb := Below.to hb hb'
         clear hb')
      | (go_at_call 18
         have _t := tk3
         clear _t tk3
         refine (Pa.out _ hb).mono ?_
         rintro e w' ⟨rfl, hb'⟩
         replace hb := Below.to hb hb'
         clear hb'))
    go_ret
    exact ⟨rfl, hb⟩
  have ga : plainA la = true := by simpa using fa
  clear fa
  rw [ga] at Pa
  by_cases fb : plainA lb = false
  · rw [fb] at Pb
    clear fb
    go_enter Try.func5, Try.ntmps5
    have tk0 : True := trivial
    have tk1 : True := trivial
    have tk2 : True := trivial
    have tk3 : True := trivial
    have tk4 : True := trivial
    go_wp2_with (first
      | (go_at_call 16
         refine (awake30_any _).mono ?_
         rintro e w' ⟨rfl, hb'⟩
         replace hb := Below.to hb hb'
         clear hb')
      | (go_at_call 17
         have _t := tk0
         clear _t tk0
         refine (Fa.out _ hb).mono ?_
         rintro e w' ⟨rfl, hb'⟩
         replace hb := Below.to hb hb'
         clear hb')
      | (go_at_call 17
         have _t := tk1
         clear _t tk1
         refine (Fb.out _ hb).mono ?_
         rintro e w' ⟨rfl, hb'⟩
         replace hb := Below.to hb hb'
         clear hb')
      | (go_at_call 17
         have _t := tk2
         clear _t tk2
         refine (Fc.out _ hb).mono ?_
         rintro e w' ⟨rfl, hb'⟩
         replace hb := Below.to hb hb'
         clear hb')
      | (go_at_call 18
         have _t := tk3
         clear _t tk3
         refine (Pa.out _ hb).mono ?_
         rintro e w' ⟨rfl, hb'⟩
         replace hb := Below.to hb hb'
         clear hb')
      | (go_at_call 18
         have _t := tk4
         clear _t tk4
         refine (Pb.out _ hb).mono ?_
         rintro e w' ⟨rfl, hb'⟩
         replace hb := Below.to hb hb'
         clear hb'))
    go_ret
    exact ⟨rfl, hb⟩
  have gb : plainA lb = true := by simpa using fb
  clear fb
  rw [gb] at Pb
  by_cases fc : plainA lc = false
  · rw [fc] at Pc
    clear fc
    go_enter Try.func5, Try.ntmps5
    have tk0 : True := trivial
    have tk1 : True := trivial
    have tk2 : True := trivial
    have tk3 : True := trivial
    have tk4 : True := trivial
    have tk5 : True := trivial
    go_wp2_with (first
      | (go_at_call 16
         refine (awake30_any _).mono ?_
         rintro e w' ⟨rfl, hb'⟩
         replace hb := Below.to hb hb'
         clear hb')
      | (go_at_call 17
         have _t := tk0
         clear _t tk0
         refine (Fa.out _ hb).mono ?_
         rintro e w' ⟨rfl, hb'⟩
         replace hb := Below.to hb hb'
         clear hb')
      | (go_at_call 17
         have _t := tk1
         clear _t tk1
         refine (Fb.out _ hb).mono ?_
         rintro e w' ⟨rfl, hb'⟩
         replace hb := Below.to hb hb'
         clear hb')
      | (go_at_call 17
         have _t := tk2
         clear _t tk2
         refine (Fc.out _ hb).mono ?_
         rintro e w' ⟨rfl, hb'⟩
         replace hb := Below.to hb hb'
         clear hb')
      | (go_at_call 18
         have _t := tk3
         clear _t tk3
         refine (Pa.out _ hb).mono ?_
         rintro e w' ⟨rfl, hb'⟩
         replace hb := Below.to hb hb'
         clear hb')
      | (go_at_call 18
         have _t := tk4
         clear _t tk4
         refine (Pb.out _ hb).mono ?_
         rintro e w' ⟨rfl, hb'⟩
         replace hb := Below.to hb hb'
         clear hb')
      | (go_at_call 18
         have _t := tk5
         clear _t tk5
         refine (Pc.out _ hb).mono ?_
         rintro e w' ⟨rfl, hb'⟩
         replace hb := Below.to hb hb'
         clear hb'))
    go_ret
    exact ⟨rfl, hb⟩
  have gc : plainA lc = true := by simpa using fc
  clear fc
  rw [gc] at Pc
  have Cab : Hid (Cov9 w (.slice a na ka) (.slice b nb kb) (coveredA la lb)) := Lib.hid fun w' h => covered_any w' (MemW.keep HA.out h) (MemW.keep HB.out h) HFA.out HFB.out
  have Cbc : Hid (Cov9 w (.slice b nb kb) (.slice c nc kc) (coveredA lb lc)) := Lib.hid fun w' h => covered_any w' (MemW.keep HB.out h) (MemW.keep HC.out h) HFB.out HFC.out
  have Cac : Hid (Cov9 w (.slice a na ka) (.slice c nc kc) (coveredA la lc)) := Lib.hid fun w' h => covered_any w' (MemW.keep HA.out h) (MemW.keep HC.out h) HFA.out HFC.out
  have Aab : Hid (Alike9 w (.slice a na ka) (.slice b nb kb) (alikeA la lb)) := Lib.hid fun w' h => alike_any w' (MemW.keep HA.out h) (MemW.keep HB.out h) HFA.out HFB.out (by omega)
  unfold Cov9 at Cab Cbc Cac
  unfold Alike9 at Aab
  have HD := Lib.hid (fun (w' : World) (h : Below w.heap.size w w') => distinct_any w' (MemW.keep HA.out h) HFA.out (by omega))
  have HFD : Hid (∀ y ∈ distA la, y.fit) := Lib.hid fun y hy => HFA.out y (distA_mem hy)
  have D1 := Lib.hid (covered_dist ga)
  have D2 := Lib.hid (dist_covered ga)
  have TR := Lib.hid (covered_trans ga gb gc)
  have AC := Lib.hid (alike_covered (a := la) (b := lb))
  clear ga gb gc
  cases hab : coveredA la lb with
  | true =>
    rw [hab] at Cab TR
    cases hbc : coveredA lb lc with
    | true =>
      rw [TR.out rfl hbc] at Cac
      rw [hbc] at Cbc
      cases hal : alikeA la lb with
      | true =>
        rw [hal] at Aab
        clear hab hbc hal
        go_enter Try.func5, Try.ntmps5
        have tk0 : True := trivial
        have tk1 : True := trivial
        have tk2 : True := trivial
        have tk3 : True := trivial
        have tk4 : True := trivial
        have tk5 : True := trivial
        have tk6 : True := trivial
        have tk7 : True := trivial
        have tk8 : True := trivial
        have tk9 : True := trivial
        have tk10 : True := trivial
        go_wp2_with (first
          | (go_at_call 16
             refine (awake30_any _).mono ?_
             rintro e w' ⟨rfl, hb'⟩
             replace hb := Below.to hb hb'
             clear hb')
          | (go_at_call 17
             have _t := tk0
             clear _t tk0
             refine (Fa.out _ hb).mono ?_
             rintro e w' ⟨rfl, hb'⟩
             replace hb := Below.to hb hb'
             clear hb')
          | (go_at_call 17
             have _t := tk1
             clear _t tk1
             refine (Fb.out _ hb).mono ?_
             rintro e w' ⟨rfl, hb'⟩
             replace hb := Below.to hb hb'
             clear hb')
          | (go_at_call 17
             have _t := tk2
             clear _t tk2
             refine (Fc.out _ hb).mono ?_
             rintro e w' ⟨rfl, hb'⟩
             replace hb := Below.to hb hb'
             clear hb')
          | (go_at_call 18
             have _t := tk3
             clear _t tk3
             refine (Pa.out _ hb).mono ?_
             rintro e w' ⟨rfl, hb'⟩
             replace hb := Below.to hb hb'
             clear hb')
          | (go_at_call 18
             have _t := tk4
             clear _t tk4
             refine (Pb.out _ hb).mono ?_
             rintro e w' ⟨rfl, hb'⟩
             replace hb := Below.to hb hb'
             clear hb')
          | (go_at_call 18
             have _t := tk5
             clear _t tk5
             refine (Pc.out _ hb).mono ?_
             rintro e w' ⟨rfl, hb'⟩
             replace hb := Below.to hb hb'
             clear hb')
          | (go_at_call 19
             have _t := tk6
             clear _t tk6
             refine (Cab.out _ hb).mono ?_
             rintro e w' ⟨rfl, hb'⟩
             replace hb := Below.to hb hb'
             clear hb')
          | (go_at_call 19
             have _t := tk7
             clear _t tk7
             refine (Cbc.out _ hb).mono ?_
             rintro e w' ⟨rfl, hb'⟩
             replace hb := Below.to hb hb'
             clear hb')
          | (go_at_call 19
             have _t := tk8
             clear _t tk8
             refine (Cac.out _ hb).mono ?_
             rintro e w' ⟨rfl, hb'⟩
             replace hb := Below.to hb hb'
             clear hb')
          | (go_at_call 20
             have _t := tk9
             clear _t tk9
             refine (Aab.out _ hb).mono ?_
             rintro e w' ⟨rfl, hb'⟩
             replace hb := Below.to hb hb'
             clear hb')
          | (go_at_call 19
             have _t := tk10
             clear _t tk10
             refine (Cab.out _ hb).mono ?_
             rintro e w' ⟨rfl, hb'⟩
             replace hb := Below.to hb hb'
             clear hb'))
        refine (HD.out _ hb).mono ?_
        rintro e w1 ⟨a', n', c', rfl, hb1, hm1⟩
        have HM1 := Lib.hid hm1
        have HB1 := Lib.hid (Below.to hb hb1)
        have hnn : (n' : Int) ≤ (na : Int) := by
          have h1 := (ans_len HM1.out).1
          have h2 := distA_len la
          have := HLA.out
          omega
        clear hb hb1 hm1
        go_wp2_with fail
        refine (covered_any w1 (MemW.keep HA.out HB1.out) HM1.out HFA.out HFD.out).mono ?_
        rintro e w2 ⟨rfl, hb2⟩
        rw [D1.out]
        have HM2 := Lib.hid (MemW.keep HM1.out hb2)
        have HB2 := Lib.hid (Below.to HB1.out hb2)
        clear hb2
        go_wp2_with fail
        refine (covered_any w2 HM2.out (MemW.keep HA.out HB2.out) HFD.out HFA.out).mono ?_
        rintro e w3 ⟨rfl, hb3⟩
        rw [D2.out]
        have HB3 := Lib.hid (Below.to HB2.out hb3)
        clear hb3
        go_wp2_with fail
        refine (covered_any (la := []) w3 (.e _ _ _ (by decide)) (MemW.keep HA.out HB3.out) (fun y hy => by cases hy) HFA.out).mono ?_
        rintro e w4 ⟨rfl, hb4⟩
        have HB4 := Lib.hid (Below.to HB3.out hb4)
        clear hb4
        have hz : coveredA [] la = true := rfl
        rw [hz]
        go_wp2_with fail
        go_ret
        exact ⟨rfl, HB4.out⟩
      | false =>
        rw [hal] at Aab
        clear hab hbc hal
        go_enter Try.func5, Try.ntmps5
        have tk0 : True := trivial
        have tk1 : True := trivial
        have tk2 : True := trivial
        have tk3 : True := trivial
        have tk4 : True := trivial
        have tk5 : True := trivial
        have tk6 : True := trivial
        have tk7 : True := trivial
        have tk8 : True := trivial
        have tk9 : True := trivial
        go_wp2_with (first
          | (go_at_call 16
             refine (awake30_any _).mono ?_
             rintro e w' ⟨rfl, hb'⟩
             replace hb := Below.to hb hb'
             clear hb')
          | (go_at_call 17
             have _t := tk0
             clear _t tk0
             refine (Fa.out _ hb).mono ?_
             rintro e w' ⟨rfl, hb'⟩
             replace hb := Below.to hb hb'
             clear hb')
          | (go_at_call 17
             have _t := tk1
             clear _t tk1
             refine (Fb.out _ hb).mono ?_
             rintro e w' ⟨rfl, hb'⟩
             replace hb := Below.to hb hb'
             clear hb')
          | (go_at_call 17
             have _t := tk2
             clear _t tk2
             refine (Fc.out _ hb).mono ?_
             rintro e w' ⟨rfl, hb'⟩
             replace hb := Below.to hb hb'
             clear hb')
          | (go_at_call 18
             have _t := tk3
             clear _t tk3
             refine (Pa.out _ hb).mono ?_
             rintro e w' ⟨rfl, hb'⟩
             replace hb := Below.to hb hb'
             clear hb')
          | (go_at_call 18
             have _t := tk4
             clear _t tk4
             refine (Pb.out _ hb).mono ?_
             rintro e w' ⟨rfl, hb'⟩
             replace hb := Below.to hb hb'
             clear hb')
          | (go_at_call 18
             have _t := tk5
             clear _t tk5
             refine (Pc.out _ hb).mono ?_
             rintro e w' ⟨rfl, hb'⟩
             replace hb := Below.to hb hb'
             clear hb')
          | (go_at_call 19
             have _t := tk6
             clear _t tk6
             refine (Cab.out _ hb).mono ?_
             rintro e w' ⟨rfl, hb'⟩
             replace hb := Below.to hb hb'
             clear hb')
          | (go_at_call 19
             have _t := tk7
             clear _t tk7
             refine (Cbc.out _ hb).mono ?_
             rintro e w' ⟨rfl, hb'⟩
             replace hb := Below.to hb hb'
             clear hb')
          | (go_at_call 19
             have _t := tk8
             clear _t tk8
             refine (Cac.out _ hb).mono ?_
             rintro e w' ⟨rfl, hb'⟩
             replace hb := Below.to hb hb'
             clear hb')
          | (go_at_call 20
             have _t := tk9
             clear _t tk9
             refine (Aab.out _ hb).mono ?_
             rintro e w' ⟨rfl, hb'⟩
             replace hb := Below.to hb hb'
             clear hb'))
        refine (HD.out _ hb).mono ?_
        rintro e w1 ⟨a', n', c', rfl, hb1, hm1⟩
        have HM1 := Lib.hid hm1
        have HB1 := Lib.hid (Below.to hb hb1)
        have hnn : (n' : Int) ≤ (na : Int) := by
          have h1 := (ans_len HM1.out).1
          have h2 := distA_len la
          have := HLA.out
          omega
        clear hb hb1 hm1
        go_wp2_with fail
        refine (covered_any w1 (MemW.keep HA.out HB1.out) HM1.out HFA.out HFD.out).mono ?_
        rintro e w2 ⟨rfl, hb2⟩
        rw [D1.out]
        have HM2 := Lib.hid (MemW.keep HM1.out hb2)
        have HB2 := Lib.hid (Below.to HB1.out hb2)
        clear hb2
        go_wp2_with fail
        refine (covered_any w2 HM2.out (MemW.keep HA.out HB2.out) HFD.out HFA.out).mono ?_
        rintro e w3 ⟨rfl, hb3⟩
        rw [D2.out]
        have HB3 := Lib.hid (Below.to HB2.out hb3)
        clear hb3
        go_wp2_with fail
        refine (covered_any (la := []) w3 (.e _ _ _ (by decide)) (MemW.keep HA.out HB3.out) (fun y hy => by cases hy) HFA.out).mono ?_
        rintro e w4 ⟨rfl, hb4⟩
        have HB4 := Lib.hid (Below.to HB3.out hb4)
        clear hb4
        have hz : coveredA [] la = true := rfl
        rw [hz]
        go_wp2_with fail
        go_ret
        exact ⟨rfl, HB4.out⟩
    | false =>
      rw [hbc] at Cbc
      cases hal : alikeA la lb with
      | true =>
        rw [hal] at Aab
        clear hab hbc hal
        go_enter Try.func5, Try.ntmps5
        have tk0 : True := trivial
        have tk1 : True := trivial
        have tk2 : True := trivial
        have tk3 : True := trivial
        have tk4 : True := trivial
        have tk5 : True := trivial
        have tk6 : True := trivial
        have tk7 : True := trivial
        have tk8 : True := trivial
        have tk9 : True := trivial
        go_wp2_with (first
          | (go_at_call 16
             refine (awake30_any _).mono ?_
             rintro e w' ⟨rfl, hb'⟩
             replace hb := Below.to hb hb'
             clear hb')
          | (go_at_call 17
             have _t := tk0
             clear _t tk0
             refine (Fa.out _ hb).mono ?_
             rintro e w' ⟨rfl, hb'⟩
             replace hb := Below.to hb hb'
             clear hb')
          | (go_at_call 17
             have _t := tk1
             clear _t tk1
             refine (Fb.out _ hb).mono ?_
             rintro e w' ⟨rfl, hb'⟩
             replace hb := Below.to hb hb'
             clear hb')
          | (go_at_call 17
             have _t := tk2
             clear _t tk2
             refine (Fc.out _ hb).mono ?_
             rintro e w' ⟨rfl, hb'⟩
             replace hb := Below.to hb hb'
             clear hb')
          | (go_at_call 18
             have _t := tk3
             clear _t tk3
             refine (Pa.out _ hb).mono ?_
             rintro e w' ⟨rfl, hb'⟩
             replace hb := Below.to hb hb'
             clear hb')
          | (go_at_call 18
             have _t := tk4
             clear _t tk4
             refine (Pb.out _ hb).mono ?_
             rintro e w' ⟨rfl, hb'⟩
             replace hb := Below.to hb hb'
             clear hb')
          | (go_at_call 18
             have _t := tk5
             clear _t tk5
             refine (Pc.out _ hb).mono ?_
             rintro e w' ⟨rfl, hb'⟩
             replace hb := Below.to hb hb'
             clear hb')
          | (go_at_call 19
             have _t := tk6
             clear _t tk6
             refine (Cab.out _ hb).mono ?_
             rintro e w' ⟨rfl, hb'⟩
             replace hb := Below.to hb hb'
             clear hb')
          | (go_at_call 19
             have _t := tk7
             clear _t tk7
             refine (Cbc.out _ hb).mono ?_
             rintro e w' ⟨rfl, hb'⟩
             replace hb := Below.to hb hb'
             clear hb')
          | (go_at_call 20
             have _t := tk8
             clear _t tk8
             refine (Aab.out _ hb).mono ?_
             rintro e w' ⟨rfl, hb'⟩
             replace hb := Below.to hb hb'
             clear hb')
          | (go_at_call 19
             have _t := tk9
             clear _t tk9
             refine (Cab.out _ hb).mono ?_
             rintro e w' ⟨rfl, hb'⟩
             replace hb := Below.to hb hb'
             clear hb'))
        refine (HD.out _ hb).mono ?_
        rintro e w1 ⟨a', n', c', rfl, hb1, hm1⟩
        have HM1 := Lib.hid hm1
        have HB1 := Lib.hid (Below.to hb hb1)
        have hnn : (n' : Int) ≤ (na : Int) := by
          have h1 := (ans_len HM1.out).1
          have h2 := distA_len la
          have := HLA.out
          omega
        clear hb hb1 hm1
        go_wp2_with fail
        refine (covered_any w1 (MemW.keep HA.out HB1.out) HM1.out HFA.out HFD.out).mono ?_
        rintro e w2 ⟨rfl, hb2⟩
        rw [D1.out]
        have HM2 := Lib.hid (MemW.keep HM1.out hb2)
        have HB2 := Lib.hid (Below.to HB1.out hb2)
        clear hb2
        go_wp2_with fail
        refine (covered_any w2 HM2.out (MemW.keep HA.out HB2.out) HFD.out HFA.out).mono ?_
        rintro e w3 ⟨rfl, hb3⟩
        rw [D2.out]
        have HB3 := Lib.hid (Below.to HB2.out hb3)
        clear hb3
        go_wp2_with fail
        refine (covered_any (la := []) w3 (.e _ _ _ (by decide)) (MemW.keep HA.out HB3.out) (fun y hy => by cases hy) HFA.out).mono ?_
        rintro e w4 ⟨rfl, hb4⟩
        have HB4 := Lib.hid (Below.to HB3.out hb4)
        clear hb4
        have hz : coveredA [] la = true := rfl
        rw [hz]
        go_wp2_with fail
        go_ret
        exact ⟨rfl, HB4.out⟩
      | false =>
        rw [hal] at Aab
        clear hab hbc hal
        go_enter Try.func5, Try.ntmps5
        have tk0 : True := trivial
        have tk1 : True := trivial
        have tk2 : True := trivial
        have tk3 : True := trivial
        have tk4 : True := trivial
        have tk5 : True := trivial
        have tk6 : True := trivial
        have tk7 : True := trivial
        have tk8 : True := trivial
        go_wp2_with (first
          | (go_at_call 16
             refine (awake30_any _).mono ?_
             rintro e w' ⟨rfl, hb'⟩
             replace hb := Below.to hb hb'
             clear hb')
          | (go_at_call 17
             have _t := tk0
             clear _t tk0
             refine (Fa.out _ hb).mono ?_
             rintro e w' ⟨rfl, hb'⟩
             replace hb := Below.to hb hb'
             clear hb')
          | (go_at_call 17
             have _t := tk1
             clear _t tk1
             refine (Fb.out _ hb).mono ?_
             rintro e w' ⟨rfl, hb'⟩
             replace hb := Below.to hb hb'
             clear hb')
          | (go_at_call 17
             have _t := tk2
             clear _t tk2
             refine (Fc.out _ hb).mono ?_
             rintro e w' ⟨rfl, hb'⟩
             replace hb := Below.to hb hb'
             clear hb')
          | (go_at_call 18
             have _t := tk3
             clear _t tk3
             refine (Pa.out _ hb).mono ?_
             rintro e w' ⟨rfl, hb'⟩
             replace hb := Below.to hb hb'
             clear hb')
          | (go_at_call 18
             have _t := tk4
             clear _t tk4
             refine (Pb.out _ hb).mono ?_
             rintro e w' ⟨rfl, hb'⟩
             replace hb := Below.to hb hb'
             clear hb')
          | (go_at_call 18
             have _t := tk5
             clear _t tk5
             refine (Pc.out _ hb).mono ?_
             rintro e w' ⟨rfl, hb'⟩
             replace hb := Below.to hb hb'
             clear hb')
          | (go_at_call 19
             have _t := tk6
             clear _t tk6
             refine (Cab.out _ hb).mono ?_
             rintro e w' ⟨rfl, hb'⟩
             replace hb := Below.to hb hb'
             clear hb')
          | (go_at_call 19
             have _t := tk7
             clear _t tk7
             refine (Cbc.out _ hb).mono ?_
             rintro e w' ⟨rfl, hb'⟩
             replace hb := Below.to hb hb'
             clear hb')
          | (go_at_call 20
             have _t := tk8
             clear _t tk8
             refine (Aab.out _ hb).mono ?_
             rintro e w' ⟨rfl, hb'⟩
             replace hb := Below.to hb hb'
             clear hb'))
        refine (HD.out _ hb).mono ?_
        rintro e w1 ⟨a', n', c', rfl, hb1, hm1⟩
        have HM1 := Lib.hid hm1
        have HB1 := Lib.hid (Below.to hb hb1)
        have hnn : (n' : Int) ≤ (na : Int) := by
          have h1 := (ans_len HM1.out).1
          have h2 := distA_len la
          have := HLA.out
          omega
        clear hb hb1 hm1
        go_wp2_with fail
        refine (covered_any w1 (MemW.keep HA.out HB1.out) HM1.out HFA.out HFD.out).mono ?_
        rintro e w2 ⟨rfl, hb2⟩
        rw [D1.out]
        have HM2 := Lib.hid (MemW.keep HM1.out hb2)
        have HB2 := Lib.hid (Below.to HB1.out hb2)
        clear hb2
        go_wp2_with fail
        refine (covered_any w2 HM2.out (MemW.keep HA.out HB2.out) HFD.out HFA.out).mono ?_
        rintro e w3 ⟨rfl, hb3⟩
        rw [D2.out]
        have HB3 := Lib.hid (Below.to HB2.out hb3)
        clear hb3
        go_wp2_with fail
        refine (covered_any (la := []) w3 (.e _ _ _ (by decide)) (MemW.keep HA.out HB3.out) (fun y hy => by cases hy) HFA.out).mono ?_
        rintro e w4 ⟨rfl, hb4⟩
        have HB4 := Lib.hid (Below.to HB3.out hb4)
        clear hb4
        have hz : coveredA [] la = true := rfl
        rw [hz]
        go_wp2_with fail
        go_ret
        exact ⟨rfl, HB4.out⟩
  | false =>
    have hal : alikeA la lb = false := by
      rw [Bool.eq_false_iff]
      intro h
      rw [AC.out h] at hab
      cases hab
    rw [hab] at Cab
    rw [hal] at Aab
    clear hab hal
    go_enter Try.func5, Try.ntmps5
    have tk0 : True := trivial
    have tk1 : True := trivial
    have tk2 : True := trivial
    have tk3 : True := trivial
    have tk4 : True := trivial
    have tk5 : True := trivial
    have tk6 : True := trivial
    have tk7 : True := trivial
    go_wp2_with (first
      | (go_at_call 16
         refine (awake30_any _).mono ?_
         rintro e w' ⟨rfl, hb'⟩
         replace hb := Below.to hb hb'
         clear hb')
      | (go_at_call 17
         have _t := tk0
         clear _t tk0
         refine (Fa.out _ hb).mono ?_
         rintro e w' ⟨rfl, hb'⟩
         replace hb := Below.to hb hb'
         clear hb')
      | (go_at_call 17
         have _t := tk1
         clear _t tk1
         refine (Fb.out _ hb).mono ?_
         rintro e w' ⟨rfl, hb'⟩
         replace hb := Below.to hb hb'
         clear hb')
      | (go_at_call 17
         have _t := tk2
         clear _t tk2
         refine (Fc.out _ hb).mono ?_
         rintro e w' ⟨rfl, hb'⟩
         replace hb := Below.to hb hb'
         clear hb')
      | (go_at_call 18
         have _t := tk3
         clear _t tk3
         refine (Pa.out _ hb).mono ?_
         rintro e w' ⟨rfl, hb'⟩
         replace hb := Below.to hb hb'
         clear hb')
      | (go_at_call 18
         have _t := tk4
         clear _t tk4
         refine (Pb.out _ hb).mono ?_
         rintro e w' ⟨rfl, hb'⟩
         replace hb := Below.to hb hb'
         clear hb')
      | (go_at_call 18
         have _t := tk5
         clear _t tk5
         refine (Pc.out _ hb).mono ?_
         rintro e w' ⟨rfl, hb'⟩
         replace hb := Below.to hb hb'
         clear hb')
      | (go_at_call 19
         have _t := tk6
         clear _t tk6
         refine (Cab.out _ hb).mono ?_
         rintro e w' ⟨rfl, hb'⟩
         replace hb := Below.to hb hb'
         clear hb')
      | (go_at_call 20
         have _t := tk7
         clear _t tk7
         refine (Aab.out _ hb).mono ?_
         rintro e w' ⟨rfl, hb'⟩
         replace hb := Below.to hb hb'
         clear hb'))
    refine (HD.out _ hb).mono ?_
    rintro e w1 ⟨a', n', c', rfl, hb1, hm1⟩
    have HM1 := Lib.hid hm1
    have HB1 := Lib.hid (Below.to hb hb1)
    have hnn : (n' : Int) ≤ (na : Int) := by
      have h1 := (ans_len HM1.out).1
      have h2 := distA_len la
      have := HLA.out
      omega
    clear hb hb1 hm1
    go_wp2_with fail
    refine (covered_any w1 (MemW.keep HA.out HB1.out) HM1.out HFA.out HFD.out).mono ?_
    rintro e w2 ⟨rfl, hb2⟩
    rw [D1.out]
    have HM2 := Lib.hid (MemW.keep HM1.out hb2)
    have HB2 := Lib.hid (Below.to HB1.out hb2)
    clear hb2
    go_wp2_with fail
    refine (covered_any w2 HM2.out (MemW.keep HA.out HB2.out) HFD.out HFA.out).mono ?_
    rintro e w3 ⟨rfl, hb3⟩
    rw [D2.out]
    have HB3 := Lib.hid (Below.to HB2.out hb3)
    clear hb3
    go_wp2_with fail
    refine (covered_any (la := []) w3 (.e _ _ _ (by decide)) (MemW.keep HA.out HB3.out) (fun y hy => by cases hy) HFA.out).mono ?_
    rintro e w4 ⟨rfl, hb4⟩
    have HB4 := Lib.hid (Below.to HB3.out hb4)
    clear hb4
    have hz : coveredA [] la = true := rfl
    rw [hz]
    go_wp2_with fail
    go_ret
    exact ⟨rfl, HB4.out⟩
end Go.Proofs.Ytmadfkofmehfkaa
