/-
  slices.IndexFunc and slices.ContainsFunc at answers, for any function that answers as a test does. No condition but how they lie.
-/
import Derived.Test.YtmadfkofmehfkaaAt24
namespace Go.Proofs.Ytmadfkofmehfkaa
open Go.RowKit

/-- Where a list has a first one that the test holds of; -1. -/
def firstA (p : Ans → Bool) (l : List Ans) : Int := if l.any p then (l.findIdx p : Int) else -1
theorem firstA_at {p : Ans → Bool} {l : List Ans} {k : Nat} {x : Ans} (hx : l[k]? = some x) (h : p x = true) (hn : ∀ j y, j < k → l[j]? = some y → p y = false) : firstA p l = k := by
  have hk := (List.getElem?_eq_some_iff.1 hx).1
  have e := (List.getElem?_eq_some_iff.1 hx).2
  have ha : l.any p = true := List.any_eq_true.2 ⟨x, List.mem_of_getElem? hx, h⟩
  rw [firstA, if_pos ha]
  have : l.findIdx p = k := (List.findIdx_eq hk).2 ⟨by rw [e]; exact h, fun j hj => hn j l[j] hj (List.getElem?_eq_getElem (by omega))⟩
  rw [this]
theorem firstA_no {p : Ans → Bool} {l : List Ans} (hn : ∀ y ∈ l, p y = false) : firstA p l = -1 := by
  have ha : l.any p = false := by
    rw [Bool.eq_false_iff]
    intro h
    obtain ⟨y, hy, e⟩ := List.any_eq_true.1 h
    rw [hn y hy] at e
    cases e
  rw [firstA, ha]; rfl
theorem firstA_nonneg (p : Ans → Bool) (l : List Ans) : decide ((0 : Int) ≤ firstA p l) = l.any p := by
  unfold firstA
  cases h : l.any p with
  | true => simp
  | false => rfl
/-- A function that answers as a test does, at the answers of a list, in every world behind this one. -/
def TestsA (w : World) (F : Nat) (c : Value) (p : Ans → Bool) (l : List Ans) : Prop :=
  ∀ w' : World, Below w.heap.size w w' → ∀ x ∈ l, ∀ (ab : Option Addr) (nb cb : Nat) (ax : Option Addr) (nx cx : Nat), AnsW w' x ab nb cb ax nx cx →
    Calls Try.prog F #[.agg #[.slice ab nb cb, .int .i64 x.value.kind, .string x.value.name, .int .i64 x.value.n, .slice ax nx cx], c] w' fun e w2 => e = .returned (.bool (p x)) ∧ Below w'.heap.size w' w2

/-- A function of the program's own: a call of it begins it. -/
def EntersF (F : Nat) : Prop := ∀ (args : Array Value) (w : World), Sem.run Try.prog (callFunc F args) w = .ok (.enter F args) w

set_option maxRecDepth 100000 in
set_option maxHeartbeats 20000000 in
theorem indexA_any {l : List Ans} {p : Ans → Bool} {F : Nat} {c : Value} {n cap : Nat} {a : Option Addr} {w : World} (hE : EntersF F) (hf : TestsA w F c p l) (h : MemW w (.s 5 (ansRows l)) (.slice a n cap)) :
    Calls Try.prog 62 #[.slice a n cap, .func (.func F) #[] #[c]] w fun e w' => e = .returned (.int .i64 (firstA p l)) ∧ Below w.heap.size w w' := by
  have hl := ans_len h
  have HL := Lib.hid hl.1
  have hcap := hl.2.1
  have hmx := hl.2.2
  have H := Lib.hid h
  have HQ := Lib.hid hf
  unfold EntersF at hE
  clear hl h hf
  go_enter Try.func62, Try.ntmps62
  go_wp2
  go_loopw [5, 8] (fun _ i wr => ∃ k : Nat, k ≤ n ∧ i = .int .i64 k ∧ Hid (Below w.heap.size w wr) ∧ Hid (∀ j y, j < k → l[j]? = some y → p y = false)) (fun _ i _ => n - (intOf i).toNat)
  case atStart => exact ⟨0, Nat.zero_le _, rfl, Lib.hid (Below.refl _ _), Lib.hid (fun j y hj => absurd hj (Nat.not_lt_zero _))⟩
  case round =>
    obtain ⟨k, hk, rfl, HB, HN⟩ := hrel
    by_cases hlt : k < n
    · have hltz : (k : Int) < (n : Int) := by omega
      obtain ⟨b, o, x, ab, nb, cb, ax, nx, capx, rfl, hbB, Hx, x0, x1, x2, x3, x4, GB, GV⟩ := ans_at (MemW.keep H.out HB.out) k hlt
      have HC := Lib.hid (HQ.out wr HB.out x (mem_of_at Hx.out) ab nb cb ax nx capx ⟨GB.out, GV.out⟩)
      cases he : p x with
      | true =>
        have HF := Lib.hid (firstA_at Hx.out he HN.out)
        rw [he] at HC
        clear he
        go_wp2_with fail
        refine HC.out.mono ?_
        rintro e w4 ⟨rfl, hb⟩
        have HB4 := Lib.hid (HB.out.trans (hb.mono HB.out.size))
        clear hb
        go_wp2_with fail
        go_ret
        exact ⟨by rw [HF.out]; rfl, HB4.out⟩
      | false =>
        have HN2 : Hid (∀ j y, j < k + 1 → l[j]? = some y → p y = false) := Lib.hid fun j y hj hy => by
          by_cases e : j = k
          · subst e
            rw [Hx.out] at hy
            rw [← Option.some.inj hy]; exact he
          · exact HN.out j y (by omega) hy
        rw [he] at HC
        clear he
        go_wp2_with fail
        refine HC.out.mono ?_
        rintro e w4 ⟨rfl, hb⟩
        have HB4 := Lib.hid (HB.out.trans (hb.mono HB.out.size))
        clear hb
        go_wp2_with fail
        go_roundw
        case rel => exact ⟨k + 1, by omega, by go_num, HB4, HN2⟩
        case measure => simp [intOf]; omega
    · obtain rfl : k = n := by omega
      have hltz : ¬ (k : Int) < (k : Int) := by omega
      have HF := Lib.hid (firstA_no (l := l) (p := p) (fun y hy => by
        obtain ⟨j, hj, rfl⟩ := List.getElem_of_mem hy
        exact HN.out j _ (by have := HL.out; omega) (List.getElem?_eq_getElem hj)))
      go_wp2_with fail
      go_ret
      exact ⟨by rw [HF.out]; rfl, HB.out⟩
set_option maxRecDepth 100000 in
set_option maxHeartbeats 2000000 in
theorem containsA_any {l : List Ans} {p : Ans → Bool} {F : Nat} {c : Value} {n cap : Nat} {a : Option Addr} {w : World} (hE : EntersF F) (hf : TestsA w F c p l) (h : MemW w (.s 5 (ansRows l)) (.slice a n cap)) :
    Calls Try.prog 44 #[.slice a n cap, .func (.func F) #[] #[c]] w fun e w' => e = .returned (.bool (l.any p)) ∧ Below w.heap.size w w' := by
  have HC := Lib.hid (indexA_any hE hf h)
  have HF := Lib.hid (firstA_nonneg p l)
  clear hf h hE
  go_enter Try.func44, Try.ntmps44
  go_wp2_with fail
  refine HC.out.mono ?_
  rintro e w4 ⟨rfl, hb⟩
  have HB4 := Lib.hid hb
  clear hb
  generalize firstA p l = v at *
  go_wp2_with fail
  go_ret
  exact ⟨by rw [← HF.out]; rfl, HB4.out⟩
end Go.Proofs.Ytmadfkofmehfkaa
