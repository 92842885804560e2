/-
  Tokens that stand behind others: the plain model of the module reader reads them alike. Plain law. No condition.
-/
import Derived.Test.YtcoiagfeoonpbaaSe7
namespace Go.Proofs.Ytcoiagfeoonpbaa
def shM (o : Nat) (s : MS) : MS := ⟨o + s.i, s.b⟩
section
variable {ts us : List Tk} {o p : Nat}
theorem Sh.eqT (H : Sh ts us o p) {i : Nat} {k : Int} {x : ByteArray} (hi : i ≤ p) (hk : 1 < k) : isT us (o + i) k x = isT ts i k x := by
  cases h : isT ts i k x with
  | true => exact (H.is h (by omega) hi).2
  | false => exact H.no h hi hk
theorem Sh.eqS (H : Sh ts us o p) {s : MS} {k : Int} {x : ByteArray} (hi : s.i ≤ p) (hk : 1 < k) : isS us (shM o s) k x = isS ts s k x := by
  unfold isS
  rw [show (shM o s).i = o + s.i from rfl, H.eqT hi hk]
  rfl
theorem Sh.take (H : Sh ts us o p) {s : MS} {k : Int} {x : ByteArray} (h : (takeS ts s k x).ok = true) (hk : k ≠ 0) (hi : s.i ≤ p) : takeS us (shM o s) k x = shM o (takeS ts s k x) ∧ (takeS ts s k x).i ≤ p ∧ s.ok = true := by
  unfold takeS at h ⊢
  by_cases hs : isS ts s k x = true
  · obtain ⟨h1, h2⟩ := isS_parts hs
    obtain ⟨h3, h4⟩ := H.is h2 hk hi
    have h5 : isS us (shM o s) k x = true := by unfold isS; rw [show (shM o s).i = o + s.i from rfl, h4, show (shM o s).ok = s.ok from rfl, h1]; rfl
    rw [if_pos hs, if_pos h5]
    exact ⟨rfl, h3, h1⟩
  · rw [if_neg hs, fail_notok] at h
    cases h
theorem Sh.name (H : Sh ts us o p) {s : MS} {k : Int} (h : (nameS ts s k).2.ok = true) (hk : 1 < k) (hi : s.i ≤ p) : nameS us (shM o s) k = ((nameS ts s k).1, shM o (nameS ts s k).2) ∧ (nameS ts s k).2.i ≤ p ∧ s.ok = true := by
  unfold nameS at h ⊢
  by_cases hs : (nowT ts s.i).k = k
  · have hu : (nowT us (shM o s).i).k = k := (H.kind hi hk).2 hs
    have hne : s.i ≠ p := now_ne H.en (by omega)
    obtain ⟨_, e2, _⟩ := H.tk s.i (by omega)
    rw [if_pos hs] at h
    rw [if_pos hs, if_pos hu]
    refine ⟨by rw [show (shM o s).i = o + s.i from rfl, ← e2]; rfl, by show s.i + 1 ≤ p; omega, h⟩
  · rw [if_neg hs, fail_notok] at h
    cases h
theorem Sh.kd (H : Sh ts us o p) {s : MS} {k : Int} (hi : s.i ≤ p) (hk : 1 < k) : decide ((nowT us (shM o s).i).k = k) = decide ((nowT ts s.i).k = k) := decide_eq_decide.2 (H.kind hi hk)
theorem Sh.startsS (H : Sh ts us o p) {s : MS} (hi : s.i ≤ p) : startsS us (shM o s) = startsS ts s := by
  unfold Go.Proofs.Ytcoiagfeoonpbaa.startsS
  rw [H.eqS hi (by decide), show (shM o s).ok = s.ok from rfl, H.kd hi (by decide), H.kd hi (by decide)]
end
end Go.Proofs.Ytcoiagfeoonpbaa
