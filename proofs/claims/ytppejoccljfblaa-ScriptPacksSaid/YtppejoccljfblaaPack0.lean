/-
  Plain law of script.Pack: a number as bytes, the greatest first, and back.
-/
import Derived.Test.YtppejoccljfblaaTaking2
namespace Go.Proofs.Ytppejoccljfblaa

/-- The k last bytes of n, the greatest first. -/
def laidL (n : Nat) : Nat → List UInt8
  | 0 => []
  | k + 1 => UInt8.ofNat (n / 256 ^ k) :: laidL n k
theorem laidL_length (n k : Nat) : (laidL n k).length = k := by induction k with | zero => rfl | succ k ih => simp [laidL, ih]
theorem getD_app (l l' : List UInt8) (j : Nat) (h : j < l.length) : (l ++ l').getD j 0 = l.getD j 0 := by
  simp only [List.getD_eq_getElem?_getD]; rw [List.getElem?_append_left h]
theorem numV_app (l l' : List UInt8) : ∀ k, k ≤ l.length → numV (l ++ l') k = numV l k
  | 0, _ => rfl
  | k + 1, h => by rw [numV, numV, numV_app l l' k (by omega), getD_app l l' k (by omega)]
theorem numV_cons (b : UInt8) (l : List UInt8) : ∀ k, numV (b :: l) (k + 1) = b.toNat * 256 ^ k + numV l k
  | 0 => by simp [numV]
  | k + 1 => by
    rw [numV, numV_cons b l k, numV, Nat.pow_succ]
    have : (b :: l).getD (k + 1) 0 = l.getD k 0 := rfl
    rw [this]; generalize (l.getD k 0).toNat = x; generalize numV l k = y; generalize 256 ^ k = z
    rw [Nat.add_mul, Nat.mul_assoc]; omega
theorem byte_toNat (x : Nat) : (UInt8.ofNat x).toNat = x % 256 := by simp
theorem numV_laid (n : Nat) : ∀ k, numV (laidL n k) k = n % 256 ^ k
  | 0 => by simp [numV]; omega
  | k + 1 => by
    rw [laidL, numV_cons, numV_laid n k, byte_toNat, Nat.pow_succ, Nat.mod_mul, Nat.mul_comm (n / 256 ^ k % 256)]; omega
theorem numV_laid' {n k : Nat} (h : n < 256 ^ k) (r : List UInt8) : numV (laidL n k ++ r) k = n := by
  rw [numV_app _ _ _ (by rw [laidL_length]; exact Nat.le_refl _), numV_laid, Nat.mod_eq_of_lt h]
/-- Whether n fits into k bytes. -/
def fitsB (n : Int) (k : Nat) : Bool := decide (0 ≤ n ∧ n < 256 ^ k)
end Go.Proofs.Ytppejoccljfblaa
