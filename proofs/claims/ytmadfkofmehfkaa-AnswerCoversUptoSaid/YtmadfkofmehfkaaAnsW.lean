/-
  How an answer lies, and how great it is. Plain. No condition.
-/
import Derived.Test.YtmadfkofmehfkaaTuple
import Derived.Test.YtmadfkofmehfkaaOpenTm
namespace Go.Proofs.Ytmadfkofmehfkaa
open Go.RowKit

/-- How an answer lies. -/
def AnsW (w : World) (x : Ans) (ab : Option Addr) (nb cb : Nat) (ax : Option Addr) (nx cx : Nat) : Prop := MemW w (.s 4 (Tm.rows x.binds)) (.slice ab nb cb) ∧ MemW w (.s 4 (Tm.rows x.value.args)) (.slice ax nx cx)
theorem AnsW.keep {w w' : World} {x : Ans} {ab ax : Option Addr} {nb cb nx cx : Nat} (h : AnsW w x ab nb cb ax nx cx) (hb : Below w.heap.size w w') : AnsW w' x ab nb cb ax nx cx := ⟨MemW.keep h.1 hb, MemW.keep h.2 hb⟩
/-- Not too great, and of numbers that there are. -/
def Ans.fit (x : Ans) : Prop := (tupT x).ok ∧ (tupT x).size ≤ 100000
theorem Ans.fit.binds {x : Ans} (h : x.fit) {w : World} {ab ax : Option Addr} {nb cb nx cx : Nat} (hw : AnsW w x ab nb cb ax nx cx) : nb ≤ 100000 := by
  have h1 := hw.1.len.1
  rw [Tm.rows_len] at h1
  have h2 := h.2
  rw [Tm.size_eq] at h2
  have h5 : (tupT x).args = x.all := rfl
  rw [h5] at h2
  have h3 := Tm.len_args x.all
  have h4 : x.all.length = x.binds.length + 1 := by rw [Ans.all, List.length_append]; rfl
  omega
theorem Ans.fit.big {x : Ans} (h : x.fit) : (tupT x).size ≤ 1048576 := Nat.le_trans h.2 (by decide)
end Go.Proofs.Ytmadfkofmehfkaa
