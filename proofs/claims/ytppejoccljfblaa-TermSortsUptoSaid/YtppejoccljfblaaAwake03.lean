/-
  Chapter 3's example. No condition.
-/
import Derived.Test.YtppejoccljfblaaShowM
import Derived.Test.YtppejoccljfblaaFew
namespace Go.Proofs.Ytppejoccljfblaa
open Go.RowKit
attribute [local go_sem] toList_beq

theorem one_memW {w : World} (t : Tm) {a : Option Addr} {n cap : Nat} (e : TypeId) (q : Nat) (hq : q = w.heap.size) (h : MemW w (.s 4 (Tm.rows t.args)) (.slice a n cap)) :
    MemW (w.alloc (.cells #[.int .i64 t.kind, .string t.name, .int .i64 t.n, .slice a n cap] e)) (.s 4 (Tm.rows [t])) (.slice (some ⟨q, 0, none⟩) 1 1) := by
  subst hq
  have := OwnD.mem (tm_one (B := w.heap.size) (base := w.heap.size) (e := e) t (h.mono (fun _ hb => ⟨.inl hb, hb⟩) fun _ _ => rfl) (Nat.le_refl _))
  exact this.mono (fun _ hb => hb.2) fun _ _ => rfl
def x03 : Tm := .mk 3 ⟨#[]⟩ 0 []
def y03 : Tm := .mk 1 ⟨#[83]⟩ 0 [x03]
def z03 : Tm := .mk 1 ⟨#[83]⟩ 0 [y03]
theorem z03_ok : z03.ok := by
  intro y hy
  have : y = z03 ∨ y = y03 ∨ y = x03 := by
    have e : z03.all = [z03, y03, x03] := by rfl
    rw [e] at hy; simpa using hy
  rcases this with rfl | rfl | rfl <;> (unfold inI64; decide)
theorem z03_text : showM z03 = ⟨#[83, 32, 40, 83, 32, 95, 48, 41]⟩ := by decide +kernel
theorem nil_memW (w : World) : MemW w (.s 4 (Tm.rows x03.args)) (.slice none 0 0) := by rw [show x03.args = [] from rfl, Tm.rows]; exact .e _ _ _ (by decide)
theorem z03_mem (w : World) : MemW (((w.alloc (.cells #[.int .i64 3, .string ⟨#[]⟩, .int .i64 0, .slice none 0 0] 96)).alloc (.cells #[.int .i64 3, .string ⟨#[]⟩, .int .i64 0, .slice none 0 0] 96)).alloc (.cells #[.int .i64 1, .string ⟨#[83]⟩, .int .i64 0, .slice (some ⟨w.heap.size + 1, 0, none⟩) 1 1] 96)) (.s 4 (Tm.rows z03.args)) (.slice (some ⟨w.heap.size + 1 + 1, 0, none⟩) 1 1) := by
  have h1 : MemW ((w.alloc (.cells #[.int .i64 3, .string ⟨#[]⟩, .int .i64 0, .slice none 0 0] 96)).alloc (.cells #[.int .i64 3, .string ⟨#[]⟩, .int .i64 0, .slice none 0 0] 96)) (.s 4 (Tm.rows y03.args)) (.slice (some ⟨w.heap.size + 1, 0, none⟩) 1 1) :=
    one_memW x03 96 (w.heap.size + 1) (World.size_alloc _ _).symm (nil_memW _)
  exact one_memW y03 96 (w.heap.size + 1 + 1) (by rw [World.size_alloc, World.size_alloc]) h1
theorem z03_call (w' : World) (a : Option Addr) (n cap : Nat) (h : MemW w' (.s 4 (Tm.rows z03.args)) (.slice a n cap)) :
    Calls Try.prog 107 #[.agg #[.int .i64 1, .string ⟨#[83]⟩, .int .i64 0, .slice a n cap]] w' fun e w2 => e = .returned (.string ⟨#[83, 32, 40, 83, 32, 95, 48, 41]⟩) ∧ Below w'.heap.size w' w2 := by
  have := showMt z03_ok (by decide +kernel) w' a n cap h
  rw [z03_text] at this
  exact this
set_option maxRecDepth 100000 in
set_option maxHeartbeats 2000000 in
theorem awake03_any (w : World) : Calls Try.prog 54 #[] w fun e w' => e = .returned (.bool true) ∧ Below w.heap.size w w' := by
  have HM := Lib.hid (z03_call _ _ _ _ (z03_mem w))
  go_enter Try.func54, Try.ntmps54
  go_wp2_with (first
    | (go_at_call 107
       refine HM.out.mono ?_
       rintro e w2 ⟨rfl, hb⟩
       have HB2 := Lib.hid hb
       clear hb))
  go_ret
  refine ⟨rfl, Below.to ?_ HB2.out⟩
  exact (((below_new w _).alloc (by simp) _).alloc (by simp; omega) _)
end Go.Proofs.Ytppejoccljfblaa
