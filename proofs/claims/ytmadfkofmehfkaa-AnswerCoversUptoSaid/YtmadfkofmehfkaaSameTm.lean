/-
  term.Same. No condition but how the terms lie.
-/
import Derived.Test.YtmadfkofmehfkaaCompare
namespace Go.Proofs.Ytmadfkofmehfkaa
open Go.RowKit

set_option maxRecDepth 100000 in
set_option maxHeartbeats 2000000 in
theorem sameTm2 {t u : Tm} {a a' : Option Addr} {n n' cap cap' : Nat} (w : World) (h : MemW w (.s 4 (Tm.rows t.args)) (.slice a n cap)) (h' : MemW w (.s 4 (Tm.rows u.args)) (.slice a' n' cap')) :
    Calls Try.prog 57 #[.agg #[.int .i64 t.kind, .string t.name, .int .i64 t.n, .slice a n cap], .agg #[.int .i64 u.kind, .string u.name, .int .i64 u.n, .slice a' n' cap']] w fun e w' => e = .returned (.bool (cmpT t u == 0)) ∧ Below w.heap.size w w' := by
  have HT := Lib.hid h
  have HU := Lib.hid h'
  clear h h'
  have HB0 : Hid (Below w.heap.size w ((w.alloc (.cells #[.int .i64 t.kind, .string t.name, .int .i64 t.n, .slice a n cap] 24)).alloc (.cells #[.int .i64 u.kind, .string u.name, .int .i64 u.n, .slice a' n' cap'] 24))) := Lib.hid ((below_new w _).alloc (by simp) _)
  go_enter Try.func57, Try.ntmps57
  go_wp2_with (first
    | (go_at_call 69 ; refine (compare_any t u _ _ _ _ _ _ _ (MemW.keep HT.out HB0.out) (MemW.keep HU.out HB0.out)).mono ?_; rintro e w3 ⟨rfl, hb⟩; have HB3 := Lib.hid hb; clear hb))
  go_ret
  exact ⟨rfl, Below.to HB0.out HB3.out⟩
end Go.Proofs.Ytmadfkofmehfkaa
