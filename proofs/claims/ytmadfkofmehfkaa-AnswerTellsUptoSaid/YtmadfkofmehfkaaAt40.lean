/-
  answer.Ground. No condition but how the answer lies, and how great it is.
-/
import Derived.Test.YtmadfkofmehfkaaAt24
import Derived.Test.YtmadfkofmehfkaaAt37
namespace Go.Proofs.Ytmadfkofmehfkaa
open Go.RowKit

theorem Bo.g5 {w : World} {q : Nat} {t : TypeId} {c0 c1 c2 c3 c4 : Value} (h : Bo w q t #[c0, c1, c2, c3, c4]) : w.cell? ⟨q, 0, none⟩ = some c0 ∧ w.cell? ⟨q, 1, none⟩ = some c1 ∧ w.cell? ⟨q, 2, none⟩ = some c2 ∧ w.cell? ⟨q, 3, none⟩ = some c3 ∧ w.cell? ⟨q, 4, none⟩ = some c4 :=
  ⟨h.cell (j := 0) rfl, h.cell (j := 1) rfl, h.cell (j := 2) rfl, h.cell (j := 3) rfl, h.cell (j := 4) rfl⟩
set_option maxRecDepth 100000 in
set_option maxHeartbeats 2000000 in
theorem ansGround_any {x : Ans} {pb px : Option Addr} {npb cpb npx cpx : Nat} (w : World) (hx : AnsW w x pb npb cpb px npx cpx) (hxf : x.fit) :
    Calls Try.prog 30 #[.agg #[.slice pb npb cpb, .int .i64 x.value.kind, .string x.value.name, .int .i64 x.value.n, .slice px npx cpx]] w fun e w' => e = .returned (.bool (groundB (tupT x))) ∧ Below w.heap.size w w' := by
  have HB0 := Lib.hid (below_new w (.cells #[.slice pb npb cpb, .int .i64 x.value.kind, .string x.value.name, .int .i64 x.value.n, .slice px npx cpx] 48))
  have HX := Lib.hid (Bo.new w 48 #[.slice pb npb cpb, .int .i64 x.value.kind, .string x.value.name, .int .i64 x.value.n, .slice px npx cpx])
  have HXW := Lib.hid (hx.keep HB0.out)
  have HXF := Lib.hid hxf
  obtain ⟨x0, x1, x2, x3, x4⟩ := HX.out.g5
  clear hx hxf
  go_enter Try.func30, Try.ntmps30
  go_wp2_with fail
  refine (tuple_any (x := x) _ HXW.out.1 HXW.out.2 (HXF.out.binds HXW.out)).mono ?_
  rintro e w4 ⟨a4, n4, c4, rfl, hb, hm⟩
  have HB4 := Lib.hid (HB0.out.trans (hb.mono HB0.out.size))
  have HM4 := Lib.hid hm
  clear hb hm
  go_wp2_with fail
  refine (ground_any (t := tupT x) w4 HM4.out).mono ?_
  rintro e w5 ⟨rfl, hb⟩
  have HB5 := Lib.hid (Below.to HB4.out hb)
  clear hb
  generalize hr : groundB (tupT x) = r
  have HR := Lib.hid hr
  clear hr
  go_wp2_with fail
  go_ret
  exact ⟨by rw [HR.out]; rfl, HB5.out⟩
end Go.Proofs.Ytmadfkofmehfkaa
