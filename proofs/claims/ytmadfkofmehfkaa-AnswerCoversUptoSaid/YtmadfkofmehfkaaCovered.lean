/-
  answer.Covered. No condition but how the answers lie, and how great they are.
-/
import Derived.Test.YtmadfkofmehfkaaAnsI
import Derived.Test.YtmadfkofmehfkaaAnsF
namespace Go.Proofs.Ytmadfkofmehfkaa
open Go.RowKit Go.Maps

set_option maxRecDepth 100000 in
set_option maxHeartbeats 20000000 in
theorem cov11_any {x y : Ans} {qn : Nat} {pb px qb qx : Option Addr} {npb cpb npx cpx nqb cqb nqx cqx : Nat} (w : World) (hq : Bo w qn 48 #[.slice pb npb cpb, .int .i64 x.value.kind, .string x.value.name, .int .i64 x.value.n, .slice px npx cpx]) (hx : AnsW w x pb npb cpb px npx cpx) (hy : AnsW w y qb nqb cqb qx nqx cqx) (hxf : x.fit) (hyf : y.fit) :
    Calls Try.prog 46 #[.agg #[.slice qb nqb cqb, .int .i64 y.value.kind, .string y.value.name, .int .i64 y.value.n, .slice qx nqx cqx], .pointer (some ⟨qn, 0, none⟩)] w fun e w' => e = .returned (.bool (instA y x)) ∧ Below w.heap.size w w' := by
  have HB := Lib.hid (below_new w (.cells #[.slice qb nqb cqb, .int .i64 y.value.kind, .string y.value.name, .int .i64 y.value.n, .slice qx nqx cqx] 48))
  have HX := Lib.hid (hq.alloc (.cells #[.slice qb nqb cqb, .int .i64 y.value.kind, .string y.value.name, .int .i64 y.value.n, .slice qx nqx cqx] 48))
  have HY := Lib.hid (Bo.new w 48 #[.slice qb nqb cqb, .int .i64 y.value.kind, .string y.value.name, .int .i64 y.value.n, .slice qx nqx cqx])
  have HC := Lib.hid (instA_any (w.alloc (.cells #[.slice qb nqb cqb, .int .i64 y.value.kind, .string y.value.name, .int .i64 y.value.n, .slice qx nqx cqx] 48)) (hy.keep HB.out) (hx.keep HB.out) hyf hxf)
  have x0 : (w.alloc (.cells #[.slice qb nqb cqb, .int .i64 y.value.kind, .string y.value.name, .int .i64 y.value.n, .slice qx nqx cqx] 48)).cell? ⟨qn, 0, none⟩ = some (.slice pb npb cpb) := HX.out.cell (j := 0) rfl
  have x1 : (w.alloc (.cells #[.slice qb nqb cqb, .int .i64 y.value.kind, .string y.value.name, .int .i64 y.value.n, .slice qx nqx cqx] 48)).cell? ⟨qn, 1, none⟩ = some (.int .i64 x.value.kind) := HX.out.cell (j := 1) rfl
  have x2 : (w.alloc (.cells #[.slice qb nqb cqb, .int .i64 y.value.kind, .string y.value.name, .int .i64 y.value.n, .slice qx nqx cqx] 48)).cell? ⟨qn, 2, none⟩ = some (.string x.value.name) := HX.out.cell (j := 2) rfl
  have x3 : (w.alloc (.cells #[.slice qb nqb cqb, .int .i64 y.value.kind, .string y.value.name, .int .i64 y.value.n, .slice qx nqx cqx] 48)).cell? ⟨qn, 3, none⟩ = some (.int .i64 x.value.n) := HX.out.cell (j := 3) rfl
  have x4 : (w.alloc (.cells #[.slice qb nqb cqb, .int .i64 y.value.kind, .string y.value.name, .int .i64 y.value.n, .slice qx nqx cqx] 48)).cell? ⟨qn, 4, none⟩ = some (.slice px npx cpx) := HX.out.cell (j := 4) rfl
  have y0 : (w.alloc (.cells #[.slice qb nqb cqb, .int .i64 y.value.kind, .string y.value.name, .int .i64 y.value.n, .slice qx nqx cqx] 48)).cell? ⟨w.heap.size, 0, none⟩ = some (.slice qb nqb cqb) := HY.out.cell (j := 0) rfl
  have y1 : (w.alloc (.cells #[.slice qb nqb cqb, .int .i64 y.value.kind, .string y.value.name, .int .i64 y.value.n, .slice qx nqx cqx] 48)).cell? ⟨w.heap.size, 1, none⟩ = some (.int .i64 y.value.kind) := HY.out.cell (j := 1) rfl
  have y2 : (w.alloc (.cells #[.slice qb nqb cqb, .int .i64 y.value.kind, .string y.value.name, .int .i64 y.value.n, .slice qx nqx cqx] 48)).cell? ⟨w.heap.size, 2, none⟩ = some (.string y.value.name) := HY.out.cell (j := 2) rfl
  have y3 : (w.alloc (.cells #[.slice qb nqb cqb, .int .i64 y.value.kind, .string y.value.name, .int .i64 y.value.n, .slice qx nqx cqx] 48)).cell? ⟨w.heap.size, 3, none⟩ = some (.int .i64 y.value.n) := HY.out.cell (j := 3) rfl
  have y4 : (w.alloc (.cells #[.slice qb nqb cqb, .int .i64 y.value.kind, .string y.value.name, .int .i64 y.value.n, .slice qx nqx cqx] 48)).cell? ⟨w.heap.size, 4, none⟩ = some (.slice qx nqx cqx) := HY.out.cell (j := 4) rfl
  have hl := hq.lt
  clear hq hx hy hxf hyf
  go_enter Try.func46, Try.ntmps46
  go_wp2_with fail
  refine HC.out.mono ?_
  rintro e w4 ⟨rfl, hb⟩
  have HB4 := Lib.hid (HB.out.trans (hb.mono HB.out.size))
  clear hb
  generalize hr : instA y x = r at *
  have HR := Lib.hid hr
  clear hr
  go_wp2_with fail
  go_ret
  exact ⟨by rw [HR.out]; rfl, HB4.out⟩
theorem enters11 : EntersF 46 := fun _ _ => by kernel_rfl
theorem enters1 : EntersF 45 := fun _ _ => by kernel_rfl
set_option maxRecDepth 100000 in
set_option maxHeartbeats 20000000 in
theorem cov1_any {x : Ans} {l : List Ans} {qn n cap : Nat} {a : Option Addr} {pb px : Option Addr} {npb cpb npx cpx : Nat} (w : World) (hq : w.cell? ⟨qn, 0, none⟩ = some (.slice a n cap)) (hl : MemW w (.s 5 (ansRows l)) (.slice a n cap)) (hx : AnsW w x pb npb cpb px npx cpx) (hxf : x.fit) (hlf : ∀ y ∈ l, y.fit) :
    Calls Try.prog 45 #[.agg #[.slice pb npb cpb, .int .i64 x.value.kind, .string x.value.name, .int .i64 x.value.n, .slice px npx cpx], .pointer (some ⟨qn, 0, none⟩)] w fun e w' => e = .returned (.bool (!(l.any fun y => instA y x))) ∧ Below w.heap.size w w' := by
  have HB := Lib.hid (below_new w (.cells #[.slice pb npb cpb, .int .i64 x.value.kind, .string x.value.name, .int .i64 x.value.n, .slice px npx cpx] 48))
  have HX := Lib.hid (Bo.new w 48 #[.slice pb npb cpb, .int .i64 x.value.kind, .string x.value.name, .int .i64 x.value.n, .slice px npx cpx])
  have HXW := Lib.hid (hx.keep HB.out)
  have HQ := Lib.hid (cell_below hq HB.out)
  have h0 := HQ.out
  have HC := Lib.hid (containsA_any (l := l) (p := fun y => instA y x) (w := w.alloc (.cells #[.slice pb npb cpb, .int .i64 x.value.kind, .string x.value.name, .int .i64 x.value.n, .slice px npx cpx] 48)) (c := .pointer (some ⟨w.heap.size, 0, none⟩)) enters11 (fun w' hb y hy qb nqb cqb qx nqx cqx hyw => cov11_any w' (HX.out.keep hb) (HXW.out.keep hb) hyw hxf (hlf y hy)) (MemW.keep hl HB.out))
  clear hq hx hxf hlf hl
  go_enter Try.func45, Try.ntmps45
  go_wp2_with fail
  refine HC.out.mono ?_
  rintro e w4 ⟨rfl, hb⟩
  have HB4 := Lib.hid (HB.out.trans (hb.mono HB.out.size))
  clear hb
  generalize hr : (l.any fun y => instA y x) = r at *
  have HR := Lib.hid hr
  clear hr
  go_wp2_with fail
  go_ret
  exact ⟨by rw [HR.out]; rfl, HB4.out⟩
/-- Whether each of a list is an instance of one of another list. -/
def coveredA (a b : List Ans) : Bool := !(a.any fun x => !(b.any fun y => instA y x))
set_option maxRecDepth 100000 in
set_option maxHeartbeats 20000000 in
theorem covered_any {la lb : List Ans} {n cap m cb : Nat} {a b : Option Addr} (w : World) (ha : MemW w (.s 5 (ansRows la)) (.slice a n cap)) (hb : MemW w (.s 5 (ansRows lb)) (.slice b m cb)) (haf : ∀ y ∈ la, y.fit) (hbf : ∀ y ∈ lb, y.fit) :
    Calls Try.prog 19 #[.slice a n cap, .slice b m cb] w fun e w' => e = .returned (.bool (coveredA la lb)) ∧ Below w.heap.size w w' := by
  have HB := Lib.hid (below_new w (.cells #[.slice b m cb] 41))
  have HX := Lib.hid (Bo.new w 41 #[.slice b m cb])
  have HBW := Lib.hid (MemW.keep hb HB.out)
  have HC := Lib.hid (containsA_any (l := la) (p := fun x => !(lb.any fun y => instA y x)) (w := w.alloc (.cells #[.slice b m cb] 41)) (c := .pointer (some ⟨w.heap.size, 0, none⟩)) enters1 (fun w' hb' x hx pb npb cpb px npx cpx hxw => cov1_any w' ((HX.out.keep hb').cell (j := 0) rfl) (MemW.keep HBW.out hb') hxw (haf x hx) hbf) (MemW.keep ha HB.out))
  have HE : Hid (coveredA la lb = !(la.any fun x => !(lb.any fun y => instA y x))) := Lib.hid rfl
  clear ha hb haf hbf
  go_enter Try.func19, Try.ntmps19
  go_wp2_with fail
  refine HC.out.mono ?_
  rintro e w4 ⟨rfl, hb⟩
  have HB4 := Lib.hid (HB.out.trans (hb.mono HB.out.size))
  clear hb
  generalize (la.any fun x => !(lb.any fun y => instA y x)) = r at *
  go_wp2_with fail
  go_ret
  exact ⟨by rw [HE.out]; rfl, HB4.out⟩
end Go.Proofs.Ytmadfkofmehfkaa
