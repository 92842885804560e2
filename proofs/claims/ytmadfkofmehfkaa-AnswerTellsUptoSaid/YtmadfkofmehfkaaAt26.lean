/-
  answer.Instance, answer.Same. No condition but how the answers lie, and how great they are.
-/
import Derived.Test.YtmadfkofmehfkaaAt24
import Derived.Test.YtmadfkofmehfkaaAt18
import Derived.Test.YtmadfkofmehfkaaAt17
import Derived.Test.YtmadfkofmehfkaaAt16
namespace Go.Proofs.Ytmadfkofmehfkaa
open Go.RowKit Go.Maps

/-- Whether an answer is an instance of another one; whether they are the same. -/
def instA (p a : Ans) : Bool := inst (tupT p) (tupT a)
def sameA (p a : Ans) : Bool := vari (tupT p) (tupT a)
set_option maxRecDepth 100000 in
set_option maxHeartbeats 20000000 in
theorem instA_any {p a : Ans} {pb px ab ax : Option Addr} {npb cpb npx cpx nab cab nax cax : Nat} (w : World) (hp : AnsW w p pb npb cpb px npx cpx) (ha : AnsW w a ab nab cab ax nax cax) (hpf : p.fit) (haf : a.fit) :
    Calls Try.prog 26 #[.agg #[.slice pb npb cpb, .int .i64 p.value.kind, .string p.value.name, .int .i64 p.value.n, .slice px npx cpx], .agg #[.slice ab nab cab, .int .i64 a.value.kind, .string a.value.name, .int .i64 a.value.n, .slice ax nax cax]] w fun e w' => e = .returned (.bool (instA p a)) ∧ Below w.heap.size w w' := by
  have HB0 := Lib.hid ((below_new w (.cells #[.slice pb npb cpb, .int .i64 p.value.kind, .string p.value.name, .int .i64 p.value.n, .slice px npx cpx] 48)).alloc (below_new w (.cells #[.slice pb npb cpb, .int .i64 p.value.kind, .string p.value.name, .int .i64 p.value.n, .slice px npx cpx] 48)).size (.cells #[.slice ab nab cab, .int .i64 a.value.kind, .string a.value.name, .int .i64 a.value.n, .slice ax nax cax] 48))
  have HX := Lib.hid ((Bo.new w 48 #[.slice pb npb cpb, .int .i64 p.value.kind, .string p.value.name, .int .i64 p.value.n, .slice px npx cpx]).alloc (.cells #[.slice ab nab cab, .int .i64 a.value.kind, .string a.value.name, .int .i64 a.value.n, .slice ax nax cax] 48))
  have HY := Lib.hid (World.size_alloc w (.cells #[.slice pb npb cpb, .int .i64 p.value.kind, .string p.value.name, .int .i64 p.value.n, .slice px npx cpx] 48) ▸ Bo.new (w.alloc (.cells #[.slice pb npb cpb, .int .i64 p.value.kind, .string p.value.name, .int .i64 p.value.n, .slice px npx cpx] 48)) 48 #[.slice ab nab cab, .int .i64 a.value.kind, .string a.value.name, .int .i64 a.value.n, .slice ax nax cax])
  have HP := Lib.hid (hp.keep HB0.out)
  have HA := Lib.hid (ha.keep HB0.out)
  have HPF := Lib.hid hpf
  have HAF := Lib.hid haf
  have tok1 : True := trivial
  have x0 : ((w.alloc (.cells #[.slice pb npb cpb, .int .i64 p.value.kind, .string p.value.name, .int .i64 p.value.n, .slice px npx cpx] 48)).alloc (.cells #[.slice ab nab cab, .int .i64 a.value.kind, .string a.value.name, .int .i64 a.value.n, .slice ax nax cax] 48)).cell? ⟨w.heap.size, 0, none⟩ = some (.slice pb npb cpb) := HX.out.cell (j := 0) rfl
  have x1 : ((w.alloc (.cells #[.slice pb npb cpb, .int .i64 p.value.kind, .string p.value.name, .int .i64 p.value.n, .slice px npx cpx] 48)).alloc (.cells #[.slice ab nab cab, .int .i64 a.value.kind, .string a.value.name, .int .i64 a.value.n, .slice ax nax cax] 48)).cell? ⟨w.heap.size, 1, none⟩ = some (.int .i64 p.value.kind) := HX.out.cell (j := 1) rfl
  have x2 : ((w.alloc (.cells #[.slice pb npb cpb, .int .i64 p.value.kind, .string p.value.name, .int .i64 p.value.n, .slice px npx cpx] 48)).alloc (.cells #[.slice ab nab cab, .int .i64 a.value.kind, .string a.value.name, .int .i64 a.value.n, .slice ax nax cax] 48)).cell? ⟨w.heap.size, 2, none⟩ = some (.string p.value.name) := HX.out.cell (j := 2) rfl
  have x3 : ((w.alloc (.cells #[.slice pb npb cpb, .int .i64 p.value.kind, .string p.value.name, .int .i64 p.value.n, .slice px npx cpx] 48)).alloc (.cells #[.slice ab nab cab, .int .i64 a.value.kind, .string a.value.name, .int .i64 a.value.n, .slice ax nax cax] 48)).cell? ⟨w.heap.size, 3, none⟩ = some (.int .i64 p.value.n) := HX.out.cell (j := 3) rfl
  have x4 : ((w.alloc (.cells #[.slice pb npb cpb, .int .i64 p.value.kind, .string p.value.name, .int .i64 p.value.n, .slice px npx cpx] 48)).alloc (.cells #[.slice ab nab cab, .int .i64 a.value.kind, .string a.value.name, .int .i64 a.value.n, .slice ax nax cax] 48)).cell? ⟨w.heap.size, 4, none⟩ = some (.slice px npx cpx) := HX.out.cell (j := 4) rfl
  have y0 : ((w.alloc (.cells #[.slice pb npb cpb, .int .i64 p.value.kind, .string p.value.name, .int .i64 p.value.n, .slice px npx cpx] 48)).alloc (.cells #[.slice ab nab cab, .int .i64 a.value.kind, .string a.value.name, .int .i64 a.value.n, .slice ax nax cax] 48)).cell? ⟨w.heap.size + 1, 0, none⟩ = some (.slice ab nab cab) := HY.out.cell (j := 0) rfl
  have y1 : ((w.alloc (.cells #[.slice pb npb cpb, .int .i64 p.value.kind, .string p.value.name, .int .i64 p.value.n, .slice px npx cpx] 48)).alloc (.cells #[.slice ab nab cab, .int .i64 a.value.kind, .string a.value.name, .int .i64 a.value.n, .slice ax nax cax] 48)).cell? ⟨w.heap.size + 1, 1, none⟩ = some (.int .i64 a.value.kind) := HY.out.cell (j := 1) rfl
  have y2 : ((w.alloc (.cells #[.slice pb npb cpb, .int .i64 p.value.kind, .string p.value.name, .int .i64 p.value.n, .slice px npx cpx] 48)).alloc (.cells #[.slice ab nab cab, .int .i64 a.value.kind, .string a.value.name, .int .i64 a.value.n, .slice ax nax cax] 48)).cell? ⟨w.heap.size + 1, 2, none⟩ = some (.string a.value.name) := HY.out.cell (j := 2) rfl
  have y3 : ((w.alloc (.cells #[.slice pb npb cpb, .int .i64 p.value.kind, .string p.value.name, .int .i64 p.value.n, .slice px npx cpx] 48)).alloc (.cells #[.slice ab nab cab, .int .i64 a.value.kind, .string a.value.name, .int .i64 a.value.n, .slice ax nax cax] 48)).cell? ⟨w.heap.size + 1, 3, none⟩ = some (.int .i64 a.value.n) := HY.out.cell (j := 3) rfl
  have y4 : ((w.alloc (.cells #[.slice pb npb cpb, .int .i64 p.value.kind, .string p.value.name, .int .i64 p.value.n, .slice px npx cpx] 48)).alloc (.cells #[.slice ab nab cab, .int .i64 a.value.kind, .string a.value.name, .int .i64 a.value.n, .slice ax nax cax] 48)).cell? ⟨w.heap.size + 1, 4, none⟩ = some (.slice ax nax cax) := HY.out.cell (j := 4) rfl
  clear hp ha hpf haf
  go_enter Try.func26, Try.ntmps26
  go_wp2
  go_region_held3 (fun w' => w'.cell? ⟨w.heap.size, 0, none⟩ = some (.slice pb npb cpb) ∧ w'.cell? ⟨w.heap.size, 1, none⟩ = some (.int .i64 p.value.kind) ∧ w'.cell? ⟨w.heap.size, 2, none⟩ = some (.string p.value.name) ∧ w'.cell? ⟨w.heap.size, 3, none⟩ = some (.int .i64 p.value.n) ∧ w'.cell? ⟨w.heap.size, 4, none⟩ = some (.slice px npx cpx) ∧ w'.cell? ⟨w.heap.size + 1, 0, none⟩ = some (.slice ab nab cab) ∧ w'.cell? ⟨w.heap.size + 1, 1, none⟩ = some (.int .i64 a.value.kind) ∧ w'.cell? ⟨w.heap.size + 1, 2, none⟩ = some (.string a.value.name) ∧ w'.cell? ⟨w.heap.size + 1, 3, none⟩ = some (.int .i64 a.value.n) ∧ w'.cell? ⟨w.heap.size + 1, 4, none⟩ = some (.slice ax nax cax))
    ((repeat' apply And.intro) <;> (repeat (first | with_reducible assumption | with_reducible refine cell_drew ?_ | with_reducible refine cell_alloc _ ?_ | with_reducible refine cell_row_far _ ?_ (by omega) | with_reducible refine cell_below ?_ HB5.out | with_reducible refine cell_below ?_ HB6.out | with_reducible refine cell_below ?_ HB7.out)))
    (first
      | (go_at_call 51
         have _t := tok1
         clear _t tok1
         refine (tuple_any (x := p) ((w.alloc (.cells #[.slice pb npb cpb, .int .i64 p.value.kind, .string p.value.name, .int .i64 p.value.n, .slice px npx cpx] 48)).alloc (.cells #[.slice ab nab cab, .int .i64 a.value.kind, .string a.value.name, .int .i64 a.value.n, .slice ax nax cax] 48)).drew (MemW.drew HP.out.1) (MemW.drew HP.out.2) (HPF.out.binds HP.out)).mono ?_
         rintro e w5 ⟨a5, n5, c5, rfl, hb5, hm5⟩
         have HB5 := Lib.hid (Below.one hb5)
         have HM5 := Lib.hid hm5
         clear hb5 hm5)
      | (go_at_call 51
         refine (tuple_any (x := a) w5 (MemW.keep HA.out.1 HB5.out) (MemW.keep HA.out.2 HB5.out) (HAF.out.binds HA.out)).mono ?_
         rintro e w6 ⟨a6, n6, c6, rfl, hb6, hm6⟩
         have HB6 := Lib.hid hb6
         have HM6 := Lib.hid hm6
         have HM5b := Lib.hid (MemW.keep HM5.out HB6.out)
         clear hb6 hm6)
      | (go_at_call 11
         refine (instance_any (p := tupT p) (t := tupT a) w6 HM5b.out HM6.out HPF.out.big HPF.out.1).mono ?_
         rintro e w7 ⟨rfl, hb7⟩
         have HB7 := Lib.hid hb7
         have HBZ := Lib.hid (HB0.out.trans ((HB5.out.trans ((HB6.out.trans (hb7.mono HB6.out.size)).mono HB5.out.size)).mono HB0.out.size))
         clear hb7)
      | fail)
  all_goals go_wp2
  all_goals go_ret
  all_goals exact ⟨rfl, HBZ.out⟩
set_option maxRecDepth 100000 in
set_option maxHeartbeats 20000000 in
theorem sameA_any {p a : Ans} {pb px ab ax : Option Addr} {npb cpb npx cpx nab cab nax cax : Nat} (w : World) (hp : AnsW w p pb npb cpb px npx cpx) (ha : AnsW w a ab nab cab ax nax cax) (hpf : p.fit) (haf : a.fit) :
    Calls Try.prog 24 #[.agg #[.slice pb npb cpb, .int .i64 p.value.kind, .string p.value.name, .int .i64 p.value.n, .slice px npx cpx], .agg #[.slice ab nab cab, .int .i64 a.value.kind, .string a.value.name, .int .i64 a.value.n, .slice ax nax cax]] w fun e w' => e = .returned (.bool (sameA p a)) ∧ Below w.heap.size w w' := by
  have HB0 := Lib.hid ((below_new w (.cells #[.slice pb npb cpb, .int .i64 p.value.kind, .string p.value.name, .int .i64 p.value.n, .slice px npx cpx] 48)).alloc (below_new w (.cells #[.slice pb npb cpb, .int .i64 p.value.kind, .string p.value.name, .int .i64 p.value.n, .slice px npx cpx] 48)).size (.cells #[.slice ab nab cab, .int .i64 a.value.kind, .string a.value.name, .int .i64 a.value.n, .slice ax nax cax] 48))
  have HX := Lib.hid ((Bo.new w 48 #[.slice pb npb cpb, .int .i64 p.value.kind, .string p.value.name, .int .i64 p.value.n, .slice px npx cpx]).alloc (.cells #[.slice ab nab cab, .int .i64 a.value.kind, .string a.value.name, .int .i64 a.value.n, .slice ax nax cax] 48))
  have HY := Lib.hid (World.size_alloc w (.cells #[.slice pb npb cpb, .int .i64 p.value.kind, .string p.value.name, .int .i64 p.value.n, .slice px npx cpx] 48) ▸ Bo.new (w.alloc (.cells #[.slice pb npb cpb, .int .i64 p.value.kind, .string p.value.name, .int .i64 p.value.n, .slice px npx cpx] 48)) 48 #[.slice ab nab cab, .int .i64 a.value.kind, .string a.value.name, .int .i64 a.value.n, .slice ax nax cax])
  have HP := Lib.hid (hp.keep HB0.out)
  have HA := Lib.hid (ha.keep HB0.out)
  have HPF := Lib.hid hpf
  have HAF := Lib.hid haf
  have tok1 : True := trivial
  have x0 : ((w.alloc (.cells #[.slice pb npb cpb, .int .i64 p.value.kind, .string p.value.name, .int .i64 p.value.n, .slice px npx cpx] 48)).alloc (.cells #[.slice ab nab cab, .int .i64 a.value.kind, .string a.value.name, .int .i64 a.value.n, .slice ax nax cax] 48)).cell? ⟨w.heap.size, 0, none⟩ = some (.slice pb npb cpb) := HX.out.cell (j := 0) rfl
  have x1 : ((w.alloc (.cells #[.slice pb npb cpb, .int .i64 p.value.kind, .string p.value.name, .int .i64 p.value.n, .slice px npx cpx] 48)).alloc (.cells #[.slice ab nab cab, .int .i64 a.value.kind, .string a.value.name, .int .i64 a.value.n, .slice ax nax cax] 48)).cell? ⟨w.heap.size, 1, none⟩ = some (.int .i64 p.value.kind) := HX.out.cell (j := 1) rfl
  have x2 : ((w.alloc (.cells #[.slice pb npb cpb, .int .i64 p.value.kind, .string p.value.name, .int .i64 p.value.n, .slice px npx cpx] 48)).alloc (.cells #[.slice ab nab cab, .int .i64 a.value.kind, .string a.value.name, .int .i64 a.value.n, .slice ax nax cax] 48)).cell? ⟨w.heap.size, 2, none⟩ = some (.string p.value.name) := HX.out.cell (j := 2) rfl
  have x3 : ((w.alloc (.cells #[.slice pb npb cpb, .int .i64 p.value.kind, .string p.value.name, .int .i64 p.value.n, .slice px npx cpx] 48)).alloc (.cells #[.slice ab nab cab, .int .i64 a.value.kind, .string a.value.name, .int .i64 a.value.n, .slice ax nax cax] 48)).cell? ⟨w.heap.size, 3, none⟩ = some (.int .i64 p.value.n) := HX.out.cell (j := 3) rfl
  have x4 : ((w.alloc (.cells #[.slice pb npb cpb, .int .i64 p.value.kind, .string p.value.name, .int .i64 p.value.n, .slice px npx cpx] 48)).alloc (.cells #[.slice ab nab cab, .int .i64 a.value.kind, .string a.value.name, .int .i64 a.value.n, .slice ax nax cax] 48)).cell? ⟨w.heap.size, 4, none⟩ = some (.slice px npx cpx) := HX.out.cell (j := 4) rfl
  have y0 : ((w.alloc (.cells #[.slice pb npb cpb, .int .i64 p.value.kind, .string p.value.name, .int .i64 p.value.n, .slice px npx cpx] 48)).alloc (.cells #[.slice ab nab cab, .int .i64 a.value.kind, .string a.value.name, .int .i64 a.value.n, .slice ax nax cax] 48)).cell? ⟨w.heap.size + 1, 0, none⟩ = some (.slice ab nab cab) := HY.out.cell (j := 0) rfl
  have y1 : ((w.alloc (.cells #[.slice pb npb cpb, .int .i64 p.value.kind, .string p.value.name, .int .i64 p.value.n, .slice px npx cpx] 48)).alloc (.cells #[.slice ab nab cab, .int .i64 a.value.kind, .string a.value.name, .int .i64 a.value.n, .slice ax nax cax] 48)).cell? ⟨w.heap.size + 1, 1, none⟩ = some (.int .i64 a.value.kind) := HY.out.cell (j := 1) rfl
  have y2 : ((w.alloc (.cells #[.slice pb npb cpb, .int .i64 p.value.kind, .string p.value.name, .int .i64 p.value.n, .slice px npx cpx] 48)).alloc (.cells #[.slice ab nab cab, .int .i64 a.value.kind, .string a.value.name, .int .i64 a.value.n, .slice ax nax cax] 48)).cell? ⟨w.heap.size + 1, 2, none⟩ = some (.string a.value.name) := HY.out.cell (j := 2) rfl
  have y3 : ((w.alloc (.cells #[.slice pb npb cpb, .int .i64 p.value.kind, .string p.value.name, .int .i64 p.value.n, .slice px npx cpx] 48)).alloc (.cells #[.slice ab nab cab, .int .i64 a.value.kind, .string a.value.name, .int .i64 a.value.n, .slice ax nax cax] 48)).cell? ⟨w.heap.size + 1, 3, none⟩ = some (.int .i64 a.value.n) := HY.out.cell (j := 3) rfl
  have y4 : ((w.alloc (.cells #[.slice pb npb cpb, .int .i64 p.value.kind, .string p.value.name, .int .i64 p.value.n, .slice px npx cpx] 48)).alloc (.cells #[.slice ab nab cab, .int .i64 a.value.kind, .string a.value.name, .int .i64 a.value.n, .slice ax nax cax] 48)).cell? ⟨w.heap.size + 1, 4, none⟩ = some (.slice ax nax cax) := HY.out.cell (j := 4) rfl
  clear hp ha hpf haf
  go_enter Try.func24, Try.ntmps24
  go_wp2
  go_region_held3 (fun w' => w'.cell? ⟨w.heap.size, 0, none⟩ = some (.slice pb npb cpb) ∧ w'.cell? ⟨w.heap.size, 1, none⟩ = some (.int .i64 p.value.kind) ∧ w'.cell? ⟨w.heap.size, 2, none⟩ = some (.string p.value.name) ∧ w'.cell? ⟨w.heap.size, 3, none⟩ = some (.int .i64 p.value.n) ∧ w'.cell? ⟨w.heap.size, 4, none⟩ = some (.slice px npx cpx) ∧ w'.cell? ⟨w.heap.size + 1, 0, none⟩ = some (.slice ab nab cab) ∧ w'.cell? ⟨w.heap.size + 1, 1, none⟩ = some (.int .i64 a.value.kind) ∧ w'.cell? ⟨w.heap.size + 1, 2, none⟩ = some (.string a.value.name) ∧ w'.cell? ⟨w.heap.size + 1, 3, none⟩ = some (.int .i64 a.value.n) ∧ w'.cell? ⟨w.heap.size + 1, 4, none⟩ = some (.slice ax nax cax))
    ((repeat' apply And.intro) <;> (repeat (first | with_reducible assumption | with_reducible refine cell_drew ?_ | with_reducible refine cell_alloc _ ?_ | with_reducible refine cell_row_far _ ?_ (by omega) | with_reducible refine cell_below ?_ HB5.out | with_reducible refine cell_below ?_ HB6.out | with_reducible refine cell_below ?_ HB7.out)))
    (first
      | (go_at_call 51
         have _t := tok1
         clear _t tok1
         refine (tuple_any (x := p) ((w.alloc (.cells #[.slice pb npb cpb, .int .i64 p.value.kind, .string p.value.name, .int .i64 p.value.n, .slice px npx cpx] 48)).alloc (.cells #[.slice ab nab cab, .int .i64 a.value.kind, .string a.value.name, .int .i64 a.value.n, .slice ax nax cax] 48)).drew (MemW.drew HP.out.1) (MemW.drew HP.out.2) (HPF.out.binds HP.out)).mono ?_
         rintro e w5 ⟨a5, n5, c5, rfl, hb5, hm5⟩
         have HB5 := Lib.hid (Below.one hb5)
         have HM5 := Lib.hid hm5
         clear hb5 hm5)
      | (go_at_call 51
         refine (tuple_any (x := a) w5 (MemW.keep HA.out.1 HB5.out) (MemW.keep HA.out.2 HB5.out) (HAF.out.binds HA.out)).mono ?_
         rintro e w6 ⟨a6, n6, c6, rfl, hb6, hm6⟩
         have HB6 := Lib.hid hb6
         have HM6 := Lib.hid hm6
         have HM5b := Lib.hid (MemW.keep HM5.out HB6.out)
         clear hb6 hm6)
      | (go_at_call 10
         refine (variant_any (p := tupT p) (t := tupT a) w6 HM5b.out HM6.out HPF.out.big HAF.out.big HPF.out.1 HAF.out.1).mono ?_
         rintro e w7 ⟨rfl, hb7⟩
         have HB7 := Lib.hid hb7
         have HBZ := Lib.hid (HB0.out.trans ((HB5.out.trans ((HB6.out.trans (hb7.mono HB6.out.size)).mono HB5.out.size)).mono HB0.out.size))
         clear hb7)
      | fail)
  all_goals go_wp2
  all_goals go_ret
  all_goals exact ⟨rfl, HBZ.out⟩
end Go.Proofs.Ytmadfkofmehfkaa

/-
  The reference's Instance, SameAnswer, Times, SameAnswers, Alike. No condition but how the answers lie, and how great they are.
-/
namespace Go.Proofs.Ytmadfkofmehfkaa
open Go.RowKit Go.Maps

theorem Bo.a5 {w : World} {q : Nat} {t : TypeId} {c0 c1 c2 c3 c4 : Value} (h : Bo w q t #[c0, c1, c2, c3, c4]) : w.cell? ⟨q, 0, none⟩ = some c0 ∧ w.cell? ⟨q, 1, none⟩ = some c1 ∧ w.cell? ⟨q, 2, none⟩ = some c2 ∧ w.cell? ⟨q, 3, none⟩ = some c3 ∧ w.cell? ⟨q, 4, none⟩ = some c4 :=
  ⟨h.cell (j := 0) rfl, h.cell (j := 1) rfl, h.cell (j := 2) rfl, h.cell (j := 3) rfl, h.cell (j := 4) rfl⟩
theorem Ans.fit.big4 {x : Ans} (h : x.fit) : (tupT x).size ≤ 400000 := Nat.le_trans h.2 (by decide)
set_option maxRecDepth 100000 in
set_option maxHeartbeats 20000000 in
theorem rinst_any {p t : Tm} {pa ta : Option Addr} {pn pc tn tc : Nat} (w : World) (hp : MemW w (.s 4 (Tm.rows p.args)) (.slice pa pn pc)) (ht : MemW w (.s 4 (Tm.rows t.args)) (.slice ta tn tc)) (hs : p.size ≤ 400000) :
    Calls Try.prog 22 #[.agg #[.int .i64 p.kind, .string p.name, .int .i64 p.n, .slice pa pn pc], .agg #[.int .i64 t.kind, .string t.name, .int .i64 t.n, .slice ta tn tc]] w fun e w' => e = .returned (.bool (inst p t)) ∧ Below w.heap.size w w' := by
  have HB0 := Lib.hid ((below_new w (.cells #[.int .i64 p.kind, .string p.name, .int .i64 p.n, .slice pa pn pc] 24)).alloc (below_new w (.cells #[.int .i64 p.kind, .string p.name, .int .i64 p.n, .slice pa pn pc] 24)).size (.cells #[.int .i64 t.kind, .string t.name, .int .i64 t.n, .slice ta tn tc] 24))
  have HX := Lib.hid ((Bo.new w 24 #[.int .i64 p.kind, .string p.name, .int .i64 p.n, .slice pa pn pc]).alloc (.cells #[.int .i64 t.kind, .string t.name, .int .i64 t.n, .slice ta tn tc] 24))
  have HY := Lib.hid (World.size_alloc w (.cells #[.int .i64 p.kind, .string p.name, .int .i64 p.n, .slice pa pn pc] 24) ▸ Bo.new (w.alloc (.cells #[.int .i64 p.kind, .string p.name, .int .i64 p.n, .slice pa pn pc] 24)) 24 #[.int .i64 t.kind, .string t.name, .int .i64 t.n, .slice ta tn tc])
  have HC := Lib.hid (rmatch_any p.size p (Nat.le_refl _) t [] none pa ta 0 0 pn pc tn tc _ (.e _ _ _ (by decide)) (MemW.keep hp HB0.out) (MemW.keep ht HB0.out) (by simp only [List.length_nil]; omega))
  obtain ⟨x0, x1, x2, x3⟩ := HX.out.c4
  obtain ⟨y0, y1, y2, y3⟩ := HY.out.c4
  clear hp ht hs
  go_enter Try.func22, Try.ntmps22
  go_wp2_with fail
  refine HC.out.mono ?_
  rintro e w4 ⟨a4, n4, c4, rfl, hb, _⟩
  have HB4 := Lib.hid (HB0.out.trans (hb.mono HB0.out.size))
  clear hb
  have HI := Lib.hid (show inst p t = (mt p t []).1 from rfl)
  generalize (mt p t []).1 = r at *
  go_wp2_with fail
  go_ret
  exact ⟨by rw [HI.out]; rfl, HB4.out⟩
set_option maxRecDepth 100000 in
set_option maxHeartbeats 20000000 in
theorem sameR_any {x y : Ans} {pb px qb qx : Option Addr} {npb cpb npx cpx nqb cqb nqx cqx : Nat} (w : World) (hx : AnsW w x pb npb cpb px npx cpx) (hy : AnsW w y qb nqb cqb qx nqx cqx) (hxf : x.fit) (hyf : y.fit) :
    Calls Try.prog 25 #[.agg #[.slice pb npb cpb, .int .i64 x.value.kind, .string x.value.name, .int .i64 x.value.n, .slice px npx cpx], .agg #[.slice qb nqb cqb, .int .i64 y.value.kind, .string y.value.name, .int .i64 y.value.n, .slice qx nqx cqx]] w fun e w' => e = .returned (.bool (sameA x y)) ∧ Below w.heap.size w w' := by
  have HB0 := Lib.hid ((below_new w (.cells #[.slice pb npb cpb, .int .i64 x.value.kind, .string x.value.name, .int .i64 x.value.n, .slice px npx cpx] 48)).alloc (below_new w (.cells #[.slice pb npb cpb, .int .i64 x.value.kind, .string x.value.name, .int .i64 x.value.n, .slice px npx cpx] 48)).size (.cells #[.slice qb nqb cqb, .int .i64 y.value.kind, .string y.value.name, .int .i64 y.value.n, .slice qx nqx cqx] 48))
  have HX := Lib.hid ((Bo.new w 48 #[.slice pb npb cpb, .int .i64 x.value.kind, .string x.value.name, .int .i64 x.value.n, .slice px npx cpx]).alloc (.cells #[.slice qb nqb cqb, .int .i64 y.value.kind, .string y.value.name, .int .i64 y.value.n, .slice qx nqx cqx] 48))
  have HY := Lib.hid (World.size_alloc w (.cells #[.slice pb npb cpb, .int .i64 x.value.kind, .string x.value.name, .int .i64 x.value.n, .slice px npx cpx] 48) ▸ Bo.new (w.alloc (.cells #[.slice pb npb cpb, .int .i64 x.value.kind, .string x.value.name, .int .i64 x.value.n, .slice px npx cpx] 48)) 48 #[.slice qb nqb cqb, .int .i64 y.value.kind, .string y.value.name, .int .i64 y.value.n, .slice qx nqx cqx])
  obtain ⟨x0, x1, x2, x3, x4⟩ := HX.out.a5
  obtain ⟨y0, y1, y2, y3, y4⟩ := HY.out.a5
  have HXW := Lib.hid (hx.keep HB0.out)
  have HYW := Lib.hid (hy.keep HB0.out)
  have HXF := Lib.hid hxf
  have HYF := Lib.hid hyf
  clear hx hy hxf hyf
  have HE := Lib.hid (show sameA x y = (inst (tupT x) (tupT y) && inst (tupT y) (tupT x)) from rfl)
  have HCUR := Lib.hid (HB0.out.trans ((below_drew ((w.alloc (.cells #[.slice pb npb cpb, .int .i64 x.value.kind, .string x.value.name, .int .i64 x.value.n, .slice px npx cpx] 48)).alloc (.cells #[.slice qb nqb cqb, .int .i64 y.value.kind, .string y.value.name, .int .i64 y.value.n, .slice qx nqx cqx] 48))).mono HB0.out.size))
  have HCR2 : Hid (Below ((w.alloc (.cells #[.slice pb npb cpb, .int .i64 x.value.kind, .string x.value.name, .int .i64 x.value.n, .slice px npx cpx] 48)).alloc (.cells #[.slice qb nqb cqb, .int .i64 y.value.kind, .string y.value.name, .int .i64 y.value.n, .slice qx nqx cqx] 48)).heap.size ((w.alloc (.cells #[.slice pb npb cpb, .int .i64 x.value.kind, .string x.value.name, .int .i64 x.value.n, .slice px npx cpx] 48)).alloc (.cells #[.slice qb nqb cqb, .int .i64 y.value.kind, .string y.value.name, .int .i64 y.value.n, .slice qx nqx cqx] 48)) ((w.alloc (.cells #[.slice pb npb cpb, .int .i64 x.value.kind, .string x.value.name, .int .i64 x.value.n, .slice px npx cpx] 48)).alloc (.cells #[.slice qb nqb cqb, .int .i64 y.value.kind, .string y.value.name, .int .i64 y.value.n, .slice qx nqx cqx] 48)).drew) := Lib.hid (below_drew _)
  cases h1 : inst (tupT x) (tupT y) with
  | false =>
    have HV1 := Lib.hid h1
    have HF : Hid (sameA x y = false) := Lib.hid (by rw [HE.out, h1]; rfl)
    clear h1 HE
    go_enter Try.func25, Try.ntmps25
    go_wp2
    refine wp_region_held_drew (S := fun w' => Below (((w.alloc (.cells #[.slice pb npb cpb, .int .i64 x.value.kind, .string x.value.name, .int .i64 x.value.n, .slice px npx cpx] 48)).alloc (.cells #[.slice qb nqb cqb, .int .i64 y.value.kind, .string y.value.name, .int .i64 y.value.n, .slice qx nqx cqx] 48))).heap.size (((w.alloc (.cells #[.slice pb npb cpb, .int .i64 x.value.kind, .string x.value.name, .int .i64 x.value.n, .slice px npx cpx] 48)).alloc (.cells #[.slice qb nqb cqb, .int .i64 y.value.kind, .string y.value.name, .int .i64 y.value.n, .slice qx nqx cqx] 48))) w') (by kernel_rfl) (below_drew _) (fun hS0 => ?_)
    refine takeL 0 (v := ?_) rfl (by kernel_rfl) (by kernel_rfl) (by kernel_rfl) (fun _ _ _ h => h) (by rfl) ?_ (by assumption) ?_
    rotate_left
    · (intro w hSw; (try dsimp only at hSw); replace x0 := cell_below x0 hSw; replace x1 := cell_below x1 hSw; replace x2 := cell_below x2 hSw; replace x3 := cell_below x3 hSw; replace x4 := cell_below x4 hSw; replace y0 := cell_below y0 hSw; replace y1 := cell_below y1 hSw; replace y2 := cell_below y2 hSw; replace y3 := cell_below y3 hSw; replace y4 := cell_below y4 hSw; go_simp; try with_reducible rfl)
    try simp only [Act.put, List.setIfInBounds_toArray, List.set_cons_zero, List.set_cons_succ]
    refine takeL 2 (v := ?_) rfl (by kernel_rfl) (by kernel_rfl) (by kernel_rfl) (fun _ _ _ h => h) (by rfl) ?_ (by assumption) ?_
    rotate_left
    · (intro w hSw; (try dsimp only at hSw); replace x0 := cell_below x0 hSw; replace x1 := cell_below x1 hSw; replace x2 := cell_below x2 hSw; replace x3 := cell_below x3 hSw; replace x4 := cell_below x4 hSw; replace y0 := cell_below y0 hSw; replace y1 := cell_below y1 hSw; replace y2 := cell_below y2 hSw; replace y3 := cell_below y3 hSw; replace y4 := cell_below y4 hSw; go_simp; try with_reducible rfl)
    try simp only [Act.put, List.setIfInBounds_toArray, List.set_cons_zero, List.set_cons_succ]
    refine callL 1 rfl (by kernel_rfl) (by rfl) (fun K hK => ?_)
    go_simp
    refine (tuple3_any (x := x) _ (AnsW.keep HXW.out HCR2.out) (HXF.out.binds HXW.out)).mono ?_
    rintro e wx1 ⟨aHM1, nHM1, cHM1, rfl, hb, hm⟩
    have HC1 := Lib.hid hb
    have HCUR := Lib.hid (Below.to HCUR.out hb)
    have HCR2 := Lib.hid (Below.to HCR2.out hb)
    have hm0 := hm
    have HM1 := Lib.hid hm0
    clear hm hm0
    clear hb
    go_simp
    refine hK.out _ _ ?_ (fun hS1 => ?_)
    · exact Below.to hS0 HC1.out
    clear hK K
    refine callL 3 rfl (by kernel_rfl) (by rfl) (fun K hK => ?_)
    go_simp
    refine (tuple3_any (x := y) _ (AnsW.keep HYW.out HCR2.out) (HYF.out.binds HYW.out)).mono ?_
    rintro e wx2 ⟨aHM2, nHM2, cHM2, rfl, hb, hm⟩
    have HC2 := Lib.hid hb
    have HCUR := Lib.hid (Below.to HCUR.out hb)
    have HCR2 := Lib.hid (Below.to HCR2.out hb)
    have hm0 := hm
    have HM1 := Lib.hid (MemW.keep HM1.out hb)
    have HM2 := Lib.hid hm0
    clear hm hm0
    clear hb
    go_simp
    refine hK.out _ _ ?_ (fun hS2 => ?_)
    · exact Below.to hS1 HC2.out
    clear hK K
    refine callL 4 rfl (by kernel_rfl) (by rfl) (fun K hK => ?_)
    go_simp
    refine (rinst_any (p := tupT x) (t := tupT y) _ HM1.out HM2.out HXF.out.big4).mono ?_
    rintro e wx3 ⟨rfl, hb⟩
    have HC3 := Lib.hid hb
    have HCUR := Lib.hid (Below.to HCUR.out hb)
    have HCR2 := Lib.hid (Below.to HCR2.out hb)
    rw [HV1.out]
    clear hb
    go_simp
    refine hK.out _ _ ?_ (fun hS3 => ?_)
    · exact Below.to hS2 HC3.out
    clear hK K
    refine takeL 5 (v := ?_) rfl (by kernel_rfl) (by kernel_rfl) (by kernel_rfl) (fun _ _ _ h => h) (by rfl) ?_ (by assumption) ?_
    rotate_left
    · (intro w hSw; (try dsimp only at hSw); replace x0 := cell_below x0 hSw; replace x1 := cell_below x1 hSw; replace x2 := cell_below x2 hSw; replace x3 := cell_below x3 hSw; replace x4 := cell_below x4 hSw; replace y0 := cell_below y0 hSw; replace y1 := cell_below y1 hSw; replace y2 := cell_below y2 hSw; replace y3 := cell_below y3 hSw; replace y4 := cell_below y4 hSw; go_simp; try with_reducible rfl)
    try simp only [Act.put, List.setIfInBounds_toArray, List.set_cons_zero, List.set_cons_succ]
    refine skipL 6 rfl (by kernel_rfl) (by kernel_rfl) (by kernel_rfl) (fun _ _ _ h => h) (by rfl) (by assumption) ?_
    try simp only [Act.put, List.setIfInBounds_toArray, List.set_cons_zero, List.set_cons_succ]
    refine skipL 8 rfl (by kernel_rfl) (by kernel_rfl) (by kernel_rfl) (fun _ _ _ h => h) (by rfl) (by assumption) ?_
    try simp only [Act.put, List.setIfInBounds_toArray, List.set_cons_zero, List.set_cons_succ]
    refine skipCallL 7 rfl (by kernel_rfl) (by rfl) (by assumption) ?_
    try simp only [Act.put, List.setIfInBounds_toArray, List.set_cons_zero, List.set_cons_succ]
    refine skipCallL 9 rfl (by kernel_rfl) (by rfl) (by assumption) ?_
    try simp only [Act.put, List.setIfInBounds_toArray, List.set_cons_zero, List.set_cons_succ]
    refine skipCallL 10 rfl (by kernel_rfl) (by rfl) (by assumption) ?_
    try simp only [Act.put, List.setIfInBounds_toArray, List.set_cons_zero, List.set_cons_succ]
    refine takeL 11 (v := ?_) rfl (by kernel_rfl) (by kernel_rfl) (by kernel_rfl) (fun _ _ _ h => h) (by rfl) ?_ (by assumption) ?_
    rotate_left
    · (intro w hSw; (try dsimp only at hSw); replace x0 := cell_below x0 hSw; replace x1 := cell_below x1 hSw; replace x2 := cell_below x2 hSw; replace x3 := cell_below x3 hSw; replace x4 := cell_below x4 hSw; replace y0 := cell_below y0 hSw; replace y1 := cell_below y1 hSw; replace y2 := cell_below y2 hSw; replace y3 := cell_below y3 hSw; replace y4 := cell_below y4 hSw; go_simp; try with_reducible rfl)
    try simp only [Act.put, List.setIfInBounds_toArray, List.set_cons_zero, List.set_cons_succ]
    refine takeL 12 (v := ?_) rfl (by kernel_rfl) (by kernel_rfl) (by kernel_rfl) (fun _ _ _ h => h) (by rfl) ?_ (by assumption) ?_
    rotate_left
    · (intro w hSw; (try dsimp only at hSw); replace x0 := cell_below x0 hSw; replace x1 := cell_below x1 hSw; replace x2 := cell_below x2 hSw; replace x3 := cell_below x3 hSw; replace x4 := cell_below x4 hSw; replace y0 := cell_below y0 hSw; replace y1 := cell_below y1 hSw; replace y2 := cell_below y2 hSw; replace y3 := cell_below y3 hSw; replace y4 := cell_below y4 hSw; go_simp; try with_reducible rfl)
    try simp only [Act.put, List.setIfInBounds_toArray, List.set_cons_zero, List.set_cons_succ]
    refine wpAnyH_done (by kernel_rfl) ?_ _
    go_wp2_with fail
    go_ret
    exact ⟨by rw [HF.out]; rfl, HCUR.out⟩
  | true =>
    have HV1 := Lib.hid h1
    have HF : Hid (sameA x y = inst (tupT y) (tupT x)) := Lib.hid (by rw [HE.out, h1]; rfl)
    clear h1 HE
    generalize hr : inst (tupT y) (tupT x) = r at HF
    have HV2 := Lib.hid hr
    clear hr
    go_enter Try.func25, Try.ntmps25
    go_wp2
    refine wp_region_held_drew (S := fun w' => Below (((w.alloc (.cells #[.slice pb npb cpb, .int .i64 x.value.kind, .string x.value.name, .int .i64 x.value.n, .slice px npx cpx] 48)).alloc (.cells #[.slice qb nqb cqb, .int .i64 y.value.kind, .string y.value.name, .int .i64 y.value.n, .slice qx nqx cqx] 48))).heap.size (((w.alloc (.cells #[.slice pb npb cpb, .int .i64 x.value.kind, .string x.value.name, .int .i64 x.value.n, .slice px npx cpx] 48)).alloc (.cells #[.slice qb nqb cqb, .int .i64 y.value.kind, .string y.value.name, .int .i64 y.value.n, .slice qx nqx cqx] 48))) w') (by kernel_rfl) (below_drew _) (fun hS0 => ?_)
    refine takeL 0 (v := ?_) rfl (by kernel_rfl) (by kernel_rfl) (by kernel_rfl) (fun _ _ _ h => h) (by rfl) ?_ (by assumption) ?_
    rotate_left
    · (intro w hSw; (try dsimp only at hSw); replace x0 := cell_below x0 hSw; replace x1 := cell_below x1 hSw; replace x2 := cell_below x2 hSw; replace x3 := cell_below x3 hSw; replace x4 := cell_below x4 hSw; replace y0 := cell_below y0 hSw; replace y1 := cell_below y1 hSw; replace y2 := cell_below y2 hSw; replace y3 := cell_below y3 hSw; replace y4 := cell_below y4 hSw; go_simp; try with_reducible rfl)
    try simp only [Act.put, List.setIfInBounds_toArray, List.set_cons_zero, List.set_cons_succ]
    refine takeL 2 (v := ?_) rfl (by kernel_rfl) (by kernel_rfl) (by kernel_rfl) (fun _ _ _ h => h) (by rfl) ?_ (by assumption) ?_
    rotate_left
    · (intro w hSw; (try dsimp only at hSw); replace x0 := cell_below x0 hSw; replace x1 := cell_below x1 hSw; replace x2 := cell_below x2 hSw; replace x3 := cell_below x3 hSw; replace x4 := cell_below x4 hSw; replace y0 := cell_below y0 hSw; replace y1 := cell_below y1 hSw; replace y2 := cell_below y2 hSw; replace y3 := cell_below y3 hSw; replace y4 := cell_below y4 hSw; go_simp; try with_reducible rfl)
    try simp only [Act.put, List.setIfInBounds_toArray, List.set_cons_zero, List.set_cons_succ]
    refine callL 1 rfl (by kernel_rfl) (by rfl) (fun K hK => ?_)
    go_simp
    refine (tuple3_any (x := x) _ (AnsW.keep HXW.out HCR2.out) (HXF.out.binds HXW.out)).mono ?_
    rintro e wx1 ⟨aHM1, nHM1, cHM1, rfl, hb, hm⟩
    have HC1 := Lib.hid hb
    have HCUR := Lib.hid (Below.to HCUR.out hb)
    have HCR2 := Lib.hid (Below.to HCR2.out hb)
    have hm0 := hm
    have HM1 := Lib.hid hm0
    clear hm hm0
    clear hb
    go_simp
    refine hK.out _ _ ?_ (fun hS1 => ?_)
    · exact Below.to hS0 HC1.out
    clear hK K
    refine callL 3 rfl (by kernel_rfl) (by rfl) (fun K hK => ?_)
    go_simp
    refine (tuple3_any (x := y) _ (AnsW.keep HYW.out HCR2.out) (HYF.out.binds HYW.out)).mono ?_
    rintro e wx2 ⟨aHM2, nHM2, cHM2, rfl, hb, hm⟩
    have HC2 := Lib.hid hb
    have HCUR := Lib.hid (Below.to HCUR.out hb)
    have HCR2 := Lib.hid (Below.to HCR2.out hb)
    have hm0 := hm
    have HM1 := Lib.hid (MemW.keep HM1.out hb)
    have HM2 := Lib.hid hm0
    clear hm hm0
    clear hb
    go_simp
    refine hK.out _ _ ?_ (fun hS2 => ?_)
    · exact Below.to hS1 HC2.out
    clear hK K
    refine callL 4 rfl (by kernel_rfl) (by rfl) (fun K hK => ?_)
    go_simp
    refine (rinst_any (p := tupT x) (t := tupT y) _ HM1.out HM2.out HXF.out.big4).mono ?_
    rintro e wx3 ⟨rfl, hb⟩
    have HC3 := Lib.hid hb
    have HCUR := Lib.hid (Below.to HCUR.out hb)
    have HCR2 := Lib.hid (Below.to HCR2.out hb)
    rw [HV1.out]
    clear hb
    go_simp
    refine hK.out _ _ ?_ (fun hS3 => ?_)
    · exact Below.to hS2 HC3.out
    clear hK K
    refine takeL 5 (v := ?_) rfl (by kernel_rfl) (by kernel_rfl) (by kernel_rfl) (fun _ _ _ h => h) (by rfl) ?_ (by assumption) ?_
    rotate_left
    · (intro w hSw; (try dsimp only at hSw); replace x0 := cell_below x0 hSw; replace x1 := cell_below x1 hSw; replace x2 := cell_below x2 hSw; replace x3 := cell_below x3 hSw; replace x4 := cell_below x4 hSw; replace y0 := cell_below y0 hSw; replace y1 := cell_below y1 hSw; replace y2 := cell_below y2 hSw; replace y3 := cell_below y3 hSw; replace y4 := cell_below y4 hSw; go_simp; try with_reducible rfl)
    try simp only [Act.put, List.setIfInBounds_toArray, List.set_cons_zero, List.set_cons_succ]
    refine takeL 6 (v := ?_) rfl (by kernel_rfl) (by kernel_rfl) (by kernel_rfl) (fun _ _ _ h => h) (by rfl) ?_ (by assumption) ?_
    rotate_left
    · (intro w hSw; (try dsimp only at hSw); replace x0 := cell_below x0 hSw; replace x1 := cell_below x1 hSw; replace x2 := cell_below x2 hSw; replace x3 := cell_below x3 hSw; replace x4 := cell_below x4 hSw; replace y0 := cell_below y0 hSw; replace y1 := cell_below y1 hSw; replace y2 := cell_below y2 hSw; replace y3 := cell_below y3 hSw; replace y4 := cell_below y4 hSw; go_simp; try with_reducible rfl)
    try simp only [Act.put, List.setIfInBounds_toArray, List.set_cons_zero, List.set_cons_succ]
    refine takeL 8 (v := ?_) rfl (by kernel_rfl) (by kernel_rfl) (by kernel_rfl) (fun _ _ _ h => h) (by rfl) ?_ (by assumption) ?_
    rotate_left
    · (intro w hSw; (try dsimp only at hSw); replace x0 := cell_below x0 hSw; replace x1 := cell_below x1 hSw; replace x2 := cell_below x2 hSw; replace x3 := cell_below x3 hSw; replace x4 := cell_below x4 hSw; replace y0 := cell_below y0 hSw; replace y1 := cell_below y1 hSw; replace y2 := cell_below y2 hSw; replace y3 := cell_below y3 hSw; replace y4 := cell_below y4 hSw; go_simp; try with_reducible rfl)
    try simp only [Act.put, List.setIfInBounds_toArray, List.set_cons_zero, List.set_cons_succ]
    refine callL 7 rfl (by kernel_rfl) (by rfl) (fun K hK => ?_)
    go_simp
    refine (tuple3_any (x := y) _ (AnsW.keep HYW.out HCR2.out) (HYF.out.binds HYW.out)).mono ?_
    rintro e wx4 ⟨aHM3, nHM3, cHM3, rfl, hb, hm⟩
    have HC4 := Lib.hid hb
    have HCUR := Lib.hid (Below.to HCUR.out hb)
    have HCR2 := Lib.hid (Below.to HCR2.out hb)
    have hm0 := hm
    have HM3 := Lib.hid hm0
    clear hm hm0
    clear hb
    go_simp
    refine hK.out _ _ ?_ (fun hS4 => ?_)
    · exact Below.to hS3 HC4.out
    clear hK K
    refine callL 9 rfl (by kernel_rfl) (by rfl) (fun K hK => ?_)
    go_simp
    refine (tuple3_any (x := x) _ (AnsW.keep HXW.out HCR2.out) (HXF.out.binds HXW.out)).mono ?_
    rintro e wx5 ⟨aHM4, nHM4, cHM4, rfl, hb, hm⟩
    have HC5 := Lib.hid hb
    have HCUR := Lib.hid (Below.to HCUR.out hb)
    have HCR2 := Lib.hid (Below.to HCR2.out hb)
    have hm0 := hm
    have HM3 := Lib.hid (MemW.keep HM3.out hb)
    have HM4 := Lib.hid hm0
    clear hm hm0
    clear hb
    go_simp
    refine hK.out _ _ ?_ (fun hS5 => ?_)
    · exact Below.to hS4 HC5.out
    clear hK K
    refine callL 10 rfl (by kernel_rfl) (by rfl) (fun K hK => ?_)
    go_simp
    refine (rinst_any (p := tupT y) (t := tupT x) _ HM3.out HM4.out HYF.out.big4).mono ?_
    rintro e wx6 ⟨rfl, hb⟩
    have HC6 := Lib.hid hb
    have HCUR := Lib.hid (Below.to HCUR.out hb)
    have HCR2 := Lib.hid (Below.to HCR2.out hb)
    rw [HV2.out]
    clear hb
    go_simp
    refine hK.out _ _ ?_ (fun hS6 => ?_)
    · exact Below.to hS5 HC6.out
    clear hK K
    refine takeL 11 (v := ?_) rfl (by kernel_rfl) (by kernel_rfl) (by kernel_rfl) (fun _ _ _ h => h) (by rfl) ?_ (by assumption) ?_
    rotate_left
    · (intro w hSw; (try dsimp only at hSw); replace x0 := cell_below x0 hSw; replace x1 := cell_below x1 hSw; replace x2 := cell_below x2 hSw; replace x3 := cell_below x3 hSw; replace x4 := cell_below x4 hSw; replace y0 := cell_below y0 hSw; replace y1 := cell_below y1 hSw; replace y2 := cell_below y2 hSw; replace y3 := cell_below y3 hSw; replace y4 := cell_below y4 hSw; go_simp; try with_reducible rfl)
    try simp only [Act.put, List.setIfInBounds_toArray, List.set_cons_zero, List.set_cons_succ]
    refine takeL 12 (v := ?_) rfl (by kernel_rfl) (by kernel_rfl) (by kernel_rfl) (fun _ _ _ h => h) (by rfl) ?_ (by assumption) ?_
    rotate_left
    · (intro w hSw; (try dsimp only at hSw); replace x0 := cell_below x0 hSw; replace x1 := cell_below x1 hSw; replace x2 := cell_below x2 hSw; replace x3 := cell_below x3 hSw; replace x4 := cell_below x4 hSw; replace y0 := cell_below y0 hSw; replace y1 := cell_below y1 hSw; replace y2 := cell_below y2 hSw; replace y3 := cell_below y3 hSw; replace y4 := cell_below y4 hSw; go_simp; try with_reducible rfl)
    try simp only [Act.put, List.setIfInBounds_toArray, List.set_cons_zero, List.set_cons_succ]
    refine wpAnyH_done (by kernel_rfl) ?_ _
    go_wp2_with fail
    go_ret
    exact ⟨by rw [HF.out]; rfl, HCUR.out⟩
/-- How often an answer is in a list. -/
def timesA (l : List Ans) (x : Ans) : Nat := l.countP fun y => sameA y x
theorem timesA_at {l : List Ans} {k : Nat} {y x : Ans} (h : l[k]? = some y) : timesA (l.take (k + 1)) x = timesA (l.take k) x + (if sameA y x then 1 else 0) := by
  rw [take_at h, timesA, List.countP_append, List.countP_cons, List.countP_nil]
  simp only [timesA, Nat.zero_add]
set_option maxRecDepth 100000 in
set_option maxHeartbeats 20000000 in
theorem times_any {l : List Ans} {x : Ans} {n cap : Nat} {a : Option Addr} {pb px : Option Addr} {npb cpb npx cpx : Nat} (w : World) (h : MemW w (.s 5 (ansRows l)) (.slice a n cap)) (hx : AnsW w x pb npb cpb px npx cpx) (hxf : x.fit) (hlf : ∀ y ∈ l, y.fit) (hn : n ≤ 100000) :
    Calls Try.prog 27 #[.slice a n cap, .agg #[.slice pb npb cpb, .int .i64 x.value.kind, .string x.value.name, .int .i64 x.value.n, .slice px npx cpx]] w fun e w' => e = .returned (.int .i64 (timesA l x)) ∧ Below w.heap.size w w' := by
  have hl := ans_len h
  have HL := Lib.hid hl.1
  have hcap := hl.2.1
  have hmx := hl.2.2
  have HB0 := Lib.hid (below_new w (.cells #[.slice pb npb cpb, .int .i64 x.value.kind, .string x.value.name, .int .i64 x.value.n, .slice px npx cpx] 48))
  have HX := Lib.hid (Bo.new w 48 #[.slice pb npb cpb, .int .i64 x.value.kind, .string x.value.name, .int .i64 x.value.n, .slice px npx cpx])
  have HXW := Lib.hid (hx.keep HB0.out)
  have HXF := Lib.hid hxf
  have HLF := Lib.hid hlf
  have H := Lib.hid (MemW.keep h HB0.out)
  have HN := Lib.hid hn
  clear hl h hx hxf hlf hn
  go_enter Try.func27, Try.ntmps27
  go_wp2
  generalize hW : w.alloc (.cells #[.slice pb npb cpb, .int .i64 x.value.kind, .string x.value.name, .int .i64 x.value.n, .slice px npx cpx] 48) = wa at *
  clear hW
  go_loopw [5, 10] (fun v i wr => ∃ (k c : Nat), k ≤ n ∧ i = .int .i64 k ∧ v = .int .i64 c ∧ c ≤ k ∧ Hid (timesA (l.take k) x = c) ∧ Hid (Below wa.heap.size wa wr)) (fun _ i _ => n - (intOf i).toNat)
  case atStart => exact ⟨0, 0, Nat.zero_le _, rfl, rfl, Nat.le_refl _, Lib.hid (by rw [List.take_zero]; rfl), Lib.hid (Below.refl _ _)⟩
  case round =>
    obtain ⟨k, c, hk, rfl, rfl, hck, HT, HB⟩ := hrel
    have HX1 := Lib.hid (HX.out.keep HB.out)
    have hq1 := HX1.out.lt
    by_cases hlt : k < n
    · have hltz : (k : Int) < (n : Int) := by omega
      obtain ⟨b, ob, y, qb, nqb, cqb, qx, nqx, cqx, rfl, hbB, Hy, y0, y1, y2, y3, y4, GB, GV⟩ := ans_at (MemW.keep H.out HB.out) k hlt
      have HBA := Lib.hid (HB.out.alloc HB.out.size (.cells #[.slice qb nqb cqb, .int .i64 y.value.kind, .string y.value.name, .int .i64 y.value.n, .slice qx nqx cqx] 48))
      have HX2 := Lib.hid (HX1.out.alloc (.cells #[.slice qb nqb cqb, .int .i64 y.value.kind, .string y.value.name, .int .i64 y.value.n, .slice qx nqx cqx] 48))
      have HY2 := Lib.hid (Bo.new wr 48 #[.slice qb nqb cqb, .int .i64 y.value.kind, .string y.value.name, .int .i64 y.value.n, .slice qx nqx cqx])
      have HYW : Hid (AnsW (wr.alloc (.cells #[.slice qb nqb cqb, .int .i64 y.value.kind, .string y.value.name, .int .i64 y.value.n, .slice qx nqx cqx] 48)) y qb nqb cqb qx nqx cqx) := Lib.hid (AnsW.keep ⟨GB.out, GV.out⟩ (below_new wr (.cells #[.slice qb nqb cqb, .int .i64 y.value.kind, .string y.value.name, .int .i64 y.value.n, .slice qx nqx cqx] 48)))
      have HT1 := Lib.hid (timesA_at (x := x) Hy.out)
      have HC := Lib.hid (sameR_any (wr.alloc (.cells #[.slice qb nqb cqb, .int .i64 y.value.kind, .string y.value.name, .int .i64 y.value.n, .slice qx nqx cqx] 48)) HYW.out (HXW.out.keep HBA.out) (HLF.out y (mem_of_at Hy.out)) HXF.out)
      obtain ⟨z0, z1, z2, z3, z4⟩ := HX2.out.a5
      obtain ⟨u0, u1, u2, u3, u4⟩ := HY2.out.a5
      have hck2 : (c : Int) < 1000000 := by have := HN.out; omega
      clear GB GV
      cases hr : sameA y x with
      | true =>
        have HT2 : Hid (timesA (l.take (k + 1)) x = c + 1) := Lib.hid (by rw [HT1.out, HT.out, hr]; rfl)
        rw [hr] at HC
        clear hr
        go_wp2_with fail
        refine HC.out.mono ?_
        rintro e w4 ⟨rfl, hb⟩
        have HB4 := Lib.hid (HBA.out.trans (hb.mono HBA.out.size))
        clear hb
        go_wp2_with fail
        go_roundw
        case rel => exact ⟨k + 1, c + 1, by omega, by go_num, by go_num, by omega, HT2, HB4⟩
        case measure => simp [intOf]; omega
      | false =>
        have HT2 : Hid (timesA (l.take (k + 1)) x = c) := Lib.hid (by rw [HT1.out, HT.out, hr]; rfl)
        rw [hr] at HC
        clear hr
        go_wp2_with fail
        refine HC.out.mono ?_
        rintro e w4 ⟨rfl, hb⟩
        have HB4 := Lib.hid (HBA.out.trans (hb.mono HBA.out.size))
        clear hb
        go_wp2_with fail
        go_roundw
        case rel => exact ⟨k + 1, c, by omega, by go_num, rfl, by omega, HT2, HB4⟩
        case measure => simp [intOf]; omega
    · obtain rfl : k = n := by omega
      have hltz : ¬ (k : Int) < (k : Int) := by omega
      have HF : Hid (timesA l x = c) := Lib.hid (by have h1 := HT.out; rwa [List.take_of_length_le (by rw [HL.out]; exact Nat.le_refl _)] at h1)
      go_wp2
      go_ret
      exact ⟨by rw [HF.out]; rfl, HB0.out.trans (HB.out.mono HB0.out.size)⟩
set_option maxRecDepth 100000 in
set_option maxHeartbeats 20000000 in
theorem sameAnswers_any {l : List Ans} {n cap cb : Nat} {a b : Option Addr} (w : World) (ha : MemW w (.s 5 (ansRows l)) (.slice a n cap)) (hb : MemW w (.s 5 (ansRows l)) (.slice b n cb)) (hlf : ∀ y ∈ l, y.fit) (hr : ∀ y ∈ l, sameA y y = true) :
    Calls Try.prog 32 #[.slice a n cap, .slice b n cb] w fun e w' => e = .returned (.bool true) ∧ Below w.heap.size w w' := by
  have hl := ans_len ha
  have hcap := hl.2.1
  have hmx := hl.2.2
  have hcap2 := (ans_len hb).2.1
  have hmx2 := (ans_len hb).2.2
  have HA := Lib.hid ha
  have HB := Lib.hid hb
  have HLF := Lib.hid hlf
  have HR := Lib.hid hr
  clear hl ha hb hlf hr
  have e1 : ((n : Int) != (n : Int)) = false := by simp
  go_enter Try.func32, Try.ntmps32
  go_wp2
  go_loopw [13] (fun i wr => ∃ k : Nat, k ≤ n ∧ i = .int .i64 k ∧ Hid (Below w.heap.size w wr)) (fun i _ => n - (intOf i).toNat)
  case atStart => exact ⟨0, Nat.zero_le _, rfl, Lib.hid (Below.refl _ _)⟩
  case round =>
    obtain ⟨k, hk, rfl, HBR⟩ := hrel
    by_cases hlt : k < n
    · have hltz : (k : Int) < (n : Int) := by omega
      obtain ⟨b1, o1, x, pb, npb, cpb, px, npx, cpx, rfl, hbB, Hx, x0, x1, x2, x3, x4, GB, GV⟩ := ans_at (MemW.keep HA.out HBR.out) k hlt
      obtain ⟨b2, o2, y, qb, nqb, cqb, qx, nqx, cqx, rfl, hbB2, Hy, y0, y1, y2, y3, y4, GB2, GV2⟩ := ans_at (MemW.keep HB.out HBR.out) k hlt
      have hxy : x = y := Option.some.inj (Hx.out.symm.trans Hy.out)
      subst hxy
      have HF := HLF.out x (mem_of_at Hx.out)
      have HC := Lib.hid (sameR_any wr.drew (AnsW.keep ⟨GB.out, GV.out⟩ (below_drew wr)) (AnsW.keep ⟨GB2.out, GV2.out⟩ (below_drew wr)) HF HF)
      rw [HR.out x (mem_of_at Hx.out)] at HC
      clear GB GV GB2 GV2 HF
      go_wp2
      go_still_tail 8, (by kernel_rfl)
      change wpList _ _ _ _ _ wr.drew
      go_wp2_with fail
      refine HC.out.mono ?_
      rintro e w4 ⟨rfl, hb⟩
      have HB4 := Lib.hid (Below.toD HBR.out hb)
      clear hb
      go_wp2_with fail
      go_roundw
      case rel => exact ⟨k + 1, by omega, by go_num, HB4⟩
      case measure => simp [intOf]; omega
    · obtain rfl : k = n := by omega
      have hltz : ¬ (k : Int) < (k : Int) := by omega
      go_wp2
      go_ret
      exact ⟨rfl, HBR.out⟩
/-- Each as often. -/
def ralikeA (a b : List Ans) : Bool := decide (a.length = b.length) && a.all fun x => timesA a x == timesA b x
set_option maxRecDepth 100000 in
set_option maxHeartbeats 20000000 in
theorem ralike_any {la lb : List Ans} {n cap m cb : Nat} {a b : Option Addr} (w : World) (ha : MemW w (.s 5 (ansRows la)) (.slice a n cap)) (hb : MemW w (.s 5 (ansRows lb)) (.slice b m cb)) (haf : ∀ y ∈ la, y.fit) (hbf : ∀ y ∈ lb, y.fit) (hn : n ≤ 100000) :
    Calls Try.prog 33 #[.slice a n cap, .slice b m cb] w fun e w' => e = .returned (.bool (ralikeA la lb)) ∧ Below w.heap.size w w' := by
  have hla := ans_len ha
  have hlb := ans_len hb
  have HLA := Lib.hid hla.1
  have HLB := Lib.hid hlb.1
  have hcap := hla.2.1
  have hmx := hla.2.2
  have HA := Lib.hid ha
  have HB := Lib.hid hb
  have HAF := Lib.hid haf
  have HBF := Lib.hid hbf
  have HN := Lib.hid hn
  clear ha hb haf hbf hn hla hlb
  by_cases hnm : n = m
  · have HE : Hid (ralikeA la lb = la.all fun x => timesA la x == timesA lb x) := Lib.hid (by rw [ralikeA, HLA.out, HLB.out, decide_eq_true hnm]; rfl)
    subst hnm
    have e1 : ((n : Int) != (n : Int)) = false := by simp
    go_enter Try.func33, Try.ntmps33
    go_wp2
    go_loopw [14] (fun i wr => ∃ k : Nat, k ≤ n ∧ i = .int .i64 k ∧ Hid (Below w.heap.size w wr) ∧ Hid ((la.take k).all (fun x => timesA la x == timesA lb x) = true)) (fun i _ => n - (intOf i).toNat)
    case atStart => exact ⟨0, Nat.zero_le _, rfl, Lib.hid (Below.refl _ _), Lib.hid (by rw [List.take_zero]; rfl)⟩
    case round =>
      obtain ⟨k, hk, rfl, HBR, HT⟩ := hrel
      by_cases hlt : k < n
      · have hltz : (k : Int) < (n : Int) := by omega
        obtain ⟨b1, o1, x, pb, npb, cpb, px, npx, cpx, rfl, hbB, Hx, x0, x1, x2, x3, x4, GB, GV⟩ := ans_at (MemW.keep HA.out HBR.out) k hlt
        have HXF := Lib.hid (HAF.out x (mem_of_at Hx.out))
        have HXA : Hid (AnsW (wr.alloc (.cells #[.slice pb npb cpb, .int .i64 x.value.kind, .string x.value.name, .int .i64 x.value.n, .slice px npx cpx] 48)) x pb npb cpb px npx cpx) := Lib.hid (AnsW.keep ⟨GB.out, GV.out⟩ (below_new wr (.cells #[.slice pb npb cpb, .int .i64 x.value.kind, .string x.value.name, .int .i64 x.value.n, .slice px npx cpx] 48)))
        have HX2 := Lib.hid (Bo.new wr 48 #[.slice pb npb cpb, .int .i64 x.value.kind, .string x.value.name, .int .i64 x.value.n, .slice px npx cpx])
        obtain ⟨z0, z1, z2, z3, z4⟩ := HX2.out.a5
        have HBA := Lib.hid (HBR.out.alloc HBR.out.size (.cells #[.slice pb npb cpb, .int .i64 x.value.kind, .string x.value.name, .int .i64 x.value.n, .slice px npx cpx] 48))
        have HCUR := Lib.hid (HBA.out.trans ((below_drew (wr.alloc (.cells #[.slice pb npb cpb, .int .i64 x.value.kind, .string x.value.name, .int .i64 x.value.n, .slice px npx cpx] 48))).mono HBA.out.size))
        have HCR2 : Hid (Below (wr.alloc (.cells #[.slice pb npb cpb, .int .i64 x.value.kind, .string x.value.name, .int .i64 x.value.n, .slice px npx cpx] 48)).heap.size (wr.alloc (.cells #[.slice pb npb cpb, .int .i64 x.value.kind, .string x.value.name, .int .i64 x.value.n, .slice px npx cpx] 48)) (wr.alloc (.cells #[.slice pb npb cpb, .int .i64 x.value.kind, .string x.value.name, .int .i64 x.value.n, .slice px npx cpx] 48)).drew) := Lib.hid (below_drew _)
        have HT1 : Hid ((la.take (k + 1)).all (fun x => timesA la x == timesA lb x) = (timesA la x == timesA lb x)) := Lib.hid (by rw [take_at Hx.out, List.all_append, HT.out]; simp)
        have HFA : Hid ((timesA la x == timesA lb x) = false → la.all (fun x => timesA la x == timesA lb x) = false) := Lib.hid fun h => by
          rw [Bool.eq_false_iff]
          intro hall
          have := List.all_eq_true.1 hall x (mem_of_at Hx.out)
          simp only [h] at this
          cases this
        clear GB GV
        by_cases he : timesA la x = timesA lb x
        · have e2 : (((timesA la x : Nat) : Int) != ((timesA lb x : Nat) : Int)) = false := by rw [he]; simp
          have HT2 : Hid ((la.take (k + 1)).all (fun x => timesA la x == timesA lb x) = true) := Lib.hid (by rw [HT1.out, beq_iff_eq]; exact he)
          clear he HT1 HFA
          go_wp2
          refine wp_region_held_drew (S := fun w' => Below ((wr.alloc (.cells #[.slice pb npb cpb, .int .i64 x.value.kind, .string x.value.name, .int .i64 x.value.n, .slice px npx cpx] 48))).heap.size ((wr.alloc (.cells #[.slice pb npb cpb, .int .i64 x.value.kind, .string x.value.name, .int .i64 x.value.n, .slice px npx cpx] 48))) w') (by kernel_rfl) (below_drew _) (fun hS0 => ?_)
          refine takeL 0 (v := ?_) rfl (by kernel_rfl) (by kernel_rfl) (by kernel_rfl) (fun _ _ _ h => h) (by rfl) ?_ (by assumption) ?_
          rotate_left
          · (intro w hSw; (try dsimp only at hSw); replace z0 := cell_below z0 hSw; replace z1 := cell_below z1 hSw; replace z2 := cell_below z2 hSw; replace z3 := cell_below z3 hSw; replace z4 := cell_below z4 hSw; go_simp; try with_reducible rfl)
          try simp only [Act.put, List.setIfInBounds_toArray, List.set_cons_zero, List.set_cons_succ]
          refine takeL 1 (v := ?_) rfl (by kernel_rfl) (by kernel_rfl) (by kernel_rfl) (fun _ _ _ h => h) (by rfl) ?_ (by assumption) ?_
          rotate_left
          · (intro w hSw; (try dsimp only at hSw); replace z0 := cell_below z0 hSw; replace z1 := cell_below z1 hSw; replace z2 := cell_below z2 hSw; replace z3 := cell_below z3 hSw; replace z4 := cell_below z4 hSw; go_simp; try with_reducible rfl)
          try simp only [Act.put, List.setIfInBounds_toArray, List.set_cons_zero, List.set_cons_succ]
          refine takeL 3 (v := ?_) rfl (by kernel_rfl) (by kernel_rfl) (by kernel_rfl) (fun _ _ _ h => h) (by rfl) ?_ (by assumption) ?_
          rotate_left
          · (intro w hSw; (try dsimp only at hSw); replace z0 := cell_below z0 hSw; replace z1 := cell_below z1 hSw; replace z2 := cell_below z2 hSw; replace z3 := cell_below z3 hSw; replace z4 := cell_below z4 hSw; go_simp; try with_reducible rfl)
          try simp only [Act.put, List.setIfInBounds_toArray, List.set_cons_zero, List.set_cons_succ]
          refine takeL 4 (v := ?_) rfl (by kernel_rfl) (by kernel_rfl) (by kernel_rfl) (fun _ _ _ h => h) (by rfl) ?_ (by assumption) ?_
          rotate_left
          · (intro w hSw; (try dsimp only at hSw); replace z0 := cell_below z0 hSw; replace z1 := cell_below z1 hSw; replace z2 := cell_below z2 hSw; replace z3 := cell_below z3 hSw; replace z4 := cell_below z4 hSw; go_simp; try with_reducible rfl)
          try simp only [Act.put, List.setIfInBounds_toArray, List.set_cons_zero, List.set_cons_succ]
          refine callL 2 rfl (by kernel_rfl) (by rfl) (fun K hK => ?_)
          go_simp
          refine (times_any (l := la) (x := x) _ (MemW.keep HA.out HCUR.out) (AnsW.keep HXA.out HCR2.out) HXF.out HAF.out HN.out).mono ?_
          rintro e wx1 ⟨rfl, hb⟩
          have HC1 := Lib.hid hb
          have HCUR := Lib.hid (Below.to HCUR.out hb)
          have HCR2 := Lib.hid (Below.to HCR2.out hb)
          clear hb
          go_simp
          refine hK.out _ _ ?_ (fun hS1 => ?_)
          · exact Below.to hS0 HC1.out
          clear hK K
          refine callL 5 rfl (by kernel_rfl) (by rfl) (fun K hK => ?_)
          go_simp
          refine (times_any (l := lb) (x := x) _ (MemW.keep HB.out HCUR.out) (AnsW.keep HXA.out HCR2.out) HXF.out HBF.out HN.out).mono ?_
          rintro e wx2 ⟨rfl, hb⟩
          have HC2 := Lib.hid hb
          have HCUR := Lib.hid (Below.to HCUR.out hb)
          have HCR2 := Lib.hid (Below.to HCR2.out hb)
          clear hb
          go_simp
          refine hK.out _ _ ?_ (fun hS2 => ?_)
          · exact Below.to hS1 HC2.out
          clear hK K
          refine takeL 6 (v := ?_) rfl (by kernel_rfl) (by kernel_rfl) (by kernel_rfl) (fun _ _ _ h => h) (by rfl) ?_ (by assumption) ?_
          rotate_left
          · (intro w hSw; (try dsimp only at hSw); replace z0 := cell_below z0 hSw; replace z1 := cell_below z1 hSw; replace z2 := cell_below z2 hSw; replace z3 := cell_below z3 hSw; replace z4 := cell_below z4 hSw; go_simp; try with_reducible rfl)
          try simp only [Act.put, List.setIfInBounds_toArray, List.set_cons_zero, List.set_cons_succ]
          refine wpAnyH_done (by kernel_rfl) ?_ _
          go_wp2_with fail
          go_roundw
          case rel => exact ⟨k + 1, by omega, by go_num, HCUR, HT2⟩
          case measure => simp [intOf]; omega
        · have e2 : (((timesA la x : Nat) : Int) != ((timesA lb x : Nat) : Int)) = true := by simp; omega
          have HF : Hid (ralikeA la lb = false) := Lib.hid (by rw [HE.out, HFA.out (by rw [beq_eq_false_iff_ne]; exact he)])
          clear he HT1 HFA
          go_wp2
          refine wp_region_held_drew (S := fun w' => Below ((wr.alloc (.cells #[.slice pb npb cpb, .int .i64 x.value.kind, .string x.value.name, .int .i64 x.value.n, .slice px npx cpx] 48))).heap.size ((wr.alloc (.cells #[.slice pb npb cpb, .int .i64 x.value.kind, .string x.value.name, .int .i64 x.value.n, .slice px npx cpx] 48))) w') (by kernel_rfl) (below_drew _) (fun hS0 => ?_)
          refine takeL 0 (v := ?_) rfl (by kernel_rfl) (by kernel_rfl) (by kernel_rfl) (fun _ _ _ h => h) (by rfl) ?_ (by assumption) ?_
          rotate_left
          · (intro w hSw; (try dsimp only at hSw); replace z0 := cell_below z0 hSw; replace z1 := cell_below z1 hSw; replace z2 := cell_below z2 hSw; replace z3 := cell_below z3 hSw; replace z4 := cell_below z4 hSw; go_simp; try with_reducible rfl)
          try simp only [Act.put, List.setIfInBounds_toArray, List.set_cons_zero, List.set_cons_succ]
          refine takeL 1 (v := ?_) rfl (by kernel_rfl) (by kernel_rfl) (by kernel_rfl) (fun _ _ _ h => h) (by rfl) ?_ (by assumption) ?_
          rotate_left
          · (intro w hSw; (try dsimp only at hSw); replace z0 := cell_below z0 hSw; replace z1 := cell_below z1 hSw; replace z2 := cell_below z2 hSw; replace z3 := cell_below z3 hSw; replace z4 := cell_below z4 hSw; go_simp; try with_reducible rfl)
          try simp only [Act.put, List.setIfInBounds_toArray, List.set_cons_zero, List.set_cons_succ]
          refine takeL 3 (v := ?_) rfl (by kernel_rfl) (by kernel_rfl) (by kernel_rfl) (fun _ _ _ h => h) (by rfl) ?_ (by assumption) ?_
          rotate_left
          · (intro w hSw; (try dsimp only at hSw); replace z0 := cell_below z0 hSw; replace z1 := cell_below z1 hSw; replace z2 := cell_below z2 hSw; replace z3 := cell_below z3 hSw; replace z4 := cell_below z4 hSw; go_simp; try with_reducible rfl)
          try simp only [Act.put, List.setIfInBounds_toArray, List.set_cons_zero, List.set_cons_succ]
          refine takeL 4 (v := ?_) rfl (by kernel_rfl) (by kernel_rfl) (by kernel_rfl) (fun _ _ _ h => h) (by rfl) ?_ (by assumption) ?_
          rotate_left
          · (intro w hSw; (try dsimp only at hSw); replace z0 := cell_below z0 hSw; replace z1 := cell_below z1 hSw; replace z2 := cell_below z2 hSw; replace z3 := cell_below z3 hSw; replace z4 := cell_below z4 hSw; go_simp; try with_reducible rfl)
          try simp only [Act.put, List.setIfInBounds_toArray, List.set_cons_zero, List.set_cons_succ]
          refine callL 2 rfl (by kernel_rfl) (by rfl) (fun K hK => ?_)
          go_simp
          refine (times_any (l := la) (x := x) _ (MemW.keep HA.out HCUR.out) (AnsW.keep HXA.out HCR2.out) HXF.out HAF.out HN.out).mono ?_
          rintro e wx1 ⟨rfl, hb⟩
          have HC1 := Lib.hid hb
          have HCUR := Lib.hid (Below.to HCUR.out hb)
          have HCR2 := Lib.hid (Below.to HCR2.out hb)
          clear hb
          go_simp
          refine hK.out _ _ ?_ (fun hS1 => ?_)
          · exact Below.to hS0 HC1.out
          clear hK K
          refine callL 5 rfl (by kernel_rfl) (by rfl) (fun K hK => ?_)
          go_simp
          refine (times_any (l := lb) (x := x) _ (MemW.keep HB.out HCUR.out) (AnsW.keep HXA.out HCR2.out) HXF.out HBF.out HN.out).mono ?_
          rintro e wx2 ⟨rfl, hb⟩
          have HC2 := Lib.hid hb
          have HCUR := Lib.hid (Below.to HCUR.out hb)
          have HCR2 := Lib.hid (Below.to HCR2.out hb)
          clear hb
          go_simp
          refine hK.out _ _ ?_ (fun hS2 => ?_)
          · exact Below.to hS1 HC2.out
          clear hK K
          refine takeL 6 (v := ?_) rfl (by kernel_rfl) (by kernel_rfl) (by kernel_rfl) (fun _ _ _ h => h) (by rfl) ?_ (by assumption) ?_
          rotate_left
          · (intro w hSw; (try dsimp only at hSw); replace z0 := cell_below z0 hSw; replace z1 := cell_below z1 hSw; replace z2 := cell_below z2 hSw; replace z3 := cell_below z3 hSw; replace z4 := cell_below z4 hSw; go_simp; try with_reducible rfl)
          try simp only [Act.put, List.setIfInBounds_toArray, List.set_cons_zero, List.set_cons_succ]
          refine wpAnyH_done (by kernel_rfl) ?_ _
          go_wp2_with fail
          go_ret
          exact ⟨by rw [HF.out]; rfl, HCUR.out⟩
      · obtain rfl : k = n := by omega
        have hltz : ¬ (k : Int) < (k : Int) := by omega
        have HF : Hid (ralikeA la lb = true) := Lib.hid (by have h1 := HT.out; rw [List.take_of_length_le (by rw [HLA.out]; exact Nat.le_refl _)] at h1; rw [HE.out]; exact h1)
        go_wp2
        go_ret
        exact ⟨by rw [HF.out]; rfl, HBR.out⟩
  · have HE : Hid (ralikeA la lb = false) := Lib.hid (by rw [ralikeA, HLA.out, HLB.out, decide_eq_false hnm]; rfl)
    have e1 : ((n : Int) != (m : Int)) = true := by simp; omega
    clear hnm
    go_enter Try.func33, Try.ntmps33
    go_wp2
    go_ret
    exact ⟨by rw [HE.out]; rfl, Below.refl _ _⟩
end Go.Proofs.Ytmadfkofmehfkaa
