/-
  answer.Instance, answer.Same. No condition but how the answers lie, and how great they are.
-/
import Derived.Test.YtmadfkofmehfkaaAnsW
import Derived.Test.YtmadfkofmehfkaaSubst4
namespace Go.Proofs.Ytmadfkofmehfkaa
open Go.RowKit Go.Maps

/-- Whether an answer is an instance of another one; whether they are the same. -/
def instA (p a : Ans) : Bool := inst (tupT p) (tupT a)
def sameA (p a : Ans) : Bool := vari (tupT p) (tupT a)
set_option maxRecDepth 100000 in
set_option maxHeartbeats 20000000 in
theorem instA_any {p a : Ans} {pb px ab ax : Option Addr} {npb cpb npx cpx nab cab nax cax : Nat} (w : World) (hp : AnsW w p pb npb cpb px npx cpx) (ha : AnsW w a ab nab cab ax nax cax) (hpf : p.fit) (haf : a.fit) :
    Calls Try.prog 26 #[.agg #[.slice pb npb cpb, .int .i64 p.value.kind, .string p.value.name, .int .i64 p.value.n, .slice px npx cpx], .agg #[.slice ab nab cab, .int .i64 a.value.kind, .string a.value.name, .int .i64 a.value.n, .slice ax nax cax]] w fun e w' => e = .returned (.bool (instA p a)) ∧ Below w.heap.size w w' := by
  have HB0 := Lib.hid ((below_new w (.cells #[.slice pb npb cpb, .int .i64 p.value.kind, .string p.value.name, .int .i64 p.value.n, .slice px npx cpx] 48)).alloc (below_new w (.cells #[.slice pb npb cpb, .int .i64 p.value.kind, .string p.value.name, .int .i64 p.value.n, .slice px npx cpx] 48)).size (.cells #[.slice ab nab cab, .int .i64 a.value.kind, .string a.value.name, .int .i64 a.value.n, .slice ax nax cax] 48))
  have HX := Lib.hid ((Bo.new w 48 #[.slice pb npb cpb, .int .i64 p.value.kind, .string p.value.name, .int .i64 p.value.n, .slice px npx cpx]).alloc (.cells #[.slice ab nab cab, .int .i64 a.value.kind, .string a.value.name, .int .i64 a.value.n, .slice ax nax cax] 48))
  have HY := Lib.hid (World.size_alloc w (.cells #[.slice pb npb cpb, .int .i64 p.value.kind, .string p.value.name, .int .i64 p.value.n, .slice px npx cpx] 48) ▸ Bo.new (w.alloc (.cells #[.slice pb npb cpb, .int .i64 p.value.kind, .string p.value.name, .int .i64 p.value.n, .slice px npx cpx] 48)) 48 #[.slice ab nab cab, .int .i64 a.value.kind, .string a.value.name, .int .i64 a.value.n, .slice ax nax cax])
  have HP := Lib.hid (hp.keep HB0.out)
  have HA := Lib.hid (ha.keep HB0.out)
  have HPF := Lib.hid hpf
  have HAF := Lib.hid haf
  have tok1 : True := trivial
  have x0 : ((w.alloc (.cells #[.slice pb npb cpb, .int .i64 p.value.kind, .string p.value.name, .int .i64 p.value.n, .slice px npx cpx] 48)).alloc (.cells #[.slice ab nab cab, .int .i64 a.value.kind, .string a.value.name, .int .i64 a.value.n, .slice ax nax cax] 48)).cell? ⟨w.heap.size, 0, none⟩ = some (.slice pb npb cpb) := HX.out.cell (j := 0) rfl
  have x1 : ((w.alloc (.cells #[.slice pb npb cpb, .int .i64 p.value.kind, .string p.value.name, .int .i64 p.value.n, .slice px npx cpx] 48)).alloc (.cells #[.slice ab nab cab, .int .i64 a.value.kind, .string a.value.name, .int .i64 a.value.n, .slice ax nax cax] 48)).cell? ⟨w.heap.size, 1, none⟩ = some (.int .i64 p.value.kind) := HX.out.cell (j := 1) rfl
  have x2 : ((w.alloc (.cells #[.slice pb npb cpb, .int .i64 p.value.kind, .string p.value.name, .int .i64 p.value.n, .slice px npx cpx] 48)).alloc (.cells #[.slice ab nab cab, .int .i64 a.value.kind, .string a.value.name, .int .i64 a.value.n, .slice ax nax cax] 48)).cell? ⟨w.heap.size, 2, none⟩ = some (.string p.value.name) := HX.out.cell (j := 2) rfl
  have x3 : ((w.alloc (.cells #[.slice pb npb cpb, .int .i64 p.value.kind, .string p.value.name, .int .i64 p.value.n, .slice px npx cpx] 48)).alloc (.cells #[.slice ab nab cab, .int .i64 a.value.kind, .string a.value.name, .int .i64 a.value.n, .slice ax nax cax] 48)).cell? ⟨w.heap.size, 3, none⟩ = some (.int .i64 p.value.n) := HX.out.cell (j := 3) rfl
  have x4 : ((w.alloc (.cells #[.slice pb npb cpb, .int .i64 p.value.kind, .string p.value.name, .int .i64 p.value.n, .slice px npx cpx] 48)).alloc (.cells #[.slice ab nab cab, .int .i64 a.value.kind, .string a.value.name, .int .i64 a.value.n, .slice ax nax cax] 48)).cell? ⟨w.heap.size, 4, none⟩ = some (.slice px npx cpx) := HX.out.cell (j := 4) rfl
  have y0 : ((w.alloc (.cells #[.slice pb npb cpb, .int .i64 p.value.kind, .string p.value.name, .int .i64 p.value.n, .slice px npx cpx] 48)).alloc (.cells #[.slice ab nab cab, .int .i64 a.value.kind, .string a.value.name, .int .i64 a.value.n, .slice ax nax cax] 48)).cell? ⟨w.heap.size + 1, 0, none⟩ = some (.slice ab nab cab) := HY.out.cell (j := 0) rfl
  have y1 : ((w.alloc (.cells #[.slice pb npb cpb, .int .i64 p.value.kind, .string p.value.name, .int .i64 p.value.n, .slice px npx cpx] 48)).alloc (.cells #[.slice ab nab cab, .int .i64 a.value.kind, .string a.value.name, .int .i64 a.value.n, .slice ax nax cax] 48)).cell? ⟨w.heap.size + 1, 1, none⟩ = some (.int .i64 a.value.kind) := HY.out.cell (j := 1) rfl
  have y2 : ((w.alloc (.cells #[.slice pb npb cpb, .int .i64 p.value.kind, .string p.value.name, .int .i64 p.value.n, .slice px npx cpx] 48)).alloc (.cells #[.slice ab nab cab, .int .i64 a.value.kind, .string a.value.name, .int .i64 a.value.n, .slice ax nax cax] 48)).cell? ⟨w.heap.size + 1, 2, none⟩ = some (.string a.value.name) := HY.out.cell (j := 2) rfl
  have y3 : ((w.alloc (.cells #[.slice pb npb cpb, .int .i64 p.value.kind, .string p.value.name, .int .i64 p.value.n, .slice px npx cpx] 48)).alloc (.cells #[.slice ab nab cab, .int .i64 a.value.kind, .string a.value.name, .int .i64 a.value.n, .slice ax nax cax] 48)).cell? ⟨w.heap.size + 1, 3, none⟩ = some (.int .i64 a.value.n) := HY.out.cell (j := 3) rfl
  have y4 : ((w.alloc (.cells #[.slice pb npb cpb, .int .i64 p.value.kind, .string p.value.name, .int .i64 p.value.n, .slice px npx cpx] 48)).alloc (.cells #[.slice ab nab cab, .int .i64 a.value.kind, .string a.value.name, .int .i64 a.value.n, .slice ax nax cax] 48)).cell? ⟨w.heap.size + 1, 4, none⟩ = some (.slice ax nax cax) := HY.out.cell (j := 4) rfl
  clear hp ha hpf haf
  go_enter Try.func26, Try.ntmps26
  go_wp2
  go_region_held3 (fun w' => w'.cell? ⟨w.heap.size, 0, none⟩ = some (.slice pb npb cpb) ∧ w'.cell? ⟨w.heap.size, 1, none⟩ = some (.int .i64 p.value.kind) ∧ w'.cell? ⟨w.heap.size, 2, none⟩ = some (.string p.value.name) ∧ w'.cell? ⟨w.heap.size, 3, none⟩ = some (.int .i64 p.value.n) ∧ w'.cell? ⟨w.heap.size, 4, none⟩ = some (.slice px npx cpx) ∧ w'.cell? ⟨w.heap.size + 1, 0, none⟩ = some (.slice ab nab cab) ∧ w'.cell? ⟨w.heap.size + 1, 1, none⟩ = some (.int .i64 a.value.kind) ∧ w'.cell? ⟨w.heap.size + 1, 2, none⟩ = some (.string a.value.name) ∧ w'.cell? ⟨w.heap.size + 1, 3, none⟩ = some (.int .i64 a.value.n) ∧ w'.cell? ⟨w.heap.size + 1, 4, none⟩ = some (.slice ax nax cax))
    ((repeat' apply And.intro) <;> (repeat (first | with_reducible assumption | with_reducible refine cell_drew ?_ | with_reducible refine cell_alloc _ ?_ | with_reducible refine cell_row_far _ ?_ (by omega) | with_reducible refine cell_below ?_ HB5.out | with_reducible refine cell_below ?_ HB6.out | with_reducible refine cell_below ?_ HB7.out)))
    (first
      | (go_at_call 51
         have _t := tok1
         clear _t tok1
         refine (tuple_any (x := p) ((w.alloc (.cells #[.slice pb npb cpb, .int .i64 p.value.kind, .string p.value.name, .int .i64 p.value.n, .slice px npx cpx] 48)).alloc (.cells #[.slice ab nab cab, .int .i64 a.value.kind, .string a.value.name, .int .i64 a.value.n, .slice ax nax cax] 48)).drew (MemW.drew HP.out.1) (MemW.drew HP.out.2) (HPF.out.binds HP.out)).mono ?_
         rintro e w5 ⟨a5, n5, c5, rfl, hb5, hm5⟩
         have HB5 := Lib.hid (Below.one hb5)
         have HM5 := Lib.hid hm5
         clear hb5 hm5)
      | (go_at_call 51
         refine (tuple_any (x := a) w5 (MemW.keep HA.out.1 HB5.out) (MemW.keep HA.out.2 HB5.out) (HAF.out.binds HA.out)).mono ?_
         rintro e w6 ⟨a6, n6, c6, rfl, hb6, hm6⟩
         have HB6 := Lib.hid hb6
         have HM6 := Lib.hid hm6
         have HM5b := Lib.hid (MemW.keep HM5.out HB6.out)
         clear hb6 hm6)
      | (go_at_call 11
         refine (instance_any (p := tupT p) (t := tupT a) w6 HM5b.out HM6.out HPF.out.big HPF.out.1).mono ?_
         rintro e w7 ⟨rfl, hb7⟩
         have HB7 := Lib.hid hb7
         have HBZ := Lib.hid (HB0.out.trans ((HB5.out.trans ((HB6.out.trans (hb7.mono HB6.out.size)).mono HB5.out.size)).mono HB0.out.size))
         clear hb7)
      | fail)
  all_goals go_wp2
  all_goals go_ret
  all_goals exact ⟨rfl, HBZ.out⟩
set_option maxRecDepth 100000 in
set_option maxHeartbeats 20000000 in
theorem sameA_any {p a : Ans} {pb px ab ax : Option Addr} {npb cpb npx cpx nab cab nax cax : Nat} (w : World) (hp : AnsW w p pb npb cpb px npx cpx) (ha : AnsW w a ab nab cab ax nax cax) (hpf : p.fit) (haf : a.fit) :
    Calls Try.prog 24 #[.agg #[.slice pb npb cpb, .int .i64 p.value.kind, .string p.value.name, .int .i64 p.value.n, .slice px npx cpx], .agg #[.slice ab nab cab, .int .i64 a.value.kind, .string a.value.name, .int .i64 a.value.n, .slice ax nax cax]] w fun e w' => e = .returned (.bool (sameA p a)) ∧ Below w.heap.size w w' := by
  have HB0 := Lib.hid ((below_new w (.cells #[.slice pb npb cpb, .int .i64 p.value.kind, .string p.value.name, .int .i64 p.value.n, .slice px npx cpx] 48)).alloc (below_new w (.cells #[.slice pb npb cpb, .int .i64 p.value.kind, .string p.value.name, .int .i64 p.value.n, .slice px npx cpx] 48)).size (.cells #[.slice ab nab cab, .int .i64 a.value.kind, .string a.value.name, .int .i64 a.value.n, .slice ax nax cax] 48))
  have HX := Lib.hid ((Bo.new w 48 #[.slice pb npb cpb, .int .i64 p.value.kind, .string p.value.name, .int .i64 p.value.n, .slice px npx cpx]).alloc (.cells #[.slice ab nab cab, .int .i64 a.value.kind, .string a.value.name, .int .i64 a.value.n, .slice ax nax cax] 48))
  have HY := Lib.hid (World.size_alloc w (.cells #[.slice pb npb cpb, .int .i64 p.value.kind, .string p.value.name, .int .i64 p.value.n, .slice px npx cpx] 48) ▸ Bo.new (w.alloc (.cells #[.slice pb npb cpb, .int .i64 p.value.kind, .string p.value.name, .int .i64 p.value.n, .slice px npx cpx] 48)) 48 #[.slice ab nab cab, .int .i64 a.value.kind, .string a.value.name, .int .i64 a.value.n, .slice ax nax cax])
  have HP := Lib.hid (hp.keep HB0.out)
  have HA := Lib.hid (ha.keep HB0.out)
  have HPF := Lib.hid hpf
  have HAF := Lib.hid haf
  have tok1 : True := trivial
  have x0 : ((w.alloc (.cells #[.slice pb npb cpb, .int .i64 p.value.kind, .string p.value.name, .int .i64 p.value.n, .slice px npx cpx] 48)).alloc (.cells #[.slice ab nab cab, .int .i64 a.value.kind, .string a.value.name, .int .i64 a.value.n, .slice ax nax cax] 48)).cell? ⟨w.heap.size, 0, none⟩ = some (.slice pb npb cpb) := HX.out.cell (j := 0) rfl
  have x1 : ((w.alloc (.cells #[.slice pb npb cpb, .int .i64 p.value.kind, .string p.value.name, .int .i64 p.value.n, .slice px npx cpx] 48)).alloc (.cells #[.slice ab nab cab, .int .i64 a.value.kind, .string a.value.name, .int .i64 a.value.n, .slice ax nax cax] 48)).cell? ⟨w.heap.size, 1, none⟩ = some (.int .i64 p.value.kind) := HX.out.cell (j := 1) rfl
  have x2 : ((w.alloc (.cells #[.slice pb npb cpb, .int .i64 p.value.kind, .string p.value.name, .int .i64 p.value.n, .slice px npx cpx] 48)).alloc (.cells #[.slice ab nab cab, .int .i64 a.value.kind, .string a.value.name, .int .i64 a.value.n, .slice ax nax cax] 48)).cell? ⟨w.heap.size, 2, none⟩ = some (.string p.value.name) := HX.out.cell (j := 2) rfl
  have x3 : ((w.alloc (.cells #[.slice pb npb cpb, .int .i64 p.value.kind, .string p.value.name, .int .i64 p.value.n, .slice px npx cpx] 48)).alloc (.cells #[.slice ab nab cab, .int .i64 a.value.kind, .string a.value.name, .int .i64 a.value.n, .slice ax nax cax] 48)).cell? ⟨w.heap.size, 3, none⟩ = some (.int .i64 p.value.n) := HX.out.cell (j := 3) rfl
  have x4 : ((w.alloc (.cells #[.slice pb npb cpb, .int .i64 p.value.kind, .string p.value.name, .int .i64 p.value.n, .slice px npx cpx] 48)).alloc (.cells #[.slice ab nab cab, .int .i64 a.value.kind, .string a.value.name, .int .i64 a.value.n, .slice ax nax cax] 48)).cell? ⟨w.heap.size, 4, none⟩ = some (.slice px npx cpx) := HX.out.cell (j := 4) rfl
  have y0 : ((w.alloc (.cells #[.slice pb npb cpb, .int .i64 p.value.kind, .string p.value.name, .int .i64 p.value.n, .slice px npx cpx] 48)).alloc (.cells #[.slice ab nab cab, .int .i64 a.value.kind, .string a.value.name, .int .i64 a.value.n, .slice ax nax cax] 48)).cell? ⟨w.heap.size + 1, 0, none⟩ = some (.slice ab nab cab) := HY.out.cell (j := 0) rfl
  have y1 : ((w.alloc (.cells #[.slice pb npb cpb, .int .i64 p.value.kind, .string p.value.name, .int .i64 p.value.n, .slice px npx cpx] 48)).alloc (.cells #[.slice ab nab cab, .int .i64 a.value.kind, .string a.value.name, .int .i64 a.value.n, .slice ax nax cax] 48)).cell? ⟨w.heap.size + 1, 1, none⟩ = some (.int .i64 a.value.kind) := HY.out.cell (j := 1) rfl
  have y2 : ((w.alloc (.cells #[.slice pb npb cpb, .int .i64 p.value.kind, .string p.value.name, .int .i64 p.value.n, .slice px npx cpx] 48)).alloc (.cells #[.slice ab nab cab, .int .i64 a.value.kind, .string a.value.name, .int .i64 a.value.n, .slice ax nax cax] 48)).cell? ⟨w.heap.size + 1, 2, none⟩ = some (.string a.value.name) := HY.out.cell (j := 2) rfl
  have y3 : ((w.alloc (.cells #[.slice pb npb cpb, .int .i64 p.value.kind, .string p.value.name, .int .i64 p.value.n, .slice px npx cpx] 48)).alloc (.cells #[.slice ab nab cab, .int .i64 a.value.kind, .string a.value.name, .int .i64 a.value.n, .slice ax nax cax] 48)).cell? ⟨w.heap.size + 1, 3, none⟩ = some (.int .i64 a.value.n) := HY.out.cell (j := 3) rfl
  have y4 : ((w.alloc (.cells #[.slice pb npb cpb, .int .i64 p.value.kind, .string p.value.name, .int .i64 p.value.n, .slice px npx cpx] 48)).alloc (.cells #[.slice ab nab cab, .int .i64 a.value.kind, .string a.value.name, .int .i64 a.value.n, .slice ax nax cax] 48)).cell? ⟨w.heap.size + 1, 4, none⟩ = some (.slice ax nax cax) := HY.out.cell (j := 4) rfl
  clear hp ha hpf haf
  go_enter Try.func24, Try.ntmps24
  go_wp2
  go_region_held3 (fun w' => w'.cell? ⟨w.heap.size, 0, none⟩ = some (.slice pb npb cpb) ∧ w'.cell? ⟨w.heap.size, 1, none⟩ = some (.int .i64 p.value.kind) ∧ w'.cell? ⟨w.heap.size, 2, none⟩ = some (.string p.value.name) ∧ w'.cell? ⟨w.heap.size, 3, none⟩ = some (.int .i64 p.value.n) ∧ w'.cell? ⟨w.heap.size, 4, none⟩ = some (.slice px npx cpx) ∧ w'.cell? ⟨w.heap.size + 1, 0, none⟩ = some (.slice ab nab cab) ∧ w'.cell? ⟨w.heap.size + 1, 1, none⟩ = some (.int .i64 a.value.kind) ∧ w'.cell? ⟨w.heap.size + 1, 2, none⟩ = some (.string a.value.name) ∧ w'.cell? ⟨w.heap.size + 1, 3, none⟩ = some (.int .i64 a.value.n) ∧ w'.cell? ⟨w.heap.size + 1, 4, none⟩ = some (.slice ax nax cax))
    ((repeat' apply And.intro) <;> (repeat (first | with_reducible assumption | with_reducible refine cell_drew ?_ | with_reducible refine cell_alloc _ ?_ | with_reducible refine cell_row_far _ ?_ (by omega) | with_reducible refine cell_below ?_ HB5.out | with_reducible refine cell_below ?_ HB6.out | with_reducible refine cell_below ?_ HB7.out)))
    (first
      | (go_at_call 51
         have _t := tok1
         clear _t tok1
         refine (tuple_any (x := p) ((w.alloc (.cells #[.slice pb npb cpb, .int .i64 p.value.kind, .string p.value.name, .int .i64 p.value.n, .slice px npx cpx] 48)).alloc (.cells #[.slice ab nab cab, .int .i64 a.value.kind, .string a.value.name, .int .i64 a.value.n, .slice ax nax cax] 48)).drew (MemW.drew HP.out.1) (MemW.drew HP.out.2) (HPF.out.binds HP.out)).mono ?_
         rintro e w5 ⟨a5, n5, c5, rfl, hb5, hm5⟩
         have HB5 := Lib.hid (Below.one hb5)
         have HM5 := Lib.hid hm5
         clear hb5 hm5)
      | (go_at_call 51
         refine (tuple_any (x := a) w5 (MemW.keep HA.out.1 HB5.out) (MemW.keep HA.out.2 HB5.out) (HAF.out.binds HA.out)).mono ?_
         rintro e w6 ⟨a6, n6, c6, rfl, hb6, hm6⟩
         have HB6 := Lib.hid hb6
         have HM6 := Lib.hid hm6
         have HM5b := Lib.hid (MemW.keep HM5.out HB6.out)
         clear hb6 hm6)
      | (go_at_call 10
         refine (variant_any (p := tupT p) (t := tupT a) w6 HM5b.out HM6.out HPF.out.big HAF.out.big HPF.out.1 HAF.out.1).mono ?_
         rintro e w7 ⟨rfl, hb7⟩
         have HB7 := Lib.hid hb7
         have HBZ := Lib.hid (HB0.out.trans ((HB5.out.trans ((HB6.out.trans (hb7.mono HB6.out.size)).mono HB5.out.size)).mono HB0.out.size))
         clear hb7)
      | fail)
  all_goals go_wp2
  all_goals go_ret
  all_goals exact ⟨rfl, HBZ.out⟩
end Go.Proofs.Ytmadfkofmehfkaa
